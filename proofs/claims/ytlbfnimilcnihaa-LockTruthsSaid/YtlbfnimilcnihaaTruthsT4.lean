/- X9, LkIf, X6, X7, ExX10, X10, ExX11, X11, ExX12, X12, ExX13: what LockTruthsProof needs of them (merged by trimpack.py). -/
import Derived.Test.YtlbfnimilcnihaaTruthsT3
set_option linter.unusedVariables false
set_option linter.unusedSimpArgs false
namespace Go.Proofs.Ytlbfnimilcnihaa
open Go Go.RowKit
theorem QFm {q : QS} {d : Dr} {v : Value} {w : World} {B : Nat} {A0 A1 : Option Addr} {c0 c1 : Nat} (hd : RdDr w B v d) (hB : B ≤ w.heap.size) :
  Calls Try.prog 63 #[v, .agg #[.slice A0 (q false).length c0, .slice A1 (q true).length c1]] w fun e w' => e = .returned (.bool (Yx q d.s)) ∧ Below w.heap.size w w' := by
 obtain ⟨bd, sl, rfl, hb1, hd1, hd2⟩ := hd.at_;have hbw := Below.refl w.heap.size w;refine EC.enter 27 Try.func63 rfl rfl rfl (EC.seq (EC.region (EL.newP (QKU rfl) rfl ?_)));intro g1 w1 q1 hb1 hg1 hl1;have bhbw_1 := Nat.le_trans hbw.size hg1;replace hbw := bo_ hbw hb1;clear hb1 hg1 hl1;refine EL.as rfl rfl (EL.nil (EX.seq (EC.seq ?_)))
 by_cases h0 : d.s.t0 = (q false).length
 ·
  by_cases h1 : d.s.t1 = (q true).length
  ·
   refine EC.regionQ (by kernel_rfl) (by kernel_rfl) ?_
   refine EQ.mv rfl rfl ?_;refine EQ.val (fun _ hw => (ZH rfl)) rfl ?_
   refine EQ.val (fun _ hw => (Ze rfl)) rfl ?_
   refine EQ.val (fun _ hw => (Zp rfl)) rfl ?_
   refine EQ.val (fun _ hw => (Zj (k := 0) rfl rfl (by omega))) rfl ?_
   refine EQ.val (fun _ hw => (ld_3 rfl (ZC hw (ZC hbw (hd1 12 _ rfl))))) rfl ?_
   refine EQ.val (fun _ hw => (YD (k := 0) rfl rfl (by omega))) rfl ?_
   refine EQ.val (fun _ hw => (QAI rfl (ZC hw (q1.at (j := 0) rfl)))) rfl ?_
   refine EQ.val (fun _ hw => (Yg rfl)) rfl ?_
   refine EQ.val (fun _ hw => (Zx (r := true) rfl rfl (decide_eq_true (by omega)))) rfl ?_
   refine EQ.mv rfl rfl (EQ.mg rfl rfl rfl rfl ?_);refine EQ.valg rfl rfl (fun _ hw => (ZH rfl)) rfl ?_
   refine EQ.valg rfl rfl (fun _ hw => (Ze rfl)) rfl ?_
   refine EQ.valg rfl rfl (fun _ hw => (Zp rfl)) rfl ?_
   refine EQ.valg rfl rfl (fun _ hw => (Zj (k := 1) rfl rfl (by omega))) rfl ?_
   refine EQ.valg rfl rfl (fun _ hw => (ld_3 rfl (ZC hw (ZC hbw (hd1 13 _ rfl))))) rfl ?_
   refine EQ.valg rfl rfl (fun _ hw => (YD (k := 1) rfl rfl (by omega))) rfl ?_
   refine EQ.valg rfl rfl (fun _ hw => (QAI rfl (ZC hw (q1.at (j := 1) rfl)))) rfl ?_
   refine EQ.valg rfl rfl (fun _ hw => (Yg rfl)) rfl ?_
   refine EQ.valg rfl rfl (fun _ hw => (Zx (r := true) rfl rfl (decide_eq_true (by omega)))) rfl ?_
   refine EQ.val (fun _ hw => (YH rfl rfl)) rfl ?_
   refine EQ.val (fun _ hw => (ZZ rfl)) rfl ?_
   refine EQ.fin (fun w2 hw_ => ?_)
   replace q1 := q1.bl hw_;replace hbw := bo_ hbw hw_;clear hw_;refine EX.seq (EC.ret ?_)
   exact EX.done (res1 rfl rfl) ⟨by unfold Yx; simp [*], hbw⟩
  ·
   refine EC.regionQ (by kernel_rfl) (by kernel_rfl) ?_
   refine EQ.mv rfl rfl ?_;refine EQ.val (fun _ hw => (ZH rfl)) rfl ?_
   refine EQ.val (fun _ hw => (Ze rfl)) rfl ?_
   refine EQ.val (fun _ hw => (Zp rfl)) rfl ?_
   refine EQ.val (fun _ hw => (Zj (k := 0) rfl rfl (by omega))) rfl ?_
   refine EQ.val (fun _ hw => (ld_3 rfl (ZC hw (ZC hbw (hd1 12 _ rfl))))) rfl ?_
   refine EQ.val (fun _ hw => (YD (k := 0) rfl rfl (by omega))) rfl ?_
   refine EQ.val (fun _ hw => (QAI rfl (ZC hw (q1.at (j := 0) rfl)))) rfl ?_
   refine EQ.val (fun _ hw => (Yg rfl)) rfl ?_
   refine EQ.val (fun _ hw => (Zx (r := true) rfl rfl (decide_eq_true (by omega)))) rfl ?_
   refine EQ.mv rfl rfl (EQ.mg rfl rfl rfl rfl ?_);refine EQ.valg rfl rfl (fun _ hw => (ZH rfl)) rfl ?_
   refine EQ.valg rfl rfl (fun _ hw => (Ze rfl)) rfl ?_
   refine EQ.valg rfl rfl (fun _ hw => (Zp rfl)) rfl ?_
   refine EQ.valg rfl rfl (fun _ hw => (Zj (k := 1) rfl rfl (by omega))) rfl ?_
   refine EQ.valg rfl rfl (fun _ hw => (ld_3 rfl (ZC hw (ZC hbw (hd1 13 _ rfl))))) rfl ?_
   refine EQ.valg rfl rfl (fun _ hw => (YD (k := 1) rfl rfl (by omega))) rfl ?_
   refine EQ.valg rfl rfl (fun _ hw => (QAI rfl (ZC hw (q1.at (j := 1) rfl)))) rfl ?_
   refine EQ.valg rfl rfl (fun _ hw => (Yg rfl)) rfl ?_
   refine EQ.valg rfl rfl (fun _ hw => (Zx (r := false) rfl rfl (decide_eq_false (by omega)))) rfl ?_
   refine EQ.val (fun _ hw => (YH rfl rfl)) rfl ?_
   refine EQ.val (fun _ hw => (ZZ rfl)) rfl ?_
   refine EQ.fin (fun w3 hw_ => ?_)
   replace q1 := q1.bl hw_;replace hbw := bo_ hbw hw_;clear hw_;refine EX.seq (EC.ret ?_)
   exact EX.done (res1 rfl rfl) ⟨by unfold Yx; simp [*], hbw⟩
 ·
  refine EC.regionQ (by kernel_rfl) (by kernel_rfl) ?_
  refine EQ.mv rfl rfl ?_;refine EQ.val (fun _ hw => (ZH rfl)) rfl ?_
  refine EQ.val (fun _ hw => (Ze rfl)) rfl ?_
  refine EQ.val (fun _ hw => (Zp rfl)) rfl ?_
  refine EQ.val (fun _ hw => (Zj (k := 0) rfl rfl (by omega))) rfl ?_
  refine EQ.val (fun _ hw => (ld_3 rfl (ZC hw (ZC hbw (hd1 12 _ rfl))))) rfl ?_
  refine EQ.val (fun _ hw => (YD (k := 0) rfl rfl (by omega))) rfl ?_
  refine EQ.val (fun _ hw => (QAI rfl (ZC hw (q1.at (j := 0) rfl)))) rfl ?_
  refine EQ.val (fun _ hw => (Yg rfl)) rfl ?_
  refine EQ.val (fun _ hw => (Zx (r := false) rfl rfl (decide_eq_false (by omega)))) rfl ?_
  refine EQ.mv rfl rfl (EQ.skip rfl rfl rfl rfl (EQ.skip rfl rfl rfl rfl (EQ.skip rfl rfl rfl rfl (EQ.skip rfl rfl rfl rfl (EQ.skip rfl rfl rfl rfl (EQ.skip rfl rfl rfl rfl (EQ.skip rfl rfl rfl rfl (EQ.skip rfl rfl rfl rfl (EQ.skip rfl rfl rfl rfl ?_)))))))));refine EQ.skip rfl rfl rfl rfl ?_;refine EQ.val (fun _ hw => (Zz rfl rfl)) rfl ?_
  refine EQ.val (fun _ hw => (ZZ rfl)) rfl ?_
  refine EQ.fin (fun w4 hw_ => ?_)
  replace q1 := q1.bl hw_;replace hbw := bo_ hbw hw_;clear hw_;refine EX.seq (EC.ret ?_)
  exact EX.done (res1 rfl rfl) ⟨by unfold Yx; simp [*], hbw⟩
theorem QMA {n : Nat} {σ : Sg} {w : World} {dst : Option Tmp} {ty : TypeId} {pos : String} {af : Array Edge} {g : Option (Nat × Bool)} {x y z : Operand} {W : World} {A : Option Addr} {m c base e size : Nat} {xs : List Value} (ho : W.ownsRow base e size (.slice A m c) m xs) (hx : evS σ x = some (.slice A m c)) (hy : evS σ y = some (.int .i64 (m : Int))) (hz : evS σ z = some (.int .i64 (m : Int))) : ZI Try.prog n σ w ⟨dst, .slice 25 x none (some y) (some z), ty, pos, af, g⟩ (.slice A m m) := fun a ha => by
 have k0 : (0 : Int) ≤ (m : Int) := Int.natCast_nonneg _
 simp only [execOp, Option.map_some, Option.map_none, ha.eval hx, ha.eval hy, ha.eval hz]
 obtain ⟨_, ⟨h, hm⟩ | ⟨b, cap, cur, h, _, _, hc, _⟩⟩ := ho
 ·simp only [Value.slice.injEq] at h
  obtain ⟨rfl, rfl, rfl⟩ := h
  simp [go_sem]
 ·simp only [Value.slice.injEq] at h
  obtain ⟨rfl, _, rfl⟩ := h;have k3 : (m : Int) ≤ (c : Int) := by omega
  by_cases e : m = 0
  ·subst e; simp [go_sem]
  ·simp [go_sem, k0, k3, hc, e]
theorem QGu {W : World} {A : Option Addr} {m c base e size : Nat} {xs : List Value} (w : World) (ho : W.ownsRow base e size (.slice A m c) m xs) : Calls Try.prog 82 #[.slice A m c] w fun e w' => e = .returned (.slice A m m) ∧ Below w.heap.size w w' := by
 have hbw := Below.refl w.heap.size w;refine EC.enter 9 Try.func82 rfl rfl rfl (EC.seq (EC.region (EL.as rfl rfl (EL.nil (EX.seq (EC.seq (EC.region (EL.mv rfl rfl (EL.mv rfl rfl ?_)))))))));refine EL.val (QB0 rfl) rfl (EL.mv rfl rfl (EL.val (QB0 rfl) rfl (EL.val (QMA ho rfl rfl rfl) rfl (EL.as rfl rfl (EL.nil (EX.seq (EC.ret ?_)))))))
 exact EX.done (res1 rfl rfl) ⟨rfl, hbw⟩
theorem QHm {b : Nat} {s0 s1 : Value} {A0 A1 : Option Addr} {n0 n1 c0 c1 : Nat} (w : World) (h0 : s0 = .slice A0 n0 c0) (h1 : s1 = .slice A1 n1 c1) : Calls Try.prog 64 #[.pointer (some ⟨b, 0, none⟩), .agg #[s0, s1]] w fun e w' => (∃ g2 g3, e = .returned (.func (.func 81) #[] #[.pointer (some ⟨g3, 0, none⟩), .pointer (some ⟨g2, 0, none⟩)]) ∧ Blk w' g2 122 #[.pointer (some ⟨b, 0, none⟩)] ∧ Blk w' g3 134 #[s0, s1] ∧ w.heap.size ≤ g2 ∧ w.heap.size ≤ g3) ∧ Below w.heap.size w w' := by
 subst h0 h1;have hbw := Below.refl w.heap.size w;refine EC.enter 6 Try.func64 rfl rfl rfl (EC.seq (EC.region (EL.newP (QMn rfl rfl) rfl ?_)));intro g1 w1 q1 hb1 hg1 hl1;have bhbw_1 := Nat.le_trans hbw.size hg1;replace hbw := bo_ hbw hb1;clear hb1 hg1 hl1;refine EL.newP (QKU rfl) rfl ?_;intro g2 w2 q2 hb2 hg2 hl2;have n1_2 := q1.na hg2;have bhbw_2 := Nat.le_trans hbw.size hg2;replace q1 := q1.bl hb2;replace hbw := bo_ hbw hb2;clear hb2 hg2 hl2;refine EL.as rfl rfl (EL.nil (EX.seq (EC.seq (EC.region (EL.val (QIi rfl rfl) rfl (EL.as rfl rfl (EL.nil (EX.seq (EC.ret ?_)))))))))
 exact EX.done (res1 rfl rfl) ⟨⟨_, _, rfl, q1, q2, bhbw_1, bhbw_2⟩, hbw⟩
theorem QKq : (Try.prog.info? 87).map (fun i => (i.zero, i.size, i.bytes)) = some (some (.agg #[.bool false, .int .i64 0]), 2, 16) := by kernel_rfl
theorem QHZ : Elem Try.prog 25 87 2 16 := Elem.mk' Try.underlying25 QKq rfl (by omega)
theorem QCP {l : LK} {s : ST} {ts : List TW} {u : Bool} {v : Value} {w : World} {B : Nat} (h : StOk l s) (hts : ∀ t ∈ ts, twB l t = true) (h8 : s.t0 + s.t1 + ts.length ≤ 8) (hr : Rd w B 5 v ts.length (twsC ts)) (hB : B ≤ w.heap.size) (hf : fitB s.lk.length ts = true) :
  Calls Try.prog 57 #[stV s, v, .int .i64 (wyB u)] w fun e w' => e = .returned (.tuple #[stV (tkS s ts u), rnV (runT s ts u), .bool true]) ∧ Below w.heap.size w w' := by
 have := QF8 (u := u) h hts h8 hr hB;rw [hf] at this
 exact this
theorem QDT {l : LK} {s : ST} {ts : List TW} {u : Bool} {v : Value} {w : World} {B : Nat} (h : StOk l s) (hts : ∀ t ∈ ts, twB l t = true) (h8 : s.t0 + s.t1 + ts.length ≤ 8) (hr : Rd w B 5 v ts.length (twsC ts)) (hB : B ≤ w.heap.size) (hf : fitB s.lk.length ts = false) :
  Calls Try.prog 57 #[stV s, v, .int .i64 (wyB u)] w fun e w' => e = .returned (.tuple #[stV s, rnV rn0, .bool false]) ∧ Below w.heap.size w w' := by
 have := QF8 (u := u) h hts h8 hr hB;rw [hf] at this
 exact this
theorem QHj {w : World} {base : Nat} {v : Value} {q : QS} {d : Dr} {u : Bool} {n : Nat} (h : w.ownsRow base 87 2 v (d.plan.length + 1) (spsC d.plan ++ [.bool u, .int .i64 ((n : Nat) : Int)])) : w.ownsRow base 87 2 v (oneD q d u n).plan.length (spsC (oneD q d u n).plan) := by
 have e1 : (oneD q d u n).plan.length = d.plan.length + 1 := by unfold oneD; simp
 have e2 : spsC (oneD q d u n).plan = spsC d.plan ++ [.bool u, .int .i64 ((n : Nat) : Int)] := by unfold oneD spsC; simp [spC]
 rw [e1, e2]
 exact h
theorem QEH {α : Type} {f : α → List Value} {z : Nat} (hz : ∀ x, (f x).length = z) : ∀ (l : List α) (k : Nat), (l.take k).flatMap f = (l.flatMap f).take (k * z)
 | [], k => by simp
 | x :: l, 0 => by simp
 | x :: l, k + 1 => by
  rw [List.take_succ_cons, List.flatMap_cons, List.flatMap_cons, QEH hz l k, Nat.add_mul, Nat.one_mul, Nat.add_comm (k * z) z];rw [List.take_append, List.take_of_length_le (l := f x) (by rw [hz]; omega), hz, Nat.add_sub_cancel_left]
theorem QEJ {α : Type} {f : α → List Value} {z : Nat} (hz : ∀ x, (f x).length = z) : ∀ (l : List α) (k : Nat), (l.drop k).flatMap f = (l.flatMap f).drop (k * z)
 | [], k => by simp
 | x :: l, 0 => by simp
 | x :: l, k + 1 => by
  rw [List.drop_succ_cons, List.flatMap_cons, QEJ hz l k, Nat.add_mul, Nat.one_mul, Nat.add_comm (k * z) z];rw [List.drop_append, List.drop_of_length_le (l := f x) (by rw [hz]; omega), hz, Nat.add_sub_cancel_left, List.nil_append]
theorem Ym (l : List TW) (k : Nat) : twsC (l.take k) = (twsC l).take (k * 5) := QEH QBg l k
theorem Y_ {w : World} {B z n c k : Nat} {A : Option Addr} {xs : List Value} (h : Rd w B z (.slice A n c) n xs) (hk : k ≤ n) : Rd w B z (.slice A k c) k (xs.take (k * z)) := by
 have hl := h.len;have hkz : k * z ≤ n * z := Nat.mul_le_mul_right z hk;refine ⟨by rw [List.length_take]; omega, A, c, rfl, ?_⟩
 obtain ⟨_, A2, c2, e, hc, hr⟩ := h
 injection e with e1 _ e3
 subst e1 e3;refine ⟨by omega, fun h0 => ?_⟩
 obtain ⟨b, off, e2, hb, hcell⟩ := hr (by omega)
 exact ⟨b, off, e2, hb, fun j u hu => hcell j u (by rw [List.getElem?_take] at hu; split at hu; exact hu; cases hu)⟩
/-- the rest of a row of tows, from one of them on -/
def QDC (A : Option Addr) (c lo : Nat) : Option Addr := A.map fun a => ⟨a.block, if c = lo then a.off else a.off + lo * 5, none⟩
theorem QBG {W : World} {base m c lo : Nat} {A : Option Addr} {ts : List TW} (h : W.ownsRow base 39 5 (.slice A m c) m (twsC ts)) {A' : Option Addr} {c' : Nat} (hlo : lo ≤ m) (hA : A' = QDC A c lo) (hc' : c' = c - lo) :
  (∀ {n : Nat} {σ : Sg} {w : World} {dst : Option Tmp} {ty : TypeId} {pos : String} {af : Array Edge} {g : Option (Nat × Bool)} {x y : Operand}, evS σ x = some (.slice A m c) → evS σ y = some (.int .i64 (lo : Int)) → ZI Try.prog n σ w ⟨dst, .slice 24 x (some y) none none, ty, pos, af, g⟩ (.slice A' (m - lo) c')) ∧ Rd W W.heap.size 5 (.slice A' (m - lo) c') (m - lo) (twsC (ts.drop lo)) ∧ m - lo ≤ c' := by
 subst hA hc';have hr := Rd.of_own h;have hln : ts.length = m := by have := h.1; rw [QAl] at this; omega
 obtain ⟨_, ⟨e, e0⟩ | ⟨g, cap, cur, e, hb, hg, hc, h3, h4, h5⟩⟩ := h
 ·injection e with e1 e2 e3
  subst e1 e2 e3;obtain rfl : lo = 0 := by omega
  refine ⟨fun hx hy a ha => ?_, ?_, Nat.le_refl _⟩
  ·simp only [execOp, Option.map_some, Option.map_none, ha.eval hx, ha.eval hy]
   simp [go_sem, QDC]
  ·rw [List.drop_zero]
   exact hr
 ·injection e with e1 _ e3
  subst e1 e3;refine ⟨fun hx hy => QML hx hy hlo rfl, ?_, by omega⟩
  have hl := hr.len;obtain ⟨_, A2, c2, e, hc2, hrr⟩ := hr
  injection e with e1 _ e3
  subst e1 e3;have hd : twsC (ts.drop lo) = (twsC ts).drop (lo * 5) := QEJ QBg ts lo;refine ⟨by rw [QAl, List.length_drop, hln], _, _, rfl, by omega, fun h0 => ?_⟩
  obtain ⟨b, off, e2, hb2, hcell⟩ := hrr (by omega)
  injection e2 with e2
  injection e2 with e3 e4
  subst e3 e4;refine ⟨g, _, rfl, hb2, fun j u hu => ?_⟩
  rw [if_neg (by omega)]
  rw [hd, List.getElem?_drop] at hu;have := hcell _ u hu
  rwa [← Nat.add_assoc] at this
def okN (q : QS) (d : Dr) (b : Nat) (x : It) (W : World) : Prop := OwnDr W b x.2 ((nextL q d).getD (x.1.getD 0 0).toNat dr0)
set_option maxHeartbeats 2000000 in
set_option maxRecDepth 100000 in
theorem QEu {l : LK} {q : QS} {d : Dr} {A0 A1 : Option Addr} {c0 c1 n0 lo hi g2 g3 : Nat} {v : Value} {w : World} (hqk : QOk l q) (hdk : DrOk l q d) (h2 : Blk w g2 122 #[v]) (h3 : Blk w g3 134 #[.slice A0 (q false).length c0, .slice A1 (q true).length c1]) (hv : OwnDr w n0 v d) (hs0 : w.ownsRow n0 39 5 (.slice A0 (q false).length c0) (q false).length (twsC (q false))) (hs1 : w.ownsRow n0 39 5 (.slice A1 (q true).length c1) (q true).length (twsC (q true))) (hlo : lo ≤ g2 ∧ g2 < hi) (hn0 : n0 ≤ w.heap.size) :
  QDo (fun _ => Same lo hi) [] Try.prog 81 #[.pointer (some ⟨g3, 0, none⟩), .pointer (some ⟨g2, 0, none⟩)] (okN q d n0) n0 [145, 122] (allE (nextL q d).length) w := by
 intro la J Jx W hbW hla hla2 hJ hJx hY hJ0;change Calls Try.prog 81 #[.func (.yield la) #[] #[], .pointer (some ⟨g3, 0, none⟩), .pointer (some ⟨g2, 0, none⟩)] W _;have hkp := Kp.refl n0 [145, 122] W;have hwW := hbW.size;obtain ⟨bd, slp, rfl, hbd, qbD, hpl⟩ := hv.at_;obtain ⟨Ap, cp, rfl, _⟩ := (Rd.of_own hpl).shape;have hpn : d.plan.length ≤ 8 := by have := hdk.len; have := QBy hqk hdk (u := false) (n := 0) (Nat.zero_le _); omega
 replace qbD := qbD.bl hbW;have qb2 := h2.below hbW h2.lt;have qb3 := h3.below hbW h3.lt;replace hpl := ZB hpl hbW (Nat.le_refl _);have hq0 := ZB hs0 hbW (Nat.le_refl _);have hq1 := ZB hs1 hbW (Nat.le_refl _);refine EC.enter 69 Try.func81 rfl rfl rfl (EC.seq (EC.region (EL.newS (QKV rfl rfl) rfl ?_)));intro g4 w4 q4 hb4 hg4 hl4;have n1_4 := qb2.na hg4;have n2_4 := qb3.na hg4;have n3_4 := qbD.na hg4;replace qb2 := qb2.bl hb4;replace qb3 := qb3.bl hb4;replace qbD := qbD.bl hb4;replace hkp := hkp.trans (Kp.of_below hb4 (Nat.le_trans hn0 (Nat.le_trans hwW hkp.size)));replace hJ0 := hJ _ _ _ hJ0 (Soft.of_below hb4);replace hq0 := ZB hq0 hb4 (Nat.le_refl _);replace hq1 := ZB hq1 hb4 (Nat.le_refl _);replace hpl := ZB hpl hb4 (Nat.le_refl _);clear hb4 hg4 hl4;refine EL.val (QMd rfl) rfl (EL.mv rfl rfl (EL.nil (EX.seq (EC.block ?_))));refine EC.loopD [5, 6, 7, 8, 9, 10, 13, 14, 15, 16, 17, 18, 19, 20, 21, 22, 23, 24, 25, 26, 27, 28, 29, 30, 31, 32, 33, 34, 35, 36, 37, 38, 39, 40, 41, 42, 43, 44, 45, 46, 47, 48, 49, 50, 51, 52, 53, 54, 55, 56, 57, 58, 59, 60, 61, 62, 63, 64, 65, 66, 67, 68] (fun x : Nat × List It => [(13, .int .i64 (x.1 : Nat))]) (fun x V => x.2.map (·.1) = allE (if x.1 = 0 then 0 else if x.1 = 1 then cntN q d false else cntN q d false + cntN q d true) ∧ x.1 ≤ 2 ∧ Blk V g4 136 #[.int .i64 0, .int .i64 1] ∧ Blk V g2 122 #[.pointer (some ⟨bd, 0, none⟩)] ∧ Blk V g3 134 #[.slice A0 (q false).length c0, .slice A1 (q true).length c1] ∧ Blk V bd 124 (stC d.s ++ [(Value.slice Ap d.plan.length cp)]).toArray ∧ V.ownsRow n0 39 5 (.slice A0 (q false).length c0) (q false).length (twsC (q false)) ∧ V.ownsRow n0 39 5 (.slice A1 (q true).length c1) (q true).length (twsC (q true)) ∧ V.ownsRow n0 87 2 (Value.slice Ap d.plan.length cp) d.plan.length (spsC d.plan) ∧ Kp n0 [145, 122] W V ∧ J x.2 V) (fun x => 2 - x.1) (0, []) ⟨rfl, by decide, q4, qb2, qb3, qbD, hq0, hq1, hpl, hkp, hJ0⟩ ⟨rfl, trivial⟩ ?_
 clear q4 qb2 qb3 qbD hq0 hq1 hpl hkp hJ0
 rintro ⟨i, pre⟩ V ⟨hall, hi, qb11, qb2, qb3, qbD, hq0, hq1, hpl, hkp, hJ0⟩
 dsimp only at hall hi hJ0
 have hi3 : i = 0 ∨ i = 1 ∨ i = 2 := by omega
 rcases hi3 with rfl | rfl | rfl
 ·
  refine EC.seq (EC.region ?_);refine EL.val (ZO (r := true) rfl rfl (decide_eq_true (by omega))) rfl ?_
  refine EL.nil (EX.seq (EC.seq (EC.yes rfl (EC.skip (EX.seq (EC.seq (EC.block (EC.seq (EC.region ?_)))))))));refine EL.val (QJ3 (k := 0) rfl rfl (by omega)) rfl ?_
  refine EL.val (QJ1 rfl (qb11.at (j := 0) rfl)) rfl (EL.as rfl rfl (EL.nil (EX.seq (EC.seq ?_))));obtain ⟨A6, hA6⟩ : ∃ A6, A6 = QDC A0 c0 d.s.t0 := ⟨_, rfl⟩;obtain ⟨c6, hc6⟩ : ∃ c6, c6 = c0 - d.s.t0 := ⟨_, rfl⟩;obtain ⟨hgv, hre, hcp⟩ := QBG (W := V) hq0 (lo := d.s.t0) (by have := hdk.le false; exact this) hA6 hc6
  refine EC.regionQ (by kernel_rfl) (by kernel_rfl) ?_
  refine EQ.mv rfl rfl ?_;refine EQ.val (fun _ hw => (YD (k := 0) rfl rfl (by omega))) rfl ?_
  refine EQ.val (fun _ hw => (QAI rfl (ZC hw (qb3.at (j := 0) rfl)))) rfl ?_
  refine EQ.val (fun _ hw => (Z7 rfl (ZC hw (qb2.at (j := 0) rfl)))) rfl ?_
  refine EQ.mv rfl rfl ?_;refine EQ.val (fun _ hw => (ZH rfl)) rfl ?_
  refine EQ.val (fun _ hw => (Ze rfl)) rfl ?_
  refine EQ.val (fun _ hw => (Zp rfl)) rfl ?_
  refine EQ.val (fun _ hw => (Zj (k := 0) rfl rfl (by omega))) rfl ?_
  refine EQ.val (fun _ hw => (ld_3 rfl (ZC hw (qbD.at (j := 12) rfl)))) rfl ?_
  refine EQ.val (fun _ hw => (hgv rfl rfl)) rfl ?_
  refine EQ.val (fun _ hw => (ZZ rfl)) rfl ?_
  refine EQ.fin (fun w5 hw_ => ?_)
  replace qb2 := qb2.bl hw_;replace qb3 := qb3.bl hw_;replace qbD := qbD.bl hw_;replace qb11 := qb11.bl hw_;replace hkp := hkp.trans (Kp.of_below hw_ (Nat.le_trans hn0 (Nat.le_trans hwW hkp.size)));replace hJ0 := hJ _ _ _ hJ0 (Soft.of_below hw_);replace hq0 := ZB hq0 hw_ (Nat.le_refl _);replace hq1 := ZB hq1 hw_ (Nat.le_refl _);replace hpl := ZB hpl hw_ (Nat.le_refl _);clear hw_;have hwl : (waitL q d.s false).length = (q false).length - d.s.t0 := YW q d.s false
  skip
  refine EX.seq (EC.seq (EC.region (EL.mv rfl rfl (EL.val (Yg rfl) rfl (EL.mv rfl rfl (EL.nil (EX.seq (EC.block ?_))))))));refine EC.loopD [7, 8, 9, 10, 30, 31, 32, 33, 34, 35, 36, 37, 38, 39, 40, 41, 42, 43, 44, 45, 46, 47, 48, 49, 50, 51, 52, 53, 54, 55, 56, 57, 58, 59, 60, 61, 62, 63, 64, 65, 66, 67] (fun x : Nat × List It => [(30, .int .i64 (x.1 : Nat))]) (fun x V => x.1 ≤ cntN q d false ∧ x.2.map (·.1) = allE (0 + x.1) ∧ Blk V g4 136 #[.int .i64 0, .int .i64 1] ∧ Blk V g2 122 #[.pointer (some ⟨bd, 0, none⟩)] ∧ Blk V g3 134 #[.slice A0 (q false).length c0, .slice A1 (q true).length c1] ∧ Blk V bd 124 (stC d.s ++ [(Value.slice Ap d.plan.length cp)]).toArray ∧ V.ownsRow n0 39 5 (.slice A0 (q false).length c0) (q false).length (twsC (q false)) ∧ V.ownsRow n0 39 5 (.slice A1 (q true).length c1) (q true).length (twsC (q true)) ∧ V.ownsRow n0 87 2 (Value.slice Ap d.plan.length cp) d.plan.length (spsC d.plan) ∧ Kp n0 [145, 122] W V ∧ J x.2 V) (fun x => (waitL q d.s false).length - x.1) (0, pre) ⟨Nat.zero_le _, hall, qb11, qb2, qb3, qbD, hq0, hq1, hpl, hkp, hJ0⟩ ⟨rfl, trivial⟩ ?_
  clear hall qb11 qb2 qb3 qbD hq0 hq1 hpl hkp hJ0 hre
  rintro ⟨n, xs⟩ V2 ⟨hnc, hall, qb11, qb2, qb3, qbD, hq0, hq1, hpl, hkp, hJ0⟩
  dsimp only at hnc hall hJ0
  have hcl : cntN q d false ≤ (waitL q d.s false).length := QFn;obtain ⟨_, hre, _⟩ := QBG (W := V2) hq0 (lo := d.s.t0) (by have := hdk.le false; exact this) hA6 hc6
  clear hgv
  by_cases hlt : n < (waitL q d.s false).length
  ·
   refine EC.seq (EC.region ?_);refine EL.val (ZO (r := true) rfl rfl (decide_eq_true (by omega))) rfl ?_
   refine EL.nil (EX.seq (EC.seq (EC.yes rfl (EC.skip (EX.seq (EC.seq (EC.block (EC.seq (EC.region ?_)))))))));refine EL.mv rfl rfl (EL.as rfl rfl (EL.nil (EX.seq (EC.seq ?_))))
   cases hf : fitN q d.s false (n + 1)
   ·
    have hne : n = cntN q d false := by
     have h_ : ¬n < cntN q d false := fun h => by rw [(QCr hnc hlt).2 h] at hf; cases hf
     omega
    obtain ⟨b6, o6, rfl⟩ : ∃ b o, A6 = some ⟨b, o, none⟩ := by
     obtain ⟨b_, o_, e_, _⟩ := hre.at_ (by omega)
     exact ⟨b_, o_, e_⟩
    have htk := Y_ hre (k := n + 1) (by omega)
    rw [← Ym] at htk;have hsum := QBy hqk hdk (u := false) (n := n + 1) (by omega)
    have lt_1 := qb2.lt;have lt_2 := qb3.lt;have lt_3 := qbD.lt;have lt_4 := qb11.lt;refine EC.regionS [[], [0], [0, 1], [0, 1, 2], [], [], [5], [4, 5, 6], [], [0, 1, 2, 3, 4, 5, 6, 7, 8], [0, 1, 2, 3, 4, 5, 6, 7, 8, 9], [0, 1, 2, 3, 4, 5, 6, 7, 8, 9, 10], [0, 1, 2, 3, 4, 5, 6, 7, 8, 9, 10], [0, 1, 2, 3, 4, 5, 6, 7, 8, 9, 10], [], [], [0, 1, 2, 3, 4, 5, 6, 7, 8, 9, 10, 11, 14, 15], [0, 1, 2, 3, 4, 5, 6, 7, 8, 9, 10, 11, 12, 14, 15, 16], [0, 1, 2, 3, 4, 5, 6, 7, 8, 9, 10, 11, 12, 13, 14, 15, 16, 17]] 18 [14, 15] [16, 17] (fun _ w_ => Below V2.heap.size V2 w_) (phiS (fun i_ r => match i_ with | 0 => r 0 = .pointer (some ⟨bd, 0, none⟩) | 1 => r 1 = .pointer (some ⟨bd, 0, none⟩) | 2 => r 2 = .pointer (some ⟨bd, 0, none⟩) | 3 => r 3 = (stA d.s) | 4 => r 4 = .slice (some ⟨b6, o6, none⟩) ((q false).length - d.s.t0) c6 | 5 => r 5 = .int .i64 (n : Nat) | 6 => r 6 = .int .i64 ((n + 1) : Nat) | 7 => r 7 = .slice (some ⟨b6, o6, none⟩) (n + 1) c6 | 8 => r 8 = .int .i64 (wyB false) | 9 => r 9 = .tuple #[(stA d.s), .agg #[.int .i64 rn0.start, .int .i64 rn0.stop], .bool false] | 10 => r 10 = .tuple #[(stA d.s), .agg #[.int .i64 rn0.start, .int .i64 rn0.stop], .bool false] | 11 => r 11 = (stA d.s) | 12 => r 12 = .agg #[.int .i64 rn0.start, .int .i64 rn0.stop] | 13 => r 13 = .bool false | _ => True) [(14, fun fl r w_ => ∃ g_, r 14 = .pointer (some ⟨g_, 0, none⟩) ∧ V2.heap.size ≤ g_ ∧ (fl 16 = false → Blk w_ g_ 114 #[.int .i64 0, .int .i64 0, .int .i64 0, .int .i64 0, .int .i64 0, .bool false, .int .i64 0, .int .i64 0, .int .i64 0, .int .i64 0, .int .i64 0, .int .i64 0, .int .i64 0, .int .i64 0, .int .i64 0])), (15, fun fl r w_ => ∃ g_, r 15 = .pointer (some ⟨g_, 0, none⟩) ∧ V2.heap.size ≤ g_ ∧ (fl 17 = false → Blk w_ g_ 49 #[.int .i64 0, .int .i64 0])), (16, fun _ r w_ => ∃ g_, r 14 = .pointer (some ⟨g_, 0, none⟩) ∧ Blk w_ g_ 114 (stB d.s)), (17, fun _ r w_ => ∃ g_, r 15 = .pointer (some ⟨g_, 0, none⟩) ∧ Blk w_ g_ 49 #[.int .i64 rn0.start, .int .i64 rn0.stop])]) (by kernel_rfl) rfl rfl (by intro i hi; simp at hi; first | (subst hi; exact ⟨by simp, by omega⟩) | (rcases hi with rfl | rfl | rfl <;> exact ⟨by simp, by omega⟩) | (rcases hi with rfl | rfl <;> exact ⟨by simp, by omega⟩)) (YZ V2) (ZL Zi (ZL Zi (ZL Zh (ZL Zh (Zd))))) (fun i_ hi_ hs_ => ?_) (fun i_ hi_ => ?_) ?_
    ·match i_, hi_ with
     | 0, _ =>
      intro val fl w1 a hb ha hd hfl;have ha := ha.s0 (d := 2) rfl
      exact ZD ha rfl rfl (Z7 rfl ((qb2.below hb qb2.lt).at (j := 0) rfl)) rfl rfl
     | 1, _ =>
      intro val fl w1 a hb ha hd hfl;have e0 : val 0 = _ := hd 0 (ZA.1 rfl);have ha := ha.s1 (d := 34) rfl e0
      exact ZD ha rfl rfl (ZH rfl) rfl rfl
     | 2, _ =>
      intro val fl w1 a hb ha hd hfl;have e1 : val 1 = _ := hd 1 (ZA.1 rfl);have ha := ha.s1 (d := 35) rfl e1
      exact ZD ha rfl rfl (Ze rfl) rfl rfl
     | 3, _ =>
      intro val fl w1 a hb ha hd hfl;have e2 : val 2 = _ := hd 2 (ZA.1 rfl);have ha := ha.s1 (d := 36) rfl e2
      exact ZD ha rfl rfl (Z8 rfl ((qbD.below hb qbD.lt).at (j := 0) rfl) ((qbD.below hb qbD.lt).at (j := 1) rfl) ((qbD.below hb qbD.lt).at (j := 2) rfl) ((qbD.below hb qbD.lt).at (j := 3) rfl) ((qbD.below hb qbD.lt).at (j := 4) rfl) ((qbD.below hb qbD.lt).at (j := 5) rfl) ((qbD.below hb qbD.lt).at (j := 6) rfl) ((qbD.below hb qbD.lt).at (j := 7) rfl) ((qbD.below hb qbD.lt).at (j := 8) rfl) ((qbD.below hb qbD.lt).at (j := 9) rfl) ((qbD.below hb qbD.lt).at (j := 10) rfl) ((qbD.below hb qbD.lt).at (j := 11) rfl) ((qbD.below hb qbD.lt).at (j := 12) rfl) ((qbD.below hb qbD.lt).at (j := 13) rfl) ((qbD.below hb qbD.lt).at (j := 14) rfl)) rfl rfl
     | 4, _ =>
      intro val fl w1 a hb ha hd hfl;have ha := ha.s0 (d := 6) rfl
      exact ZD ha rfl rfl (x_move rfl) rfl rfl
     | 5, _ =>
      intro val fl w1 a hb ha hd hfl;have ha := ha.s0 (d := 7) rfl
      exact ZD ha rfl rfl (x_move rfl) rfl rfl
     | 6, _ =>
      intro val fl w1 a hb ha hd hfl;have e5 : val 5 = _ := hd 5 (ZA.1 rfl);have ha := ha.s1 (d := 39) rfl e5
      exact ZD ha rfl rfl (x_add rfl rfl (c := ((n + 1 : Nat) : Int)) ((IntWalk.i64_in _ ⟨by first | omega | (simp only; omega), by first | omega | (simp only; omega)⟩).trans (by first | omega | (simp only; omega)))) rfl rfl
     | 7, _ =>
      intro val fl w1 a hb ha hd hfl;have e4 : val 4 = _ := hd 4 (ZA.1 rfl);have e6 : val 6 = _ := hd 6 (ZA.1 rfl);have ha := ha.s2 (d := 40) (e := 38) rfl e6 rfl e4
      exact ZD ha rfl rfl (QFL rfl rfl (by omega)) rfl rfl
     | 8, _ =>
      intro val fl w1 a hb ha hd hfl;have ha := ha.s0 (d := 5) rfl
      exact ZD ha rfl rfl (x_move rfl) rfl rfl
     | 9, _ =>
      intro val fl w1 a hb ha hd hfl;have e3 : val 3 = _ := hd 3 (ZA.1 rfl);have e7 : val 7 = _ := hd 7 (ZA.1 rfl);have e8 : val 8 = _ := hd 8 (ZA.1 rfl);have ha := ha.sub (Sub.ins (d := 42) (Sub.ins (d := 41) (Sub.ins (d := 37) (Sub.nil _) (ZQ rfl e3)) (ZQ rfl e7)) (ZQ rfl e8));refine Yb ha rfl rfl (cA3 cF57 rfl rfl rfl) (QDT hdk.st (Yr (d := d) (u := false) (n := n + 1) hqk) (by rw [Zk (by omega)]; exact hsum) (by rw [Zk (by omega)]; exact (htk.below (hb.mono (Nat.le_refl _)))) hb.size (by have := hf; unfold fitN at this; exact this)) rfl ?_
      rintro e w' ⟨rfl, hb'⟩
      exact ⟨_, rfl, hb', rfl⟩
     | 10, _ =>
      intro val fl w1 a hb ha hd hfl;have e9 : val 9 = _ := hd 9 (ZA.1 rfl);have ha := ha.s1 (d := 43) rfl e9
      exact ZD ha rfl rfl (x_move rfl) rfl rfl
     | 11, _ =>
      intro val fl w1 a hb ha hd hfl;have e10 : val 10 = _ := hd 10 (ZA.1 rfl);have ha := ha.s1 (d := 33) rfl e10
      exact ZD ha rfl rfl (ZP rfl rfl) rfl rfl
     | 12, _ =>
      intro val fl w1 a hb ha hd hfl;have e10 : val 10 = _ := hd 10 (ZA.1 rfl);have ha := ha.s1 (d := 33) rfl e10
      exact ZD ha rfl rfl (ZP rfl rfl) rfl rfl
     | 13, _ =>
      intro val fl w1 a hb ha hd hfl;have e10 : val 10 = _ := hd 10 (ZA.1 rfl);have ha := ha.s1 (d := 33) rfl e10
      exact ZD ha rfl rfl (ZP rfl rfl) rfl rfl
     | 14, _ =>
      intro val fl w1 a hb ha hd hfl;have ha := ha.sub (Sub.nil _)
      exact YG ha rfl rfl QAG (fun g w' hq _ hge => ⟨g, rfl, Nat.le_trans hb.size hge, fun _ => hq⟩)
     | 15, _ =>
      intro val fl w1 a hb ha hd hfl;have ha := ha.sub (Sub.nil _)
      exact YG ha rfl rfl QCz (fun g w' hq _ hge => ⟨g, rfl, Nat.le_trans hb.size hge, fun _ => hq⟩)
     | 16, _ =>
      exact absurd (by simp) hs_
     | 17, _ =>
      exact absurd (by simp) hs_
     | k + 18, h => exact absurd h (by omega)
    ·simp only [List.mem_cons, List.not_mem_nil, or_false] at hi_; rcases hi_ with rfl | rfl
     ·
      intro val fl w1 a hb hfi ha hd hfl;obtain ⟨g14_, e14, hg14_, q14_⟩ := hd 14 (ZA.1 rfl);change val 14 = _ at e14;have e11 : val 11 = _ := hd 11 (ZA.1 rfl);have ha := ha.s2 (d := 44) (e := 8) rfl e11 rfl e14;refine ZY ha rfl rfl rfl (q14_ hfi) Z5 rfl rfl rfl rfl ?_;intro w' hq hgr;refine ⟨undef, rfl, hgr.size, ZE hb hgr hg14_, ⟨g14_, e14, hq⟩, fun j _ hj hn hA => ?_⟩
      exact ZF (C := fun j => j ≠ 16 ∧ 16 ∉ clsAt [[], [0], [0, 1], [0, 1, 2], [], [], [5], [4, 5, 6], [], [0, 1, 2, 3, 4, 5, 6, 7, 8], [0, 1, 2, 3, 4, 5, 6, 7, 8, 9], [0, 1, 2, 3, 4, 5, 6, 7, 8, 9, 10], [0, 1, 2, 3, 4, 5, 6, 7, 8, 9, 10], [0, 1, 2, 3, 4, 5, 6, 7, 8, 9, 10], [], [], [0, 1, 2, 3, 4, 5, 6, 7, 8, 9, 10, 11, 14, 15], [0, 1, 2, 3, 4, 5, 6, 7, 8, 9, 10, 11, 12, 14, 15, 16], [0, 1, 2, 3, 4, 5, 6, 7, 8, 9, 10, 11, 12, 13, 14, 15, 16, 17]] j ∧ ∀ p ∈ [14, 15], (p = j ∨ p ∈ clsAt [[], [0], [0, 1], [0, 1, 2], [], [], [5], [4, 5, 6], [], [0, 1, 2, 3, 4, 5, 6, 7, 8], [0, 1, 2, 3, 4, 5, 6, 7, 8, 9], [0, 1, 2, 3, 4, 5, 6, 7, 8, 9, 10], [0, 1, 2, 3, 4, 5, 6, 7, 8, 9, 10], [0, 1, 2, 3, 4, 5, 6, 7, 8, 9, 10], [], [], [0, 1, 2, 3, 4, 5, 6, 7, 8, 9, 10, 11, 14, 15], [0, 1, 2, 3, 4, 5, 6, 7, 8, 9, 10, 11, 12, 14, 15, 16], [0, 1, 2, 3, 4, 5, 6, 7, 8, 9, 10, 11, 12, 13, 14, 15, 16, 17]] j) → ∀ q ∈ [14, 15], (q = 16 ∨ q ∈ clsAt [[], [0], [0, 1], [0, 1, 2], [], [], [5], [4, 5, 6], [], [0, 1, 2, 3, 4, 5, 6, 7, 8], [0, 1, 2, 3, 4, 5, 6, 7, 8, 9], [0, 1, 2, 3, 4, 5, 6, 7, 8, 9, 10], [0, 1, 2, 3, 4, 5, 6, 7, 8, 9, 10], [0, 1, 2, 3, 4, 5, 6, 7, 8, 9, 10], [], [], [0, 1, 2, 3, 4, 5, 6, 7, 8, 9, 10, 11, 14, 15], [0, 1, 2, 3, 4, 5, 6, 7, 8, 9, 10, 11, 12, 14, 15, 16], [0, 1, 2, 3, 4, 5, 6, 7, 8, 9, 10, 11, 12, 13, 14, 15, 16, 17]] 16) → p ≠ q → val p ≠ val q) (fun _ ⟨g, h1, h2, _⟩ => ⟨g, h1, h2, fun h => by rw [ZR] at h; cases h⟩) (ZF (fun hc ⟨g, h1, h2, h3⟩ => ⟨g, h1, h2, fun h => (h3 (by rwa [Z2 rfl] at h)).grown hgr (fun h => hc.2.2 15 (by simp) (.inl rfl) 14 (by simp) (.inr (ZA.1 rfl)) (by simp) (by have h1' : val 15 = _ := h1; rw [h1', e14]; injection h with h; rw [h]))⟩) (ZF (fun hc => absurd rfl hc.1) (ZF (fun hc ⟨g, h1, h2⟩ => ⟨g, h1, h2.grown hgr (fun h => hc.2.2 15 (by simp) (.inr (ZA.1 rfl)) 14 (by simp) (.inr (ZA.1 rfl)) (by simp) (by have h1' : val 15 = _ := h1; rw [h1', e14]; injection h with h; rw [h]))⟩) (fun _ _ h => h)))) j ⟨hj, hn, hA⟩
     ·
      intro val fl w1 a hb hfi ha hd hfl;obtain ⟨g15_, e15, hg15_, q15_⟩ := hd 15 (ZA.1 rfl);change val 15 = _ at e15;have e12 : val 12 = _ := hd 12 (ZA.1 rfl);have ha := ha.s2 (d := 45) (e := 9) rfl e12 rfl e15;refine ZY ha rfl rfl rfl (q15_ hfi) QAm rfl rfl rfl rfl ?_;intro w' hq hgr;refine ⟨undef, rfl, hgr.size, ZE hb hgr hg15_, ⟨g15_, e15, hq⟩, fun j _ hj hn hA => ?_⟩
      exact ZF (C := fun j => j ≠ 17 ∧ 17 ∉ clsAt [[], [0], [0, 1], [0, 1, 2], [], [], [5], [4, 5, 6], [], [0, 1, 2, 3, 4, 5, 6, 7, 8], [0, 1, 2, 3, 4, 5, 6, 7, 8, 9], [0, 1, 2, 3, 4, 5, 6, 7, 8, 9, 10], [0, 1, 2, 3, 4, 5, 6, 7, 8, 9, 10], [0, 1, 2, 3, 4, 5, 6, 7, 8, 9, 10], [], [], [0, 1, 2, 3, 4, 5, 6, 7, 8, 9, 10, 11, 14, 15], [0, 1, 2, 3, 4, 5, 6, 7, 8, 9, 10, 11, 12, 14, 15, 16], [0, 1, 2, 3, 4, 5, 6, 7, 8, 9, 10, 11, 12, 13, 14, 15, 16, 17]] j ∧ ∀ p ∈ [14, 15], (p = j ∨ p ∈ clsAt [[], [0], [0, 1], [0, 1, 2], [], [], [5], [4, 5, 6], [], [0, 1, 2, 3, 4, 5, 6, 7, 8], [0, 1, 2, 3, 4, 5, 6, 7, 8, 9], [0, 1, 2, 3, 4, 5, 6, 7, 8, 9, 10], [0, 1, 2, 3, 4, 5, 6, 7, 8, 9, 10], [0, 1, 2, 3, 4, 5, 6, 7, 8, 9, 10], [], [], [0, 1, 2, 3, 4, 5, 6, 7, 8, 9, 10, 11, 14, 15], [0, 1, 2, 3, 4, 5, 6, 7, 8, 9, 10, 11, 12, 14, 15, 16], [0, 1, 2, 3, 4, 5, 6, 7, 8, 9, 10, 11, 12, 13, 14, 15, 16, 17]] j) → ∀ q ∈ [14, 15], (q = 17 ∨ q ∈ clsAt [[], [0], [0, 1], [0, 1, 2], [], [], [5], [4, 5, 6], [], [0, 1, 2, 3, 4, 5, 6, 7, 8], [0, 1, 2, 3, 4, 5, 6, 7, 8, 9], [0, 1, 2, 3, 4, 5, 6, 7, 8, 9, 10], [0, 1, 2, 3, 4, 5, 6, 7, 8, 9, 10], [0, 1, 2, 3, 4, 5, 6, 7, 8, 9, 10], [], [], [0, 1, 2, 3, 4, 5, 6, 7, 8, 9, 10, 11, 14, 15], [0, 1, 2, 3, 4, 5, 6, 7, 8, 9, 10, 11, 12, 14, 15, 16], [0, 1, 2, 3, 4, 5, 6, 7, 8, 9, 10, 11, 12, 13, 14, 15, 16, 17]] 17) → p ≠ q → val p ≠ val q) (fun hc ⟨g, h1, h2, h3⟩ => ⟨g, h1, h2, fun h => (h3 (by rwa [Z2 rfl] at h)).grown hgr (fun h => hc.2.2 14 (by simp) (.inl rfl) 15 (by simp) (.inr (ZA.1 rfl)) (by simp) (by have h1' : val 14 = _ := h1; rw [h1', e15]; injection h with h; rw [h]))⟩) (ZF (fun _ ⟨g, h1, h2, _⟩ => ⟨g, h1, h2, fun h => by rw [ZR] at h; cases h⟩) (ZF (fun hc ⟨g, h1, h2⟩ => ⟨g, h1, h2.grown hgr (fun h => hc.2.2 14 (by simp) (.inr (ZA.1 rfl)) 15 (by simp) (.inr (ZA.1 rfl)) (by simp) (by have h1' : val 14 = _ := h1; rw [h1', e15]; injection h with h; rw [h]))⟩) (ZF (fun hc => absurd rfl hc.1) (fun _ _ h => h)))) j ⟨hj, hn, hA⟩
    ·intro val fl wR7 hfl hb halc hd
     have e0 : val 0 = _ := hd 0 (by omega)
     have e1 : val 1 = _ := hd 1 (by omega)
     have e2 : val 2 = _ := hd 2 (by omega)
     have e3 : val 3 = _ := hd 3 (by omega)
     have e4 : val 4 = _ := hd 4 (by omega)
     have e5 : val 5 = _ := hd 5 (by omega)
     have e6 : val 6 = _ := hd 6 (by omega)
     have e7 : val 7 = _ := hd 7 (by omega)
     have e8 : val 8 = _ := hd 8 (by omega)
     have e9 : val 9 = _ := hd 9 (by omega)
     have e10 : val 10 = _ := hd 10 (by omega)
     have e11 : val 11 = _ := hd 11 (by omega)
     have e12 : val 12 = _ := hd 12 (by omega)
     have e13 : val 13 = _ := hd 13 (by omega)
     obtain ⟨ga14_7, e14, qa14_7⟩ := hd 16 (by omega)
     change val 14 = _ at e14;obtain ⟨ga15_7, e15, qa15_7⟩ := hd 17 (by omega)
     change val 15 = _ at e15;refine EL.ends (cs := [_, _, _, _, _, _, _, _, _, _, _, _, _, _, _, _, val 16, val 17]) ⟨e0, e1, e2, e3, e4, e5, e6, e7, e8, e9, e10, e11, e12, e13, e14, e15, rfl, rfl, trivial⟩ rfl ?_;replace qb2 := qb2.bl hb;replace qb3 := qb3.bl hb;replace qbD := qbD.bl hb;replace qb11 := qb11.bl hb;replace hkp := hkp.trans (Kp.of_below hb (Nat.le_trans hn0 (Nat.le_trans hwW hkp.size)));replace hJ0 := hJ _ _ _ hJ0 (Soft.of_below hb);replace hq0 := ZB hq0 hb (Nat.le_refl _);replace hq1 := ZB hq1 hb (Nat.le_refl _);replace hpl := ZB hpl hb (Nat.le_refl _);have bge6 := Yc halc (i := 14) rfl rfl e14;have n1_6 : g2 ≠ ga14_7 := Nat.ne_of_lt (Nat.lt_of_lt_of_le lt_1 bge6);have n2_6 : g3 ≠ ga14_7 := Nat.ne_of_lt (Nat.lt_of_lt_of_le lt_2 bge6);have n3_6 : bd ≠ ga14_7 := Nat.ne_of_lt (Nat.lt_of_lt_of_le lt_3 bge6);have n4_6 : g4 ≠ ga14_7 := Nat.ne_of_lt (Nat.lt_of_lt_of_le lt_4 bge6);have bge7 := Yc halc (i := 15) rfl rfl e15;have n1_7 : g2 ≠ ga15_7 := Nat.ne_of_lt (Nat.lt_of_lt_of_le lt_1 bge7);have n2_7 : g3 ≠ ga15_7 := Nat.ne_of_lt (Nat.lt_of_lt_of_le lt_2 bge7);have n3_7 : bd ≠ ga15_7 := Nat.ne_of_lt (Nat.lt_of_lt_of_le lt_3 bge7);have n4_7 : g4 ≠ ga15_7 := Nat.ne_of_lt (Nat.lt_of_lt_of_le lt_4 bge7);have n6_7 : ga14_7 ≠ ga15_7 := QBe halc (i := 14) (j := 15) rfl rfl rfl rfl rfl e14 e15;refine EL.as rfl rfl (EL.nil (EX.seq (EC.seq (EC.seq (EC.region (EL.mv rfl rfl (EL.val (ZX rfl) rfl (EL.nil (EX.seq ?_)))))))));refine EC.yes rfl (EC.exit (EX.seq_exit (EX.blk_other rfl (EX.seq_exit (EX.seq_exit (EX.blk_here (EX.blk (EX.seq (EC.region ?_)))))))));refine EL.val (x_add rfl rfl (c := ((0 + 1 : Nat) : Int)) rfl) rfl (EL.mv rfl rfl (EL.nil ?_));refine EX.roundD (0 + 1, xs) ⟨rfl, trivial⟩ (by repeat first | with_reducible exact .refl _ | refine sp_ rfl ?_ | exact .refl _ | refine sd_ rfl ?_ | refine sn_ ?_) ⟨by rw [hall, hne, Nat.zero_add]; rfl, by omega, qb11, qb2, qb3, qbD, hq0, hq1, hpl, hkp, hJ0⟩ (by omega)
   ·
    have hnl : n < cntN q d false := (QCr hnc hlt).1 hf;obtain ⟨b6, o6, rfl⟩ : ∃ b o, A6 = some ⟨b, o, none⟩ := by
     obtain ⟨b_, o_, e_, _⟩ := hre.at_ (by omega)
     exact ⟨b_, o_, e_⟩
    have htk := Y_ hre (k := n + 1) (by omega)
    rw [← Ym] at htk;have hsum := QBy hqk hdk (u := false) (n := n + 1) (by omega)
    have lt_1 := qb2.lt;have lt_2 := qb3.lt;have lt_3 := qbD.lt;have lt_4 := qb11.lt;refine EC.regionS [[], [0], [0, 1], [0, 1, 2], [], [], [5], [4, 5, 6], [], [0, 1, 2, 3, 4, 5, 6, 7, 8], [0, 1, 2, 3, 4, 5, 6, 7, 8, 9], [0, 1, 2, 3, 4, 5, 6, 7, 8, 9, 10], [0, 1, 2, 3, 4, 5, 6, 7, 8, 9, 10], [0, 1, 2, 3, 4, 5, 6, 7, 8, 9, 10], [], [], [0, 1, 2, 3, 4, 5, 6, 7, 8, 9, 10, 11, 14, 15], [0, 1, 2, 3, 4, 5, 6, 7, 8, 9, 10, 11, 12, 14, 15, 16], [0, 1, 2, 3, 4, 5, 6, 7, 8, 9, 10, 11, 12, 13, 14, 15, 16, 17]] 18 [14, 15] [16, 17] (fun _ w_ => Below V2.heap.size V2 w_) (phiS (fun i_ r => match i_ with | 0 => r 0 = .pointer (some ⟨bd, 0, none⟩) | 1 => r 1 = .pointer (some ⟨bd, 0, none⟩) | 2 => r 2 = .pointer (some ⟨bd, 0, none⟩) | 3 => r 3 = (stA d.s) | 4 => r 4 = .slice (some ⟨b6, o6, none⟩) ((q false).length - d.s.t0) c6 | 5 => r 5 = .int .i64 (n : Nat) | 6 => r 6 = .int .i64 ((n + 1) : Nat) | 7 => r 7 = .slice (some ⟨b6, o6, none⟩) (n + 1) c6 | 8 => r 8 = .int .i64 (wyB false) | 9 => r 9 = .tuple #[(stA (tkS d.s ((waitL q d.s false).take (n + 1)) false)), .agg #[.int .i64 (runT d.s ((waitL q d.s false).take (n + 1)) false).start, .int .i64 (runT d.s ((waitL q d.s false).take (n + 1)) false).stop], .bool true] | 10 => r 10 = .tuple #[(stA (tkS d.s ((waitL q d.s false).take (n + 1)) false)), .agg #[.int .i64 (runT d.s ((waitL q d.s false).take (n + 1)) false).start, .int .i64 (runT d.s ((waitL q d.s false).take (n + 1)) false).stop], .bool true] | 11 => r 11 = (stA (tkS d.s ((waitL q d.s false).take (n + 1)) false)) | 12 => r 12 = .agg #[.int .i64 (runT d.s ((waitL q d.s false).take (n + 1)) false).start, .int .i64 (runT d.s ((waitL q d.s false).take (n + 1)) false).stop] | 13 => r 13 = .bool true | _ => True) [(14, fun fl r w_ => ∃ g_, r 14 = .pointer (some ⟨g_, 0, none⟩) ∧ V2.heap.size ≤ g_ ∧ (fl 16 = false → Blk w_ g_ 114 #[.int .i64 0, .int .i64 0, .int .i64 0, .int .i64 0, .int .i64 0, .bool false, .int .i64 0, .int .i64 0, .int .i64 0, .int .i64 0, .int .i64 0, .int .i64 0, .int .i64 0, .int .i64 0, .int .i64 0])), (15, fun fl r w_ => ∃ g_, r 15 = .pointer (some ⟨g_, 0, none⟩) ∧ V2.heap.size ≤ g_ ∧ (fl 17 = false → Blk w_ g_ 49 #[.int .i64 0, .int .i64 0])), (16, fun _ r w_ => ∃ g_, r 14 = .pointer (some ⟨g_, 0, none⟩) ∧ Blk w_ g_ 114 (stB (tkS d.s ((waitL q d.s false).take (n + 1)) false))), (17, fun _ r w_ => ∃ g_, r 15 = .pointer (some ⟨g_, 0, none⟩) ∧ Blk w_ g_ 49 #[.int .i64 (runT d.s ((waitL q d.s false).take (n + 1)) false).start, .int .i64 (runT d.s ((waitL q d.s false).take (n + 1)) false).stop])]) (by kernel_rfl) rfl rfl (by intro i hi; simp at hi; first | (subst hi; exact ⟨by simp, by omega⟩) | (rcases hi with rfl | rfl | rfl <;> exact ⟨by simp, by omega⟩) | (rcases hi with rfl | rfl <;> exact ⟨by simp, by omega⟩)) (YZ V2) (ZL Zi (ZL Zi (ZL Zh (ZL Zh (Zd))))) (fun i_ hi_ hs_ => ?_) (fun i_ hi_ => ?_) ?_
    ·match i_, hi_ with
     | 0, _ =>
      intro val fl w1 a hb ha hd hfl;have ha := ha.s0 (d := 2) rfl
      exact ZD ha rfl rfl (Z7 rfl ((qb2.below hb qb2.lt).at (j := 0) rfl)) rfl rfl
     | 1, _ =>
      intro val fl w1 a hb ha hd hfl;have e0 : val 0 = _ := hd 0 (ZA.1 rfl);have ha := ha.s1 (d := 34) rfl e0
      exact ZD ha rfl rfl (ZH rfl) rfl rfl
     | 2, _ =>
      intro val fl w1 a hb ha hd hfl;have e1 : val 1 = _ := hd 1 (ZA.1 rfl);have ha := ha.s1 (d := 35) rfl e1
      exact ZD ha rfl rfl (Ze rfl) rfl rfl
     | 3, _ =>
      intro val fl w1 a hb ha hd hfl;have e2 : val 2 = _ := hd 2 (ZA.1 rfl);have ha := ha.s1 (d := 36) rfl e2
      exact ZD ha rfl rfl (Z8 rfl ((qbD.below hb qbD.lt).at (j := 0) rfl) ((qbD.below hb qbD.lt).at (j := 1) rfl) ((qbD.below hb qbD.lt).at (j := 2) rfl) ((qbD.below hb qbD.lt).at (j := 3) rfl) ((qbD.below hb qbD.lt).at (j := 4) rfl) ((qbD.below hb qbD.lt).at (j := 5) rfl) ((qbD.below hb qbD.lt).at (j := 6) rfl) ((qbD.below hb qbD.lt).at (j := 7) rfl) ((qbD.below hb qbD.lt).at (j := 8) rfl) ((qbD.below hb qbD.lt).at (j := 9) rfl) ((qbD.below hb qbD.lt).at (j := 10) rfl) ((qbD.below hb qbD.lt).at (j := 11) rfl) ((qbD.below hb qbD.lt).at (j := 12) rfl) ((qbD.below hb qbD.lt).at (j := 13) rfl) ((qbD.below hb qbD.lt).at (j := 14) rfl)) rfl rfl
     | 4, _ =>
      intro val fl w1 a hb ha hd hfl;have ha := ha.s0 (d := 6) rfl
      exact ZD ha rfl rfl (x_move rfl) rfl rfl
     | 5, _ =>
      intro val fl w1 a hb ha hd hfl;have ha := ha.s0 (d := 7) rfl
      exact ZD ha rfl rfl (x_move rfl) rfl rfl
     | 6, _ =>
      intro val fl w1 a hb ha hd hfl;have e5 : val 5 = _ := hd 5 (ZA.1 rfl);have ha := ha.s1 (d := 39) rfl e5
      exact ZD ha rfl rfl (x_add rfl rfl (c := ((n + 1 : Nat) : Int)) ((IntWalk.i64_in _ ⟨by first | omega | (simp only; omega), by first | omega | (simp only; omega)⟩).trans (by first | omega | (simp only; omega)))) rfl rfl
     | 7, _ =>
      intro val fl w1 a hb ha hd hfl;have e4 : val 4 = _ := hd 4 (ZA.1 rfl);have e6 : val 6 = _ := hd 6 (ZA.1 rfl);have ha := ha.s2 (d := 40) (e := 38) rfl e6 rfl e4
      exact ZD ha rfl rfl (QFL rfl rfl (by omega)) rfl rfl
     | 8, _ =>
      intro val fl w1 a hb ha hd hfl;have ha := ha.s0 (d := 5) rfl
      exact ZD ha rfl rfl (x_move rfl) rfl rfl
     | 9, _ =>
      intro val fl w1 a hb ha hd hfl;have e3 : val 3 = _ := hd 3 (ZA.1 rfl);have e7 : val 7 = _ := hd 7 (ZA.1 rfl);have e8 : val 8 = _ := hd 8 (ZA.1 rfl);have ha := ha.sub (Sub.ins (d := 42) (Sub.ins (d := 41) (Sub.ins (d := 37) (Sub.nil _) (ZQ rfl e3)) (ZQ rfl e7)) (ZQ rfl e8));refine Yb ha rfl rfl (cA3 cF57 rfl rfl rfl) (QCP hdk.st (Yr (d := d) (u := false) (n := n + 1) hqk) (by rw [Zk (by omega)]; exact hsum) (by rw [Zk (by omega)]; exact (htk.below (hb.mono (Nat.le_refl _)))) hb.size (by have := hf; unfold fitN at this; exact this)) rfl ?_
      rintro e w' ⟨rfl, hb'⟩
      exact ⟨_, rfl, hb', rfl⟩
     | 10, _ =>
      intro val fl w1 a hb ha hd hfl;have e9 : val 9 = _ := hd 9 (ZA.1 rfl);have ha := ha.s1 (d := 43) rfl e9
      exact ZD ha rfl rfl (x_move rfl) rfl rfl
     | 11, _ =>
      intro val fl w1 a hb ha hd hfl;have e10 : val 10 = _ := hd 10 (ZA.1 rfl);have ha := ha.s1 (d := 33) rfl e10
      exact ZD ha rfl rfl (ZP rfl rfl) rfl rfl
     | 12, _ =>
      intro val fl w1 a hb ha hd hfl;have e10 : val 10 = _ := hd 10 (ZA.1 rfl);have ha := ha.s1 (d := 33) rfl e10
      exact ZD ha rfl rfl (ZP rfl rfl) rfl rfl
     | 13, _ =>
      intro val fl w1 a hb ha hd hfl;have e10 : val 10 = _ := hd 10 (ZA.1 rfl);have ha := ha.s1 (d := 33) rfl e10
      exact ZD ha rfl rfl (ZP rfl rfl) rfl rfl
     | 14, _ =>
      intro val fl w1 a hb ha hd hfl;have ha := ha.sub (Sub.nil _)
      exact YG ha rfl rfl QAG (fun g w' hq _ hge => ⟨g, rfl, Nat.le_trans hb.size hge, fun _ => hq⟩)
     | 15, _ =>
      intro val fl w1 a hb ha hd hfl;have ha := ha.sub (Sub.nil _)
      exact YG ha rfl rfl QCz (fun g w' hq _ hge => ⟨g, rfl, Nat.le_trans hb.size hge, fun _ => hq⟩)
     | 16, _ =>
      exact absurd (by simp) hs_
     | 17, _ =>
      exact absurd (by simp) hs_
     | k + 18, h => exact absurd h (by omega)
    ·simp only [List.mem_cons, List.not_mem_nil, or_false] at hi_; rcases hi_ with rfl | rfl
     ·
      intro val fl w1 a hb hfi ha hd hfl;obtain ⟨g14_, e14, hg14_, q14_⟩ := hd 14 (ZA.1 rfl);change val 14 = _ at e14;have e11 : val 11 = _ := hd 11 (ZA.1 rfl);have ha := ha.s2 (d := 44) (e := 8) rfl e11 rfl e14;refine ZY ha rfl rfl rfl (q14_ hfi) Z5 rfl rfl rfl rfl ?_;intro w' hq hgr;refine ⟨undef, rfl, hgr.size, ZE hb hgr hg14_, ⟨g14_, e14, hq⟩, fun j _ hj hn hA => ?_⟩
      exact ZF (C := fun j => j ≠ 16 ∧ 16 ∉ clsAt [[], [0], [0, 1], [0, 1, 2], [], [], [5], [4, 5, 6], [], [0, 1, 2, 3, 4, 5, 6, 7, 8], [0, 1, 2, 3, 4, 5, 6, 7, 8, 9], [0, 1, 2, 3, 4, 5, 6, 7, 8, 9, 10], [0, 1, 2, 3, 4, 5, 6, 7, 8, 9, 10], [0, 1, 2, 3, 4, 5, 6, 7, 8, 9, 10], [], [], [0, 1, 2, 3, 4, 5, 6, 7, 8, 9, 10, 11, 14, 15], [0, 1, 2, 3, 4, 5, 6, 7, 8, 9, 10, 11, 12, 14, 15, 16], [0, 1, 2, 3, 4, 5, 6, 7, 8, 9, 10, 11, 12, 13, 14, 15, 16, 17]] j ∧ ∀ p ∈ [14, 15], (p = j ∨ p ∈ clsAt [[], [0], [0, 1], [0, 1, 2], [], [], [5], [4, 5, 6], [], [0, 1, 2, 3, 4, 5, 6, 7, 8], [0, 1, 2, 3, 4, 5, 6, 7, 8, 9], [0, 1, 2, 3, 4, 5, 6, 7, 8, 9, 10], [0, 1, 2, 3, 4, 5, 6, 7, 8, 9, 10], [0, 1, 2, 3, 4, 5, 6, 7, 8, 9, 10], [], [], [0, 1, 2, 3, 4, 5, 6, 7, 8, 9, 10, 11, 14, 15], [0, 1, 2, 3, 4, 5, 6, 7, 8, 9, 10, 11, 12, 14, 15, 16], [0, 1, 2, 3, 4, 5, 6, 7, 8, 9, 10, 11, 12, 13, 14, 15, 16, 17]] j) → ∀ q ∈ [14, 15], (q = 16 ∨ q ∈ clsAt [[], [0], [0, 1], [0, 1, 2], [], [], [5], [4, 5, 6], [], [0, 1, 2, 3, 4, 5, 6, 7, 8], [0, 1, 2, 3, 4, 5, 6, 7, 8, 9], [0, 1, 2, 3, 4, 5, 6, 7, 8, 9, 10], [0, 1, 2, 3, 4, 5, 6, 7, 8, 9, 10], [0, 1, 2, 3, 4, 5, 6, 7, 8, 9, 10], [], [], [0, 1, 2, 3, 4, 5, 6, 7, 8, 9, 10, 11, 14, 15], [0, 1, 2, 3, 4, 5, 6, 7, 8, 9, 10, 11, 12, 14, 15, 16], [0, 1, 2, 3, 4, 5, 6, 7, 8, 9, 10, 11, 12, 13, 14, 15, 16, 17]] 16) → p ≠ q → val p ≠ val q) (fun _ ⟨g, h1, h2, _⟩ => ⟨g, h1, h2, fun h => by rw [ZR] at h; cases h⟩) (ZF (fun hc ⟨g, h1, h2, h3⟩ => ⟨g, h1, h2, fun h => (h3 (by rwa [Z2 rfl] at h)).grown hgr (fun h => hc.2.2 15 (by simp) (.inl rfl) 14 (by simp) (.inr (ZA.1 rfl)) (by simp) (by have h1' : val 15 = _ := h1; rw [h1', e14]; injection h with h; rw [h]))⟩) (ZF (fun hc => absurd rfl hc.1) (ZF (fun hc ⟨g, h1, h2⟩ => ⟨g, h1, h2.grown hgr (fun h => hc.2.2 15 (by simp) (.inr (ZA.1 rfl)) 14 (by simp) (.inr (ZA.1 rfl)) (by simp) (by have h1' : val 15 = _ := h1; rw [h1', e14]; injection h with h; rw [h]))⟩) (fun _ _ h => h)))) j ⟨hj, hn, hA⟩
     ·
      intro val fl w1 a hb hfi ha hd hfl;obtain ⟨g15_, e15, hg15_, q15_⟩ := hd 15 (ZA.1 rfl);change val 15 = _ at e15;have e12 : val 12 = _ := hd 12 (ZA.1 rfl);have ha := ha.s2 (d := 45) (e := 9) rfl e12 rfl e15;refine ZY ha rfl rfl rfl (q15_ hfi) QAm rfl rfl rfl rfl ?_;intro w' hq hgr;refine ⟨undef, rfl, hgr.size, ZE hb hgr hg15_, ⟨g15_, e15, hq⟩, fun j _ hj hn hA => ?_⟩
      exact ZF (C := fun j => j ≠ 17 ∧ 17 ∉ clsAt [[], [0], [0, 1], [0, 1, 2], [], [], [5], [4, 5, 6], [], [0, 1, 2, 3, 4, 5, 6, 7, 8], [0, 1, 2, 3, 4, 5, 6, 7, 8, 9], [0, 1, 2, 3, 4, 5, 6, 7, 8, 9, 10], [0, 1, 2, 3, 4, 5, 6, 7, 8, 9, 10], [0, 1, 2, 3, 4, 5, 6, 7, 8, 9, 10], [], [], [0, 1, 2, 3, 4, 5, 6, 7, 8, 9, 10, 11, 14, 15], [0, 1, 2, 3, 4, 5, 6, 7, 8, 9, 10, 11, 12, 14, 15, 16], [0, 1, 2, 3, 4, 5, 6, 7, 8, 9, 10, 11, 12, 13, 14, 15, 16, 17]] j ∧ ∀ p ∈ [14, 15], (p = j ∨ p ∈ clsAt [[], [0], [0, 1], [0, 1, 2], [], [], [5], [4, 5, 6], [], [0, 1, 2, 3, 4, 5, 6, 7, 8], [0, 1, 2, 3, 4, 5, 6, 7, 8, 9], [0, 1, 2, 3, 4, 5, 6, 7, 8, 9, 10], [0, 1, 2, 3, 4, 5, 6, 7, 8, 9, 10], [0, 1, 2, 3, 4, 5, 6, 7, 8, 9, 10], [], [], [0, 1, 2, 3, 4, 5, 6, 7, 8, 9, 10, 11, 14, 15], [0, 1, 2, 3, 4, 5, 6, 7, 8, 9, 10, 11, 12, 14, 15, 16], [0, 1, 2, 3, 4, 5, 6, 7, 8, 9, 10, 11, 12, 13, 14, 15, 16, 17]] j) → ∀ q ∈ [14, 15], (q = 17 ∨ q ∈ clsAt [[], [0], [0, 1], [0, 1, 2], [], [], [5], [4, 5, 6], [], [0, 1, 2, 3, 4, 5, 6, 7, 8], [0, 1, 2, 3, 4, 5, 6, 7, 8, 9], [0, 1, 2, 3, 4, 5, 6, 7, 8, 9, 10], [0, 1, 2, 3, 4, 5, 6, 7, 8, 9, 10], [0, 1, 2, 3, 4, 5, 6, 7, 8, 9, 10], [], [], [0, 1, 2, 3, 4, 5, 6, 7, 8, 9, 10, 11, 14, 15], [0, 1, 2, 3, 4, 5, 6, 7, 8, 9, 10, 11, 12, 14, 15, 16], [0, 1, 2, 3, 4, 5, 6, 7, 8, 9, 10, 11, 12, 13, 14, 15, 16, 17]] 17) → p ≠ q → val p ≠ val q) (fun hc ⟨g, h1, h2, h3⟩ => ⟨g, h1, h2, fun h => (h3 (by rwa [Z2 rfl] at h)).grown hgr (fun h => hc.2.2 14 (by simp) (.inl rfl) 15 (by simp) (.inr (ZA.1 rfl)) (by simp) (by have h1' : val 14 = _ := h1; rw [h1', e15]; injection h with h; rw [h]))⟩) (ZF (fun _ ⟨g, h1, h2, _⟩ => ⟨g, h1, h2, fun h => by rw [ZR] at h; cases h⟩) (ZF (fun hc ⟨g, h1, h2⟩ => ⟨g, h1, h2.grown hgr (fun h => hc.2.2 14 (by simp) (.inr (ZA.1 rfl)) 15 (by simp) (.inr (ZA.1 rfl)) (by simp) (by have h1' : val 14 = _ := h1; rw [h1', e15]; injection h with h; rw [h]))⟩) (ZF (fun hc => absurd rfl hc.1) (fun _ _ h => h)))) j ⟨hj, hn, hA⟩
    ·intro val fl wR7 hfl hb halc hd
     have e0 : val 0 = _ := hd 0 (by omega)
     have e1 : val 1 = _ := hd 1 (by omega)
     have e2 : val 2 = _ := hd 2 (by omega)
     have e3 : val 3 = _ := hd 3 (by omega)
     have e4 : val 4 = _ := hd 4 (by omega)
     have e5 : val 5 = _ := hd 5 (by omega)
     have e6 : val 6 = _ := hd 6 (by omega)
     have e7 : val 7 = _ := hd 7 (by omega)
     have e8 : val 8 = _ := hd 8 (by omega)
     have e9 : val 9 = _ := hd 9 (by omega)
     have e10 : val 10 = _ := hd 10 (by omega)
     have e11 : val 11 = _ := hd 11 (by omega)
     have e12 : val 12 = _ := hd 12 (by omega)
     have e13 : val 13 = _ := hd 13 (by omega)
     obtain ⟨ga14_7, e14, qa14_7⟩ := hd 16 (by omega)
     change val 14 = _ at e14;obtain ⟨ga15_7, e15, qa15_7⟩ := hd 17 (by omega)
     change val 15 = _ at e15;refine EL.ends (cs := [_, _, _, _, _, _, _, _, _, _, _, _, _, _, _, _, val 16, val 17]) ⟨e0, e1, e2, e3, e4, e5, e6, e7, e8, e9, e10, e11, e12, e13, e14, e15, rfl, rfl, trivial⟩ rfl ?_;replace qb2 := qb2.bl hb;replace qb3 := qb3.bl hb;replace qbD := qbD.bl hb;replace qb11 := qb11.bl hb;replace hkp := hkp.trans (Kp.of_below hb (Nat.le_trans hn0 (Nat.le_trans hwW hkp.size)));replace hJ0 := hJ _ _ _ hJ0 (Soft.of_below hb);replace hq0 := ZB hq0 hb (Nat.le_refl _);replace hq1 := ZB hq1 hb (Nat.le_refl _);replace hpl := ZB hpl hb (Nat.le_refl _);have bge8 := Yc halc (i := 14) rfl rfl e14;have n1_8 : g2 ≠ ga14_7 := Nat.ne_of_lt (Nat.lt_of_lt_of_le lt_1 bge8);have n2_8 : g3 ≠ ga14_7 := Nat.ne_of_lt (Nat.lt_of_lt_of_le lt_2 bge8);have n3_8 : bd ≠ ga14_7 := Nat.ne_of_lt (Nat.lt_of_lt_of_le lt_3 bge8);have n4_8 : g4 ≠ ga14_7 := Nat.ne_of_lt (Nat.lt_of_lt_of_le lt_4 bge8);have bge9 := Yc halc (i := 15) rfl rfl e15;have n1_9 : g2 ≠ ga15_7 := Nat.ne_of_lt (Nat.lt_of_lt_of_le lt_1 bge9);have n2_9 : g3 ≠ ga15_7 := Nat.ne_of_lt (Nat.lt_of_lt_of_le lt_2 bge9);have n3_9 : bd ≠ ga15_7 := Nat.ne_of_lt (Nat.lt_of_lt_of_le lt_3 bge9);have n4_9 : g4 ≠ ga15_7 := Nat.ne_of_lt (Nat.lt_of_lt_of_le lt_4 bge9);have n8_9 : ga14_7 ≠ ga15_7 := QBe halc (i := 14) (j := 15) rfl rfl rfl rfl rfl e14 e15;refine EL.as rfl rfl (EL.nil (EX.seq (EC.seq (EC.seq (EC.region (EL.mv rfl rfl (EL.val (ZX rfl) rfl (EL.nil (EX.seq ?_)))))))));refine EC.no rfl (EC.skip (EX.seq (EC.seq ?_)));have lt_1 := qb2.lt;have lt_2 := qb3.lt;have lt_3 := qbD.lt;have lt_4 := qb11.lt;have lt_8 := qa14_7.lt;have lt_9 := qa15_7.lt;refine EC.inn (k := 0) ?_;refine ECI.regionY (by repeat (first | exact QEz | refine Zs ?_ | refine YR ?_)) (by kernel_rfl) [[], [], [], [2], [2, 3], [2, 3, 4], [2, 3, 4, 5], [], [7], [], [9], [7, 8, 9, 10], [7, 8, 9, 10, 11], [2, 3, 4, 5, 6, 7, 8, 9, 10, 11, 12], [1, 2, 3, 4, 5, 6, 7, 8, 9, 10, 11, 12, 13], [1, 2, 3, 4, 5, 6, 7, 8, 9, 10, 11, 12, 13, 14], [0, 1, 2, 3, 4, 5, 6, 7, 8, 9, 10, 11, 12, 13, 14, 15], [0, 1, 2, 3, 4, 5, 6, 7, 8, 9, 10, 11, 12, 13, 14, 15, 16]] 16 [] (phi (fun i_ r => match i_ with | 0 => r 0 = .func (.yield la) #[] #[] | 1 => r 1 = (stA (tkS d.s ((waitL q d.s false).take (n + 1)) false)) | 2 => r 2 = .pointer (some ⟨bd, 0, none⟩) | 3 => r 3 = .pointer (some ⟨bd, 0, none⟩) | 4 => r 4 = .pointer (some ⟨bd, 15, none⟩) | 5 => r 5 = .slice Ap d.plan.length cp | 6 => r 6 = .slice Ap d.plan.length d.plan.length | 7 => r 7 = .int .i64 (wyB false) | 8 => r 8 = .bool false | 9 => r 9 = .int .i64 (n : Nat) | 10 => r 10 = .int .i64 ((n + 1) : Nat) | 11 => r 11 = .agg #[.bool false, .int .i64 ((n + 1 : Nat) : Int)] | _ => True) [(12, fun r w_ => ∃ g_, r 12 = .slice (some ⟨g_, 0, none⟩) 1 1 ∧ Blk w_ g_ 87 #[.bool false, .int .i64 ((n + 1 : Nat) : Int)] ∧ wR7.heap.size ≤ g_), (13, fun r w_ => ∃ A c, r 13 = .slice A (d.plan.length + 1) c ∧ w_.ownsRow n0 87 2 (.slice A (d.plan.length + 1) c) (d.plan.length + 1) (spsC d.plan ++ [.bool false, .int .i64 ((n + 1 : Nat) : Int)])), (14, fun r w_ => ∃ A c, r 14 = .agg #[.int .i64 (tkS d.s ((waitL q d.s false).take (n + 1)) false).lk.length, .int .i64 (tkS d.s ((waitL q d.s false).take (n + 1)) false).lk.cycle, .int .i64 (tkS d.s ((waitL q d.s false).take (n + 1)) false).lk.turn, .int .i64 (tkS d.s ((waitL q d.s false).take (n + 1)) false).lk.fill, .int .i64 (tkS d.s ((waitL q d.s false).take (n + 1)) false).lk.save, .bool (tkS d.s ((waitL q d.s false).take (n + 1)) false).lk.high, .int .i64 (tkS d.s ((waitL q d.s false).take (n + 1)) false).up, .int .i64 (tkS d.s ((waitL q d.s false).take (n + 1)) false).lo, .int .i64 (tkS d.s ((waitL q d.s false).take (n + 1)) false).ch, .int .i64 (tkS d.s ((waitL q d.s false).take (n + 1)) false).ba, .int .i64 (tkS d.s ((waitL q d.s false).take (n + 1)) false).mv, .int .i64 (tkS d.s ((waitL q d.s false).take (n + 1)) false).fr, .int .i64 ((tkS d.s ((waitL q d.s false).take (n + 1)) false).t0 : Nat), .int .i64 ((tkS d.s ((waitL q d.s false).take (n + 1)) false).t1 : Nat), .int .i64 (tkS d.s ((waitL q d.s false).take (n + 1)) false).cost, .slice A (d.plan.length + 1) c] ∧ w_.ownsRow n0 87 2 (.slice A (d.plan.length + 1) c) (d.plan.length + 1) (spsC d.plan ++ [.bool false, .int .i64 ((n + 1 : Nat) : Int)])), (15, fun r w_ => OwnDr w_ n0 (r 15) (oneD q d false (n + 1)))]) (by kernel_rfl) rfl rfl (Ye QAL (Ye (QDa (f := fun A c => .slice A (d.plan.length + 1) c)) (Ye (QDa (f := fun A c => .agg #[.int .i64 (tkS d.s ((waitL q d.s false).take (n + 1)) false).lk.length, .int .i64 (tkS d.s ((waitL q d.s false).take (n + 1)) false).lk.cycle, .int .i64 (tkS d.s ((waitL q d.s false).take (n + 1)) false).lk.turn, .int .i64 (tkS d.s ((waitL q d.s false).take (n + 1)) false).lk.fill, .int .i64 (tkS d.s ((waitL q d.s false).take (n + 1)) false).lk.save, .bool (tkS d.s ((waitL q d.s false).take (n + 1)) false).lk.high, .int .i64 (tkS d.s ((waitL q d.s false).take (n + 1)) false).up, .int .i64 (tkS d.s ((waitL q d.s false).take (n + 1)) false).lo, .int .i64 (tkS d.s ((waitL q d.s false).take (n + 1)) false).ch, .int .i64 (tkS d.s ((waitL q d.s false).take (n + 1)) false).ba, .int .i64 (tkS d.s ((waitL q d.s false).take (n + 1)) false).mv, .int .i64 (tkS d.s ((waitL q d.s false).take (n + 1)) false).fr, .int .i64 ((tkS d.s ((waitL q d.s false).take (n + 1)) false).t0 : Nat), .int .i64 ((tkS d.s ((waitL q d.s false).take (n + 1)) false).t1 : Nat), .int .i64 (tkS d.s ((waitL q d.s false).take (n + 1)) false).cost, .slice A (d.plan.length + 1) c])) (Ye (fun _ _ _ hb h => h.below hb) (Yu))))) (fun i_ hi_ => ?_) ?_
     ·match i_, hi_ with
      | 0, _ =>
       intro val w1 a hb ha hd;have ha := ha.s0 (d := 0) rfl
       exact ZJ ha rfl rfl (x_move rfl) rfl rfl
      | 1, _ =>
       intro val w1 a hb ha hd;have ha := ha.s0 (d := 8) rfl
       exact ZJ ha rfl rfl (Z8 rfl ((qa14_7.below hb qa14_7.lt).at (j := 0) rfl) ((qa14_7.below hb qa14_7.lt).at (j := 1) rfl) ((qa14_7.below hb qa14_7.lt).at (j := 2) rfl) ((qa14_7.below hb qa14_7.lt).at (j := 3) rfl) ((qa14_7.below hb qa14_7.lt).at (j := 4) rfl) ((qa14_7.below hb qa14_7.lt).at (j := 5) rfl) ((qa14_7.below hb qa14_7.lt).at (j := 6) rfl) ((qa14_7.below hb qa14_7.lt).at (j := 7) rfl) ((qa14_7.below hb qa14_7.lt).at (j := 8) rfl) ((qa14_7.below hb qa14_7.lt).at (j := 9) rfl) ((qa14_7.below hb qa14_7.lt).at (j := 10) rfl) ((qa14_7.below hb qa14_7.lt).at (j := 11) rfl) ((qa14_7.below hb qa14_7.lt).at (j := 12) rfl) ((qa14_7.below hb qa14_7.lt).at (j := 13) rfl) ((qa14_7.below hb qa14_7.lt).at (j := 14) rfl)) rfl rfl
      | 2, _ =>
       intro val w1 a hb ha hd;have ha := ha.s0 (d := 2) rfl
       exact ZJ ha rfl rfl (Z7 rfl ((qb2.below hb qb2.lt).at (j := 0) rfl)) rfl rfl
      | 3, _ =>
       intro val w1 a hb ha hd;have e2 : val 2 = _ := hd 2 (ZA.1 rfl);have ha := ha.s1 (d := 51) rfl e2
       exact ZJ ha rfl rfl (ZH rfl) rfl rfl
      | 4, _ =>
       intro val w1 a hb ha hd;have e3 : val 3 = _ := hd 3 (ZA.1 rfl);have ha := ha.s1 (d := 52) rfl e3
       exact ZJ ha rfl rfl (QAW rfl) rfl rfl
      | 5, _ =>
       intro val w1 a hb ha hd;have e4 : val 4 = _ := hd 4 (ZA.1 rfl);have ha := ha.s1 (d := 53) rfl e4
       exact ZJ ha rfl rfl (QED rfl ((qbD.below hb qbD.lt).at (j := 15) rfl)) rfl rfl
      | 6, _ =>
       intro val w1 a hb ha hd;have e5 : val 5 = _ := hd 5 (ZA.1 rfl);have ha := ha.s1 (d := 54) rfl e5;refine QAc ha rfl rfl (cA1 cF82 rfl) (QGu _ (ZB hpl hb (Nat.le_refl _))) rfl ?_
       rintro e w' ⟨rfl, hb'⟩
       exact ⟨_, rfl, hb', rfl⟩
      | 7, _ =>
       intro val w1 a hb ha hd;have ha := ha.s0 (d := 5) rfl
       exact ZJ ha rfl rfl (x_move rfl) rfl rfl
      | 8, _ =>
       intro val w1 a hb ha hd;have e7 : val 7 = _ := hd 7 (ZA.1 rfl);have ha := ha.s1 (d := 56) rfl e7
       exact ZJ ha rfl rfl (QFD rfl) rfl rfl
      | 9, _ =>
       intro val w1 a hb ha hd;have ha := ha.s0 (d := 7) rfl
       exact ZJ ha rfl rfl (x_move rfl) rfl rfl
      | 10, _ =>
       intro val w1 a hb ha hd;have e9 : val 9 = _ := hd 9 (ZA.1 rfl);have ha := ha.s1 (d := 58) rfl e9
       exact ZJ ha rfl rfl (x_add rfl rfl (c := ((n + 1 : Nat) : Int)) ((IntWalk.i64_in _ ⟨by first | omega | (simp only; omega), by first | omega | (simp only; omega)⟩).trans (by first | omega | (simp only; omega)))) rfl rfl
      | 11, _ =>
       intro val w1 a hb ha hd;have e8 : val 8 = _ := hd 8 (ZA.1 rfl);have e10 : val 10 = _ := hd 10 (ZA.1 rfl);have ha := ha.s2 (d := 59) (e := 57) rfl e10 rfl e8
       exact ZJ ha rfl rfl (QAz rfl rfl) rfl rfl
      | 12, _ =>
       intro val w1 a hb ha hd;have e11 : val 11 = _ := hd 11 (ZA.1 rfl);have ha := ha.s1 (d := 60) rfl e11
       exact QDd ha rfl rfl (QII rfl) rfl (fun g w' hq _ hge => ⟨g, rfl, hq, Nat.le_trans hb.size hge⟩)
      | 13, _ =>
       intro val w1 a hb ha hd;have e6 : val 6 = _ := hd 6 (ZA.1 rfl);obtain ⟨g12_, e12, q12_, h12_⟩ := hd 12 (ZA.1 rfl);change val 12 = _ at e12;have ha := ha.s2 (d := 61) (e := 55) rfl e12 rfl e6;refine QH6 (base := n0) QHZ ha rfl rfl rfl (QHf (Rd.of_own (ZB hpl hb (Nat.le_refl _)))) (QAE (l := [.bool false, .int .i64 ((n + 1 : Nat) : Int)]) q12_ rfl) (by omega) (by omega) rfl (by have := hb.size; have := hkp.size; omega) rfl ?_
       intro v' w' ho' _;obtain ⟨A', c', rfl, _⟩ := (Rd.of_own ho').shape
       exact ⟨A', c', rfl, ho'⟩
      | 14, _ =>
       intro val w1 a hb ha hd;have e1 : val 1 = _ := hd 1 (ZA.1 rfl);obtain ⟨A13_, c13_, e13, ho13_⟩ := hd 13 (ZA.1 rfl);have ha := ha.s2 (d := 62) (e := 50) rfl e13 rfl e1
       exact ZJ ha rfl rfl (QER rfl rfl) ⟨A13_, c13_, rfl, ho13_⟩ rfl
      | 15, _ =>
       intro val w1 a hb ha hd;obtain ⟨A14_, c14_, e14, ho14_⟩ := hd 14 (ZA.1 rfl);have ha := ha.s1 (d := 63) rfl e14
       exact QH5 ha rfl rfl (QHI rfl) (fun g w' hq hb' hge => (⟨g, _, rfl, by have := hb.size; have := hkp.size; omega, hq, QHj (ZB ho14_ hb' (Nat.le_refl _))⟩ : OwnDr w' n0 (.pointer (some ⟨g, 0, none⟩)) (oneD q d false (n + 1))))
      | k + 16, h => exact absurd h (by omega)
     ·intro val wR9 hb halc hd
      have e0 : val 0 = _ := hd 0 (by omega)
      have e1 : val 1 = _ := hd 1 (by omega)
      have e2 : val 2 = _ := hd 2 (by omega)
      have e3 : val 3 = _ := hd 3 (by omega)
      have e4 : val 4 = _ := hd 4 (by omega)
      have e5 : val 5 = _ := hd 5 (by omega)
      have e6 : val 6 = _ := hd 6 (by omega)
      have e7 : val 7 = _ := hd 7 (by omega)
      have e8 : val 8 = _ := hd 8 (by omega)
      have e9 : val 9 = _ := hd 9 (by omega)
      have e10 : val 10 = _ := hd 10 (by omega)
      have e11 : val 11 = _ := hd 11 (by omega)
      obtain ⟨ga12_9, e12, qa12_9, hga12_9⟩ := hd 12 (by omega)
      change val 12 = _ at e12;change Blk wR9 ga12_9 87 #[.bool false, .int .i64 ((n + 1 : Nat) : Int)] at qa12_9;obtain ⟨A13_, c13_, e13, ho13_⟩ := hd 13 (by omega)
      obtain ⟨A14_, c14_, e14, ho14_⟩ := hd 14 (by omega)
      obtain hDN_ := hd 15 (by omega)
      have e15 : val 15 = val 15 := rfl;refine ELI.ends (cs := [.func (.yield la) #[] #[], (stA (tkS d.s ((waitL q d.s false).take (n + 1)) false)), .pointer (some ⟨bd, 0, none⟩), .pointer (some ⟨bd, 0, none⟩), .pointer (some ⟨bd, 15, none⟩), .slice Ap d.plan.length cp, .slice Ap d.plan.length d.plan.length, .int .i64 (wyB false), .bool false, .int .i64 (n : Nat), .int .i64 ((n + 1) : Nat), .agg #[.bool false, .int .i64 ((n + 1 : Nat) : Int)], .slice (some ⟨ga12_9, 0, none⟩) 1 1, .slice A13_ (d.plan.length + 1) c13_, .agg #[.int .i64 (tkS d.s ((waitL q d.s false).take (n + 1)) false).lk.length, .int .i64 (tkS d.s ((waitL q d.s false).take (n + 1)) false).lk.cycle, .int .i64 (tkS d.s ((waitL q d.s false).take (n + 1)) false).lk.turn, .int .i64 (tkS d.s ((waitL q d.s false).take (n + 1)) false).lk.fill, .int .i64 (tkS d.s ((waitL q d.s false).take (n + 1)) false).lk.save, .bool (tkS d.s ((waitL q d.s false).take (n + 1)) false).lk.high, .int .i64 (tkS d.s ((waitL q d.s false).take (n + 1)) false).up, .int .i64 (tkS d.s ((waitL q d.s false).take (n + 1)) false).lo, .int .i64 (tkS d.s ((waitL q d.s false).take (n + 1)) false).ch, .int .i64 (tkS d.s ((waitL q d.s false).take (n + 1)) false).ba, .int .i64 (tkS d.s ((waitL q d.s false).take (n + 1)) false).mv, .int .i64 (tkS d.s ((waitL q d.s false).take (n + 1)) false).fr, .int .i64 ((tkS d.s ((waitL q d.s false).take (n + 1)) false).t0 : Nat), .int .i64 ((tkS d.s ((waitL q d.s false).take (n + 1)) false).t1 : Nat), .int .i64 (tkS d.s ((waitL q d.s false).take (n + 1)) false).cost, .slice A14_ (d.plan.length + 1) c14_], val 15]) ⟨e0, e1, e2, e3, e4, e5, e6, e7, e8, e9, e10, e11, e12, e13, e14, e15, trivial⟩ rfl ?_;replace qb2 := qb2.bl hb;replace qb3 := qb3.bl hb;replace qbD := qbD.bl hb;replace qb11 := qb11.bl hb;replace qa14_7 := qa14_7.bl hb;replace qa15_7 := qa15_7.bl hb;replace hkp := hkp.trans (Kp.of_below hb (Nat.le_trans hn0 (Nat.le_trans hwW hkp.size)));replace hJ0 := hJ _ _ _ hJ0 (Soft.of_below hb);replace hq0 := ZB hq0 hb (Nat.le_refl _);replace hq1 := ZB hq1 hb (Nat.le_refl _);replace hpl := ZB hpl hb (Nat.le_refl _);have n1_10 : g2 ≠ ga12_9 := Nat.ne_of_lt (Nat.lt_of_lt_of_le lt_1 hga12_9);have n2_10 : g3 ≠ ga12_9 := Nat.ne_of_lt (Nat.lt_of_lt_of_le lt_2 hga12_9);have n3_10 : bd ≠ ga12_9 := Nat.ne_of_lt (Nat.lt_of_lt_of_le lt_3 hga12_9);have n4_10 : g4 ≠ ga12_9 := Nat.ne_of_lt (Nat.lt_of_lt_of_le lt_4 hga12_9);have n8_10 : ga14_7 ≠ ga12_9 := Nat.ne_of_lt (Nat.lt_of_lt_of_le lt_8 hga12_9);have n9_10 : ga15_7 ≠ ga12_9 := Nat.ne_of_lt (Nat.lt_of_lt_of_le lt_9 hga12_9);clear hb;clear ho13_ ho14_;change OwnDr wR9 n0 (val 15) (oneD q d false (n + 1)) at hDN_;have hpf : (xs ++ [([((0 + n : Nat) : Int)], val 15)]).map (·.1) <+: allE (nextL q d).length := by rw [List.map_append, hall]; exact QEY (by rw [QC3]; omega)
      have hokx : okN q d n0 ([((0 + n : Nat) : Int)], val 15) wR9 := by unfold okN; rw [show ([((0 + n : Nat) : Int)] : List Int).getD 0 0 = ((0 + n : Nat) : Int) from rfl, Int.toNat_natCast, Nat.zero_add, QK6 hnl]; exact hDN_
      obtain ⟨fn_, tmps_, assign_, body_, hi_, hR_⟩ := hY xs ([((0 + n : Nat) : Int)], val 15) _ hokx hJ0 hpf;refine ELI.yield rfl rfl rfl hi_ hR_ ?_
      rintro e wy ⟨hky, _, hfr, ⟨rfl, hJy⟩ | ⟨rfl, hJy⟩⟩
      ·
       refine ⟨_, rfl, ?_⟩;refine ELI.val (ZX rfl) rfl (ELI.nil (EXI.of ?_));replace qb2 : Blk wy g2 122 #[.pointer (some ⟨bd, 0, none⟩)] := (hfr g2 hlo.1 hlo.2 qb2.lt).trans qb2;replace qb11 := hky.blk _ _ _ qb11 rfl;replace qb3 := hky.blk _ _ _ qb3 rfl;replace qbD := hky.blk _ _ _ qbD rfl;replace hq0 := hky.row hq0 rfl;replace hq1 := hky.row hq1 rfl;replace hpl := hky.row hpl rfl;replace hkp := hkp.trans hky;have hJ0 := hJy;refine EX.seq (EC.no rfl (EC.skip (EX.blk (EX.seq (EC.region ?_)))));refine EL.val (x_add rfl rfl (c := ((n + 1 : Nat) : Int)) ((IntWalk.i64_in _ ⟨by first | omega | (simp only; omega), by first | omega | (simp only; omega)⟩).trans (by first | omega | (simp only; omega)))) rfl ?_
       refine EL.mv rfl rfl (EL.nil ?_);refine EX.roundD (n + 1, xs ++ [([((0 + n : Nat) : Int)], val 15)]) ⟨rfl, trivial⟩ (by repeat first | with_reducible exact .refl _ | refine sp_ rfl ?_ | exact .refl _ | refine sd_ rfl ?_ | refine sn_ ?_) ⟨hnl, by simp only; rw [List.map_append, hall]; exact QBx.symm, qb11, qb2, qb3, qbD, hq0, hq1, hpl, hkp, hJ0⟩ (show (waitL q d.s false).length - (n + 1) < (waitL q d.s false).length - n by omega)
      ·
       refine ⟨_, rfl, ?_⟩;refine ELI.val (ZX rfl) rfl (ELI.nil (EXI.of ?_));replace qb2 : Blk wy g2 122 #[.pointer (some ⟨bd, 0, none⟩)] := (hfr g2 hlo.1 hlo.2 qb2.lt).trans qb2;replace qb11 := hky.blk _ _ _ qb11 rfl;replace qb3 := hky.blk _ _ _ qb3 rfl;replace qbD := hky.blk _ _ _ qbD rfl;replace hq0 := hky.row hq0 rfl;replace hq1 := hky.row hq1 rfl;replace hpl := hky.row hpl rfl;replace hkp := hkp.trans hky;have hJ0 := hJy;refine EX.seq (EC.yes rfl (EC.ret (EX.blk_ret (EX.seq_ret (EX.seq_ret (EX.blk_ret (EX.blk_ret (EX.seq_ret (EX.seq_ret ?_)))))))));refine EX.blk_ret ?_
       exact EX.done (res0 rfl) ⟨⟨_, rfl⟩, hkp, .inr ⟨xs ++ [([((0 + n : Nat) : Int)], val 15)], by simp, hpf, hJ0⟩⟩
  ·
   have hne : n = cntN q d false := by
    rcases Nat.lt_or_ge n (cntN q d false) with h_ | h_
    ·omega
    ·omega
   refine EC.seq (EC.region ?_);refine EL.val (ZO (r := false) rfl rfl (decide_eq_false (by omega))) rfl ?_
   refine EL.nil (EX.seq (EC.seq (EC.no rfl (EC.exit (EX.seq_exit (EX.seq_exit (EX.blk_here (EX.blk (EX.seq ?_)))))))));refine EC.region (EL.val (x_add rfl rfl (c := ((0 + 1 : Nat) : Int)) rfl) rfl (EL.mv rfl rfl (EL.nil ?_)));refine EX.roundD (0 + 1, xs) ⟨rfl, trivial⟩ (by repeat first | with_reducible exact .refl _ | refine sp_ rfl ?_ | exact .refl _ | refine sd_ rfl ?_ | refine sn_ ?_) ⟨by rw [hall, hne, Nat.zero_add]; rfl, by omega, qb11, qb2, qb3, qbD, hq0, hq1, hpl, hkp, hJ0⟩ (by omega)
 ·
  refine EC.seq (EC.region ?_);refine EL.val (ZO (r := true) rfl rfl (decide_eq_true (by omega))) rfl ?_
  refine EL.nil (EX.seq (EC.seq (EC.yes rfl (EC.skip (EX.seq (EC.seq (EC.block (EC.seq (EC.region ?_)))))))));refine EL.val (QJ3 (k := 1) rfl rfl (by omega)) rfl ?_
  refine EL.val (QJ1 rfl (qb11.at (j := 1) rfl)) rfl (EL.as rfl rfl (EL.nil (EX.seq (EC.seq ?_))));obtain ⟨A6, hA6⟩ : ∃ A6, A6 = QDC A1 c1 d.s.t1 := ⟨_, rfl⟩;obtain ⟨c6, hc6⟩ : ∃ c6, c6 = c1 - d.s.t1 := ⟨_, rfl⟩;obtain ⟨hgv, hre, hcp⟩ := QBG (W := V) hq1 (lo := d.s.t1) (by have := hdk.le true; exact this) hA6 hc6
  refine EC.regionQ (by kernel_rfl) (by kernel_rfl) ?_
  refine EQ.mv rfl rfl ?_;refine EQ.val (fun _ hw => (YD (k := 1) rfl rfl (by omega))) rfl ?_
  refine EQ.val (fun _ hw => (QAI rfl (ZC hw (qb3.at (j := 1) rfl)))) rfl ?_
  refine EQ.val (fun _ hw => (Z7 rfl (ZC hw (qb2.at (j := 0) rfl)))) rfl ?_
  refine EQ.mv rfl rfl ?_;refine EQ.val (fun _ hw => (ZH rfl)) rfl ?_
  refine EQ.val (fun _ hw => (Ze rfl)) rfl ?_
  refine EQ.val (fun _ hw => (Zp rfl)) rfl ?_
  refine EQ.val (fun _ hw => (Zj (k := 1) rfl rfl (by omega))) rfl ?_
  refine EQ.val (fun _ hw => (ld_3 rfl (ZC hw (qbD.at (j := 13) rfl)))) rfl ?_
  refine EQ.val (fun _ hw => (hgv rfl rfl)) rfl ?_
  refine EQ.val (fun _ hw => (ZZ rfl)) rfl ?_
  refine EQ.fin (fun w11 hw_ => ?_)
  replace qb2 := qb2.bl hw_;replace qb3 := qb3.bl hw_;replace qbD := qbD.bl hw_;replace qb11 := qb11.bl hw_;replace hkp := hkp.trans (Kp.of_below hw_ (Nat.le_trans hn0 (Nat.le_trans hwW hkp.size)));replace hJ0 := hJ _ _ _ hJ0 (Soft.of_below hw_);replace hq0 := ZB hq0 hw_ (Nat.le_refl _);replace hq1 := ZB hq1 hw_ (Nat.le_refl _);replace hpl := ZB hpl hw_ (Nat.le_refl _);clear hw_;have hwl : (waitL q d.s true).length = (q true).length - d.s.t1 := YW q d.s true
  skip
  refine EX.seq (EC.seq (EC.region (EL.mv rfl rfl (EL.val (Yg rfl) rfl (EL.mv rfl rfl (EL.nil (EX.seq (EC.block ?_))))))));refine EC.loopD [7, 8, 9, 10, 30, 31, 32, 33, 34, 35, 36, 37, 38, 39, 40, 41, 42, 43, 44, 45, 46, 47, 48, 49, 50, 51, 52, 53, 54, 55, 56, 57, 58, 59, 60, 61, 62, 63, 64, 65, 66, 67] (fun x : Nat × List It => [(30, .int .i64 (x.1 : Nat))]) (fun x V => x.1 ≤ cntN q d true ∧ x.2.map (·.1) = allE (cntN q d false + x.1) ∧ Blk V g4 136 #[.int .i64 0, .int .i64 1] ∧ Blk V g2 122 #[.pointer (some ⟨bd, 0, none⟩)] ∧ Blk V g3 134 #[.slice A0 (q false).length c0, .slice A1 (q true).length c1] ∧ Blk V bd 124 (stC d.s ++ [(Value.slice Ap d.plan.length cp)]).toArray ∧ V.ownsRow n0 39 5 (.slice A0 (q false).length c0) (q false).length (twsC (q false)) ∧ V.ownsRow n0 39 5 (.slice A1 (q true).length c1) (q true).length (twsC (q true)) ∧ V.ownsRow n0 87 2 (Value.slice Ap d.plan.length cp) d.plan.length (spsC d.plan) ∧ Kp n0 [145, 122] W V ∧ J x.2 V) (fun x => (waitL q d.s true).length - x.1) (0, pre) ⟨Nat.zero_le _, hall, qb11, qb2, qb3, qbD, hq0, hq1, hpl, hkp, hJ0⟩ ⟨rfl, trivial⟩ ?_
  clear hall qb11 qb2 qb3 qbD hq0 hq1 hpl hkp hJ0 hre
  rintro ⟨n, xs⟩ V2 ⟨hnc, hall, qb11, qb2, qb3, qbD, hq0, hq1, hpl, hkp, hJ0⟩
  dsimp only at hnc hall hJ0
  have hcl : cntN q d true ≤ (waitL q d.s true).length := QFn;obtain ⟨_, hre, _⟩ := QBG (W := V2) hq1 (lo := d.s.t1) (by have := hdk.le true; exact this) hA6 hc6
  clear hgv
  by_cases hlt : n < (waitL q d.s true).length
  ·
   refine EC.seq (EC.region ?_);refine EL.val (ZO (r := true) rfl rfl (decide_eq_true (by omega))) rfl ?_
   refine EL.nil (EX.seq (EC.seq (EC.yes rfl (EC.skip (EX.seq (EC.seq (EC.block (EC.seq (EC.region ?_)))))))));refine EL.mv rfl rfl (EL.as rfl rfl (EL.nil (EX.seq (EC.seq ?_))))
   cases hf : fitN q d.s true (n + 1)
   ·
    have hne : n = cntN q d true := by
     have h_ : ¬n < cntN q d true := fun h => by rw [(QCr hnc hlt).2 h] at hf; cases hf
     omega
    obtain ⟨b6, o6, rfl⟩ : ∃ b o, A6 = some ⟨b, o, none⟩ := by
     obtain ⟨b_, o_, e_, _⟩ := hre.at_ (by omega)
     exact ⟨b_, o_, e_⟩
    have htk := Y_ hre (k := n + 1) (by omega)
    rw [← Ym] at htk;have hsum := QBy hqk hdk (u := true) (n := n + 1) (by omega)
    have lt_1 := qb2.lt;have lt_2 := qb3.lt;have lt_3 := qbD.lt;have lt_4 := qb11.lt;refine EC.regionS [[], [0], [0, 1], [0, 1, 2], [], [], [5], [4, 5, 6], [], [0, 1, 2, 3, 4, 5, 6, 7, 8], [0, 1, 2, 3, 4, 5, 6, 7, 8, 9], [0, 1, 2, 3, 4, 5, 6, 7, 8, 9, 10], [0, 1, 2, 3, 4, 5, 6, 7, 8, 9, 10], [0, 1, 2, 3, 4, 5, 6, 7, 8, 9, 10], [], [], [0, 1, 2, 3, 4, 5, 6, 7, 8, 9, 10, 11, 14, 15], [0, 1, 2, 3, 4, 5, 6, 7, 8, 9, 10, 11, 12, 14, 15, 16], [0, 1, 2, 3, 4, 5, 6, 7, 8, 9, 10, 11, 12, 13, 14, 15, 16, 17]] 18 [14, 15] [16, 17] (fun _ w_ => Below V2.heap.size V2 w_) (phiS (fun i_ r => match i_ with | 0 => r 0 = .pointer (some ⟨bd, 0, none⟩) | 1 => r 1 = .pointer (some ⟨bd, 0, none⟩) | 2 => r 2 = .pointer (some ⟨bd, 0, none⟩) | 3 => r 3 = (stA d.s) | 4 => r 4 = .slice (some ⟨b6, o6, none⟩) ((q true).length - d.s.t1) c6 | 5 => r 5 = .int .i64 (n : Nat) | 6 => r 6 = .int .i64 ((n + 1) : Nat) | 7 => r 7 = .slice (some ⟨b6, o6, none⟩) (n + 1) c6 | 8 => r 8 = .int .i64 (wyB true) | 9 => r 9 = .tuple #[(stA d.s), .agg #[.int .i64 rn0.start, .int .i64 rn0.stop], .bool false] | 10 => r 10 = .tuple #[(stA d.s), .agg #[.int .i64 rn0.start, .int .i64 rn0.stop], .bool false] | 11 => r 11 = (stA d.s) | 12 => r 12 = .agg #[.int .i64 rn0.start, .int .i64 rn0.stop] | 13 => r 13 = .bool false | _ => True) [(14, fun fl r w_ => ∃ g_, r 14 = .pointer (some ⟨g_, 0, none⟩) ∧ V2.heap.size ≤ g_ ∧ (fl 16 = false → Blk w_ g_ 114 #[.int .i64 0, .int .i64 0, .int .i64 0, .int .i64 0, .int .i64 0, .bool false, .int .i64 0, .int .i64 0, .int .i64 0, .int .i64 0, .int .i64 0, .int .i64 0, .int .i64 0, .int .i64 0, .int .i64 0])), (15, fun fl r w_ => ∃ g_, r 15 = .pointer (some ⟨g_, 0, none⟩) ∧ V2.heap.size ≤ g_ ∧ (fl 17 = false → Blk w_ g_ 49 #[.int .i64 0, .int .i64 0])), (16, fun _ r w_ => ∃ g_, r 14 = .pointer (some ⟨g_, 0, none⟩) ∧ Blk w_ g_ 114 (stB d.s)), (17, fun _ r w_ => ∃ g_, r 15 = .pointer (some ⟨g_, 0, none⟩) ∧ Blk w_ g_ 49 #[.int .i64 rn0.start, .int .i64 rn0.stop])]) (by kernel_rfl) rfl rfl (by intro i hi; simp at hi; first | (subst hi; exact ⟨by simp, by omega⟩) | (rcases hi with rfl | rfl | rfl <;> exact ⟨by simp, by omega⟩) | (rcases hi with rfl | rfl <;> exact ⟨by simp, by omega⟩)) (YZ V2) (ZL Zi (ZL Zi (ZL Zh (ZL Zh (Zd))))) (fun i_ hi_ hs_ => ?_) (fun i_ hi_ => ?_) ?_
    ·match i_, hi_ with
     | 0, _ =>
      intro val fl w1 a hb ha hd hfl;have ha := ha.s0 (d := 2) rfl
      exact ZD ha rfl rfl (Z7 rfl ((qb2.below hb qb2.lt).at (j := 0) rfl)) rfl rfl
     | 1, _ =>
      intro val fl w1 a hb ha hd hfl;have e0 : val 0 = _ := hd 0 (ZA.1 rfl);have ha := ha.s1 (d := 34) rfl e0
      exact ZD ha rfl rfl (ZH rfl) rfl rfl
     | 2, _ =>
      intro val fl w1 a hb ha hd hfl;have e1 : val 1 = _ := hd 1 (ZA.1 rfl);have ha := ha.s1 (d := 35) rfl e1
      exact ZD ha rfl rfl (Ze rfl) rfl rfl
     | 3, _ =>
      intro val fl w1 a hb ha hd hfl;have e2 : val 2 = _ := hd 2 (ZA.1 rfl);have ha := ha.s1 (d := 36) rfl e2
      exact ZD ha rfl rfl (Z8 rfl ((qbD.below hb qbD.lt).at (j := 0) rfl) ((qbD.below hb qbD.lt).at (j := 1) rfl) ((qbD.below hb qbD.lt).at (j := 2) rfl) ((qbD.below hb qbD.lt).at (j := 3) rfl) ((qbD.below hb qbD.lt).at (j := 4) rfl) ((qbD.below hb qbD.lt).at (j := 5) rfl) ((qbD.below hb qbD.lt).at (j := 6) rfl) ((qbD.below hb qbD.lt).at (j := 7) rfl) ((qbD.below hb qbD.lt).at (j := 8) rfl) ((qbD.below hb qbD.lt).at (j := 9) rfl) ((qbD.below hb qbD.lt).at (j := 10) rfl) ((qbD.below hb qbD.lt).at (j := 11) rfl) ((qbD.below hb qbD.lt).at (j := 12) rfl) ((qbD.below hb qbD.lt).at (j := 13) rfl) ((qbD.below hb qbD.lt).at (j := 14) rfl)) rfl rfl
     | 4, _ =>
      intro val fl w1 a hb ha hd hfl;have ha := ha.s0 (d := 6) rfl
      exact ZD ha rfl rfl (x_move rfl) rfl rfl
     | 5, _ =>
      intro val fl w1 a hb ha hd hfl;have ha := ha.s0 (d := 7) rfl
      exact ZD ha rfl rfl (x_move rfl) rfl rfl
     | 6, _ =>
      intro val fl w1 a hb ha hd hfl;have e5 : val 5 = _ := hd 5 (ZA.1 rfl);have ha := ha.s1 (d := 39) rfl e5
      exact ZD ha rfl rfl (x_add rfl rfl (c := ((n + 1 : Nat) : Int)) ((IntWalk.i64_in _ ⟨by first | omega | (simp only; omega), by first | omega | (simp only; omega)⟩).trans (by first | omega | (simp only; omega)))) rfl rfl
     | 7, _ =>
      intro val fl w1 a hb ha hd hfl;have e4 : val 4 = _ := hd 4 (ZA.1 rfl);have e6 : val 6 = _ := hd 6 (ZA.1 rfl);have ha := ha.s2 (d := 40) (e := 38) rfl e6 rfl e4
      exact ZD ha rfl rfl (QFL rfl rfl (by omega)) rfl rfl
     | 8, _ =>
      intro val fl w1 a hb ha hd hfl;have ha := ha.s0 (d := 5) rfl
      exact ZD ha rfl rfl (x_move rfl) rfl rfl
     | 9, _ =>
      intro val fl w1 a hb ha hd hfl;have e3 : val 3 = _ := hd 3 (ZA.1 rfl);have e7 : val 7 = _ := hd 7 (ZA.1 rfl);have e8 : val 8 = _ := hd 8 (ZA.1 rfl);have ha := ha.sub (Sub.ins (d := 42) (Sub.ins (d := 41) (Sub.ins (d := 37) (Sub.nil _) (ZQ rfl e3)) (ZQ rfl e7)) (ZQ rfl e8));refine Yb ha rfl rfl (cA3 cF57 rfl rfl rfl) (QDT hdk.st (Yr (d := d) (u := true) (n := n + 1) hqk) (by rw [Zk (by omega)]; exact hsum) (by rw [Zk (by omega)]; exact (htk.below (hb.mono (Nat.le_refl _)))) hb.size (by have := hf; unfold fitN at this; exact this)) rfl ?_
      rintro e w' ⟨rfl, hb'⟩
      exact ⟨_, rfl, hb', rfl⟩
     | 10, _ =>
      intro val fl w1 a hb ha hd hfl;have e9 : val 9 = _ := hd 9 (ZA.1 rfl);have ha := ha.s1 (d := 43) rfl e9
      exact ZD ha rfl rfl (x_move rfl) rfl rfl
     | 11, _ =>
      intro val fl w1 a hb ha hd hfl;have e10 : val 10 = _ := hd 10 (ZA.1 rfl);have ha := ha.s1 (d := 33) rfl e10
      exact ZD ha rfl rfl (ZP rfl rfl) rfl rfl
     | 12, _ =>
      intro val fl w1 a hb ha hd hfl;have e10 : val 10 = _ := hd 10 (ZA.1 rfl);have ha := ha.s1 (d := 33) rfl e10
      exact ZD ha rfl rfl (ZP rfl rfl) rfl rfl
     | 13, _ =>
      intro val fl w1 a hb ha hd hfl;have e10 : val 10 = _ := hd 10 (ZA.1 rfl);have ha := ha.s1 (d := 33) rfl e10
      exact ZD ha rfl rfl (ZP rfl rfl) rfl rfl
     | 14, _ =>
      intro val fl w1 a hb ha hd hfl;have ha := ha.sub (Sub.nil _)
      exact YG ha rfl rfl QAG (fun g w' hq _ hge => ⟨g, rfl, Nat.le_trans hb.size hge, fun _ => hq⟩)
     | 15, _ =>
      intro val fl w1 a hb ha hd hfl;have ha := ha.sub (Sub.nil _)
      exact YG ha rfl rfl QCz (fun g w' hq _ hge => ⟨g, rfl, Nat.le_trans hb.size hge, fun _ => hq⟩)
     | 16, _ =>
      exact absurd (by simp) hs_
     | 17, _ =>
      exact absurd (by simp) hs_
     | k + 18, h => exact absurd h (by omega)
    ·simp only [List.mem_cons, List.not_mem_nil, or_false] at hi_; rcases hi_ with rfl | rfl
     ·
      intro val fl w1 a hb hfi ha hd hfl;obtain ⟨g14_, e14, hg14_, q14_⟩ := hd 14 (ZA.1 rfl);change val 14 = _ at e14;have e11 : val 11 = _ := hd 11 (ZA.1 rfl);have ha := ha.s2 (d := 44) (e := 8) rfl e11 rfl e14;refine ZY ha rfl rfl rfl (q14_ hfi) Z5 rfl rfl rfl rfl ?_;intro w' hq hgr;refine ⟨undef, rfl, hgr.size, ZE hb hgr hg14_, ⟨g14_, e14, hq⟩, fun j _ hj hn hA => ?_⟩
      exact ZF (C := fun j => j ≠ 16 ∧ 16 ∉ clsAt [[], [0], [0, 1], [0, 1, 2], [], [], [5], [4, 5, 6], [], [0, 1, 2, 3, 4, 5, 6, 7, 8], [0, 1, 2, 3, 4, 5, 6, 7, 8, 9], [0, 1, 2, 3, 4, 5, 6, 7, 8, 9, 10], [0, 1, 2, 3, 4, 5, 6, 7, 8, 9, 10], [0, 1, 2, 3, 4, 5, 6, 7, 8, 9, 10], [], [], [0, 1, 2, 3, 4, 5, 6, 7, 8, 9, 10, 11, 14, 15], [0, 1, 2, 3, 4, 5, 6, 7, 8, 9, 10, 11, 12, 14, 15, 16], [0, 1, 2, 3, 4, 5, 6, 7, 8, 9, 10, 11, 12, 13, 14, 15, 16, 17]] j ∧ ∀ p ∈ [14, 15], (p = j ∨ p ∈ clsAt [[], [0], [0, 1], [0, 1, 2], [], [], [5], [4, 5, 6], [], [0, 1, 2, 3, 4, 5, 6, 7, 8], [0, 1, 2, 3, 4, 5, 6, 7, 8, 9], [0, 1, 2, 3, 4, 5, 6, 7, 8, 9, 10], [0, 1, 2, 3, 4, 5, 6, 7, 8, 9, 10], [0, 1, 2, 3, 4, 5, 6, 7, 8, 9, 10], [], [], [0, 1, 2, 3, 4, 5, 6, 7, 8, 9, 10, 11, 14, 15], [0, 1, 2, 3, 4, 5, 6, 7, 8, 9, 10, 11, 12, 14, 15, 16], [0, 1, 2, 3, 4, 5, 6, 7, 8, 9, 10, 11, 12, 13, 14, 15, 16, 17]] j) → ∀ q ∈ [14, 15], (q = 16 ∨ q ∈ clsAt [[], [0], [0, 1], [0, 1, 2], [], [], [5], [4, 5, 6], [], [0, 1, 2, 3, 4, 5, 6, 7, 8], [0, 1, 2, 3, 4, 5, 6, 7, 8, 9], [0, 1, 2, 3, 4, 5, 6, 7, 8, 9, 10], [0, 1, 2, 3, 4, 5, 6, 7, 8, 9, 10], [0, 1, 2, 3, 4, 5, 6, 7, 8, 9, 10], [], [], [0, 1, 2, 3, 4, 5, 6, 7, 8, 9, 10, 11, 14, 15], [0, 1, 2, 3, 4, 5, 6, 7, 8, 9, 10, 11, 12, 14, 15, 16], [0, 1, 2, 3, 4, 5, 6, 7, 8, 9, 10, 11, 12, 13, 14, 15, 16, 17]] 16) → p ≠ q → val p ≠ val q) (fun _ ⟨g, h1, h2, _⟩ => ⟨g, h1, h2, fun h => by rw [ZR] at h; cases h⟩) (ZF (fun hc ⟨g, h1, h2, h3⟩ => ⟨g, h1, h2, fun h => (h3 (by rwa [Z2 rfl] at h)).grown hgr (fun h => hc.2.2 15 (by simp) (.inl rfl) 14 (by simp) (.inr (ZA.1 rfl)) (by simp) (by have h1' : val 15 = _ := h1; rw [h1', e14]; injection h with h; rw [h]))⟩) (ZF (fun hc => absurd rfl hc.1) (ZF (fun hc ⟨g, h1, h2⟩ => ⟨g, h1, h2.grown hgr (fun h => hc.2.2 15 (by simp) (.inr (ZA.1 rfl)) 14 (by simp) (.inr (ZA.1 rfl)) (by simp) (by have h1' : val 15 = _ := h1; rw [h1', e14]; injection h with h; rw [h]))⟩) (fun _ _ h => h)))) j ⟨hj, hn, hA⟩
     ·
      intro val fl w1 a hb hfi ha hd hfl;obtain ⟨g15_, e15, hg15_, q15_⟩ := hd 15 (ZA.1 rfl);change val 15 = _ at e15;have e12 : val 12 = _ := hd 12 (ZA.1 rfl);have ha := ha.s2 (d := 45) (e := 9) rfl e12 rfl e15;refine ZY ha rfl rfl rfl (q15_ hfi) QAm rfl rfl rfl rfl ?_;intro w' hq hgr;refine ⟨undef, rfl, hgr.size, ZE hb hgr hg15_, ⟨g15_, e15, hq⟩, fun j _ hj hn hA => ?_⟩
      exact ZF (C := fun j => j ≠ 17 ∧ 17 ∉ clsAt [[], [0], [0, 1], [0, 1, 2], [], [], [5], [4, 5, 6], [], [0, 1, 2, 3, 4, 5, 6, 7, 8], [0, 1, 2, 3, 4, 5, 6, 7, 8, 9], [0, 1, 2, 3, 4, 5, 6, 7, 8, 9, 10], [0, 1, 2, 3, 4, 5, 6, 7, 8, 9, 10], [0, 1, 2, 3, 4, 5, 6, 7, 8, 9, 10], [], [], [0, 1, 2, 3, 4, 5, 6, 7, 8, 9, 10, 11, 14, 15], [0, 1, 2, 3, 4, 5, 6, 7, 8, 9, 10, 11, 12, 14, 15, 16], [0, 1, 2, 3, 4, 5, 6, 7, 8, 9, 10, 11, 12, 13, 14, 15, 16, 17]] j ∧ ∀ p ∈ [14, 15], (p = j ∨ p ∈ clsAt [[], [0], [0, 1], [0, 1, 2], [], [], [5], [4, 5, 6], [], [0, 1, 2, 3, 4, 5, 6, 7, 8], [0, 1, 2, 3, 4, 5, 6, 7, 8, 9], [0, 1, 2, 3, 4, 5, 6, 7, 8, 9, 10], [0, 1, 2, 3, 4, 5, 6, 7, 8, 9, 10], [0, 1, 2, 3, 4, 5, 6, 7, 8, 9, 10], [], [], [0, 1, 2, 3, 4, 5, 6, 7, 8, 9, 10, 11, 14, 15], [0, 1, 2, 3, 4, 5, 6, 7, 8, 9, 10, 11, 12, 14, 15, 16], [0, 1, 2, 3, 4, 5, 6, 7, 8, 9, 10, 11, 12, 13, 14, 15, 16, 17]] j) → ∀ q ∈ [14, 15], (q = 17 ∨ q ∈ clsAt [[], [0], [0, 1], [0, 1, 2], [], [], [5], [4, 5, 6], [], [0, 1, 2, 3, 4, 5, 6, 7, 8], [0, 1, 2, 3, 4, 5, 6, 7, 8, 9], [0, 1, 2, 3, 4, 5, 6, 7, 8, 9, 10], [0, 1, 2, 3, 4, 5, 6, 7, 8, 9, 10], [0, 1, 2, 3, 4, 5, 6, 7, 8, 9, 10], [], [], [0, 1, 2, 3, 4, 5, 6, 7, 8, 9, 10, 11, 14, 15], [0, 1, 2, 3, 4, 5, 6, 7, 8, 9, 10, 11, 12, 14, 15, 16], [0, 1, 2, 3, 4, 5, 6, 7, 8, 9, 10, 11, 12, 13, 14, 15, 16, 17]] 17) → p ≠ q → val p ≠ val q) (fun hc ⟨g, h1, h2, h3⟩ => ⟨g, h1, h2, fun h => (h3 (by rwa [Z2 rfl] at h)).grown hgr (fun h => hc.2.2 14 (by simp) (.inl rfl) 15 (by simp) (.inr (ZA.1 rfl)) (by simp) (by have h1' : val 14 = _ := h1; rw [h1', e15]; injection h with h; rw [h]))⟩) (ZF (fun _ ⟨g, h1, h2, _⟩ => ⟨g, h1, h2, fun h => by rw [ZR] at h; cases h⟩) (ZF (fun hc ⟨g, h1, h2⟩ => ⟨g, h1, h2.grown hgr (fun h => hc.2.2 14 (by simp) (.inr (ZA.1 rfl)) 15 (by simp) (.inr (ZA.1 rfl)) (by simp) (by have h1' : val 14 = _ := h1; rw [h1', e15]; injection h with h; rw [h]))⟩) (ZF (fun hc => absurd rfl hc.1) (fun _ _ h => h)))) j ⟨hj, hn, hA⟩
    ·intro val fl wR7 hfl hb halc hd
     have e0 : val 0 = _ := hd 0 (by omega)
     have e1 : val 1 = _ := hd 1 (by omega)
     have e2 : val 2 = _ := hd 2 (by omega)
     have e3 : val 3 = _ := hd 3 (by omega)
     have e4 : val 4 = _ := hd 4 (by omega)
     have e5 : val 5 = _ := hd 5 (by omega)
     have e6 : val 6 = _ := hd 6 (by omega)
     have e7 : val 7 = _ := hd 7 (by omega)
     have e8 : val 8 = _ := hd 8 (by omega)
     have e9 : val 9 = _ := hd 9 (by omega)
     have e10 : val 10 = _ := hd 10 (by omega)
     have e11 : val 11 = _ := hd 11 (by omega)
     have e12 : val 12 = _ := hd 12 (by omega)
     have e13 : val 13 = _ := hd 13 (by omega)
     obtain ⟨ga14_7, e14, qa14_7⟩ := hd 16 (by omega)
     change val 14 = _ at e14;obtain ⟨ga15_7, e15, qa15_7⟩ := hd 17 (by omega)
     change val 15 = _ at e15;refine EL.ends (cs := [_, _, _, _, _, _, _, _, _, _, _, _, _, _, _, _, val 16, val 17]) ⟨e0, e1, e2, e3, e4, e5, e6, e7, e8, e9, e10, e11, e12, e13, e14, e15, rfl, rfl, trivial⟩ rfl ?_;replace qb2 := qb2.bl hb;replace qb3 := qb3.bl hb;replace qbD := qbD.bl hb;replace qb11 := qb11.bl hb;replace hkp := hkp.trans (Kp.of_below hb (Nat.le_trans hn0 (Nat.le_trans hwW hkp.size)));replace hJ0 := hJ _ _ _ hJ0 (Soft.of_below hb);replace hq0 := ZB hq0 hb (Nat.le_refl _);replace hq1 := ZB hq1 hb (Nat.le_refl _);replace hpl := ZB hpl hb (Nat.le_refl _);have bge12 := Yc halc (i := 14) rfl rfl e14;have n1_12 : g2 ≠ ga14_7 := Nat.ne_of_lt (Nat.lt_of_lt_of_le lt_1 bge12);have n2_12 : g3 ≠ ga14_7 := Nat.ne_of_lt (Nat.lt_of_lt_of_le lt_2 bge12);have n3_12 : bd ≠ ga14_7 := Nat.ne_of_lt (Nat.lt_of_lt_of_le lt_3 bge12);have n4_12 : g4 ≠ ga14_7 := Nat.ne_of_lt (Nat.lt_of_lt_of_le lt_4 bge12);have bge13 := Yc halc (i := 15) rfl rfl e15;have n1_13 : g2 ≠ ga15_7 := Nat.ne_of_lt (Nat.lt_of_lt_of_le lt_1 bge13);have n2_13 : g3 ≠ ga15_7 := Nat.ne_of_lt (Nat.lt_of_lt_of_le lt_2 bge13);have n3_13 : bd ≠ ga15_7 := Nat.ne_of_lt (Nat.lt_of_lt_of_le lt_3 bge13);have n4_13 : g4 ≠ ga15_7 := Nat.ne_of_lt (Nat.lt_of_lt_of_le lt_4 bge13);have n12_13 : ga14_7 ≠ ga15_7 := QBe halc (i := 14) (j := 15) rfl rfl rfl rfl rfl e14 e15;refine EL.as rfl rfl (EL.nil (EX.seq (EC.seq (EC.seq (EC.region (EL.mv rfl rfl (EL.val (ZX rfl) rfl (EL.nil (EX.seq ?_)))))))));refine EC.yes rfl (EC.exit (EX.seq_exit (EX.blk_other rfl (EX.seq_exit (EX.seq_exit (EX.blk_here (EX.blk (EX.seq (EC.region ?_)))))))));refine EL.val (x_add rfl rfl (c := ((1 + 1 : Nat) : Int)) rfl) rfl (EL.mv rfl rfl (EL.nil ?_));refine EX.roundD (1 + 1, xs) ⟨rfl, trivial⟩ (by repeat first | with_reducible exact .refl _ | refine sp_ rfl ?_ | exact .refl _ | refine sd_ rfl ?_ | refine sn_ ?_) ⟨by rw [hall, hne]; rfl, by omega, qb11, qb2, qb3, qbD, hq0, hq1, hpl, hkp, hJ0⟩ (by omega)
   ·
    have hnl : n < cntN q d true := (QCr hnc hlt).1 hf;obtain ⟨b6, o6, rfl⟩ : ∃ b o, A6 = some ⟨b, o, none⟩ := by
     obtain ⟨b_, o_, e_, _⟩ := hre.at_ (by omega)
     exact ⟨b_, o_, e_⟩
    have htk := Y_ hre (k := n + 1) (by omega)
    rw [← Ym] at htk;have hsum := QBy hqk hdk (u := true) (n := n + 1) (by omega)
    have lt_1 := qb2.lt;have lt_2 := qb3.lt;have lt_3 := qbD.lt;have lt_4 := qb11.lt;refine EC.regionS [[], [0], [0, 1], [0, 1, 2], [], [], [5], [4, 5, 6], [], [0, 1, 2, 3, 4, 5, 6, 7, 8], [0, 1, 2, 3, 4, 5, 6, 7, 8, 9], [0, 1, 2, 3, 4, 5, 6, 7, 8, 9, 10], [0, 1, 2, 3, 4, 5, 6, 7, 8, 9, 10], [0, 1, 2, 3, 4, 5, 6, 7, 8, 9, 10], [], [], [0, 1, 2, 3, 4, 5, 6, 7, 8, 9, 10, 11, 14, 15], [0, 1, 2, 3, 4, 5, 6, 7, 8, 9, 10, 11, 12, 14, 15, 16], [0, 1, 2, 3, 4, 5, 6, 7, 8, 9, 10, 11, 12, 13, 14, 15, 16, 17]] 18 [14, 15] [16, 17] (fun _ w_ => Below V2.heap.size V2 w_) (phiS (fun i_ r => match i_ with | 0 => r 0 = .pointer (some ⟨bd, 0, none⟩) | 1 => r 1 = .pointer (some ⟨bd, 0, none⟩) | 2 => r 2 = .pointer (some ⟨bd, 0, none⟩) | 3 => r 3 = (stA d.s) | 4 => r 4 = .slice (some ⟨b6, o6, none⟩) ((q true).length - d.s.t1) c6 | 5 => r 5 = .int .i64 (n : Nat) | 6 => r 6 = .int .i64 ((n + 1) : Nat) | 7 => r 7 = .slice (some ⟨b6, o6, none⟩) (n + 1) c6 | 8 => r 8 = .int .i64 (wyB true) | 9 => r 9 = .tuple #[(stA (tkS d.s ((waitL q d.s true).take (n + 1)) true)), .agg #[.int .i64 (runT d.s ((waitL q d.s true).take (n + 1)) true).start, .int .i64 (runT d.s ((waitL q d.s true).take (n + 1)) true).stop], .bool true] | 10 => r 10 = .tuple #[(stA (tkS d.s ((waitL q d.s true).take (n + 1)) true)), .agg #[.int .i64 (runT d.s ((waitL q d.s true).take (n + 1)) true).start, .int .i64 (runT d.s ((waitL q d.s true).take (n + 1)) true).stop], .bool true] | 11 => r 11 = (stA (tkS d.s ((waitL q d.s true).take (n + 1)) true)) | 12 => r 12 = .agg #[.int .i64 (runT d.s ((waitL q d.s true).take (n + 1)) true).start, .int .i64 (runT d.s ((waitL q d.s true).take (n + 1)) true).stop] | 13 => r 13 = .bool true | _ => True) [(14, fun fl r w_ => ∃ g_, r 14 = .pointer (some ⟨g_, 0, none⟩) ∧ V2.heap.size ≤ g_ ∧ (fl 16 = false → Blk w_ g_ 114 #[.int .i64 0, .int .i64 0, .int .i64 0, .int .i64 0, .int .i64 0, .bool false, .int .i64 0, .int .i64 0, .int .i64 0, .int .i64 0, .int .i64 0, .int .i64 0, .int .i64 0, .int .i64 0, .int .i64 0])), (15, fun fl r w_ => ∃ g_, r 15 = .pointer (some ⟨g_, 0, none⟩) ∧ V2.heap.size ≤ g_ ∧ (fl 17 = false → Blk w_ g_ 49 #[.int .i64 0, .int .i64 0])), (16, fun _ r w_ => ∃ g_, r 14 = .pointer (some ⟨g_, 0, none⟩) ∧ Blk w_ g_ 114 (stB (tkS d.s ((waitL q d.s true).take (n + 1)) true))), (17, fun _ r w_ => ∃ g_, r 15 = .pointer (some ⟨g_, 0, none⟩) ∧ Blk w_ g_ 49 #[.int .i64 (runT d.s ((waitL q d.s true).take (n + 1)) true).start, .int .i64 (runT d.s ((waitL q d.s true).take (n + 1)) true).stop])]) (by kernel_rfl) rfl rfl (by intro i hi; simp at hi; first | (subst hi; exact ⟨by simp, by omega⟩) | (rcases hi with rfl | rfl | rfl <;> exact ⟨by simp, by omega⟩) | (rcases hi with rfl | rfl <;> exact ⟨by simp, by omega⟩)) (YZ V2) (ZL Zi (ZL Zi (ZL Zh (ZL Zh (Zd))))) (fun i_ hi_ hs_ => ?_) (fun i_ hi_ => ?_) ?_
    ·match i_, hi_ with
     | 0, _ =>
      intro val fl w1 a hb ha hd hfl;have ha := ha.s0 (d := 2) rfl
      exact ZD ha rfl rfl (Z7 rfl ((qb2.below hb qb2.lt).at (j := 0) rfl)) rfl rfl
     | 1, _ =>
      intro val fl w1 a hb ha hd hfl;have e0 : val 0 = _ := hd 0 (ZA.1 rfl);have ha := ha.s1 (d := 34) rfl e0
      exact ZD ha rfl rfl (ZH rfl) rfl rfl
     | 2, _ =>
      intro val fl w1 a hb ha hd hfl;have e1 : val 1 = _ := hd 1 (ZA.1 rfl);have ha := ha.s1 (d := 35) rfl e1
      exact ZD ha rfl rfl (Ze rfl) rfl rfl
     | 3, _ =>
      intro val fl w1 a hb ha hd hfl;have e2 : val 2 = _ := hd 2 (ZA.1 rfl);have ha := ha.s1 (d := 36) rfl e2
      exact ZD ha rfl rfl (Z8 rfl ((qbD.below hb qbD.lt).at (j := 0) rfl) ((qbD.below hb qbD.lt).at (j := 1) rfl) ((qbD.below hb qbD.lt).at (j := 2) rfl) ((qbD.below hb qbD.lt).at (j := 3) rfl) ((qbD.below hb qbD.lt).at (j := 4) rfl) ((qbD.below hb qbD.lt).at (j := 5) rfl) ((qbD.below hb qbD.lt).at (j := 6) rfl) ((qbD.below hb qbD.lt).at (j := 7) rfl) ((qbD.below hb qbD.lt).at (j := 8) rfl) ((qbD.below hb qbD.lt).at (j := 9) rfl) ((qbD.below hb qbD.lt).at (j := 10) rfl) ((qbD.below hb qbD.lt).at (j := 11) rfl) ((qbD.below hb qbD.lt).at (j := 12) rfl) ((qbD.below hb qbD.lt).at (j := 13) rfl) ((qbD.below hb qbD.lt).at (j := 14) rfl)) rfl rfl
     | 4, _ =>
      intro val fl w1 a hb ha hd hfl;have ha := ha.s0 (d := 6) rfl
      exact ZD ha rfl rfl (x_move rfl) rfl rfl
     | 5, _ =>
      intro val fl w1 a hb ha hd hfl;have ha := ha.s0 (d := 7) rfl
      exact ZD ha rfl rfl (x_move rfl) rfl rfl
     | 6, _ =>
      intro val fl w1 a hb ha hd hfl;have e5 : val 5 = _ := hd 5 (ZA.1 rfl);have ha := ha.s1 (d := 39) rfl e5
      exact ZD ha rfl rfl (x_add rfl rfl (c := ((n + 1 : Nat) : Int)) ((IntWalk.i64_in _ ⟨by first | omega | (simp only; omega), by first | omega | (simp only; omega)⟩).trans (by first | omega | (simp only; omega)))) rfl rfl
     | 7, _ =>
      intro val fl w1 a hb ha hd hfl;have e4 : val 4 = _ := hd 4 (ZA.1 rfl);have e6 : val 6 = _ := hd 6 (ZA.1 rfl);have ha := ha.s2 (d := 40) (e := 38) rfl e6 rfl e4
      exact ZD ha rfl rfl (QFL rfl rfl (by omega)) rfl rfl
     | 8, _ =>
      intro val fl w1 a hb ha hd hfl;have ha := ha.s0 (d := 5) rfl
      exact ZD ha rfl rfl (x_move rfl) rfl rfl
     | 9, _ =>
      intro val fl w1 a hb ha hd hfl;have e3 : val 3 = _ := hd 3 (ZA.1 rfl);have e7 : val 7 = _ := hd 7 (ZA.1 rfl);have e8 : val 8 = _ := hd 8 (ZA.1 rfl);have ha := ha.sub (Sub.ins (d := 42) (Sub.ins (d := 41) (Sub.ins (d := 37) (Sub.nil _) (ZQ rfl e3)) (ZQ rfl e7)) (ZQ rfl e8));refine Yb ha rfl rfl (cA3 cF57 rfl rfl rfl) (QCP hdk.st (Yr (d := d) (u := true) (n := n + 1) hqk) (by rw [Zk (by omega)]; exact hsum) (by rw [Zk (by omega)]; exact (htk.below (hb.mono (Nat.le_refl _)))) hb.size (by have := hf; unfold fitN at this; exact this)) rfl ?_
      rintro e w' ⟨rfl, hb'⟩
      exact ⟨_, rfl, hb', rfl⟩
     | 10, _ =>
      intro val fl w1 a hb ha hd hfl;have e9 : val 9 = _ := hd 9 (ZA.1 rfl);have ha := ha.s1 (d := 43) rfl e9
      exact ZD ha rfl rfl (x_move rfl) rfl rfl
     | 11, _ =>
      intro val fl w1 a hb ha hd hfl;have e10 : val 10 = _ := hd 10 (ZA.1 rfl);have ha := ha.s1 (d := 33) rfl e10
      exact ZD ha rfl rfl (ZP rfl rfl) rfl rfl
     | 12, _ =>
      intro val fl w1 a hb ha hd hfl;have e10 : val 10 = _ := hd 10 (ZA.1 rfl);have ha := ha.s1 (d := 33) rfl e10
      exact ZD ha rfl rfl (ZP rfl rfl) rfl rfl
     | 13, _ =>
      intro val fl w1 a hb ha hd hfl;have e10 : val 10 = _ := hd 10 (ZA.1 rfl);have ha := ha.s1 (d := 33) rfl e10
      exact ZD ha rfl rfl (ZP rfl rfl) rfl rfl
     | 14, _ =>
      intro val fl w1 a hb ha hd hfl;have ha := ha.sub (Sub.nil _)
      exact YG ha rfl rfl QAG (fun g w' hq _ hge => ⟨g, rfl, Nat.le_trans hb.size hge, fun _ => hq⟩)
     | 15, _ =>
      intro val fl w1 a hb ha hd hfl;have ha := ha.sub (Sub.nil _)
      exact YG ha rfl rfl QCz (fun g w' hq _ hge => ⟨g, rfl, Nat.le_trans hb.size hge, fun _ => hq⟩)
     | 16, _ =>
      exact absurd (by simp) hs_
     | 17, _ =>
      exact absurd (by simp) hs_
     | k + 18, h => exact absurd h (by omega)
    ·simp only [List.mem_cons, List.not_mem_nil, or_false] at hi_; rcases hi_ with rfl | rfl
     ·
      intro val fl w1 a hb hfi ha hd hfl;obtain ⟨g14_, e14, hg14_, q14_⟩ := hd 14 (ZA.1 rfl);change val 14 = _ at e14;have e11 : val 11 = _ := hd 11 (ZA.1 rfl);have ha := ha.s2 (d := 44) (e := 8) rfl e11 rfl e14;refine ZY ha rfl rfl rfl (q14_ hfi) Z5 rfl rfl rfl rfl ?_;intro w' hq hgr;refine ⟨undef, rfl, hgr.size, ZE hb hgr hg14_, ⟨g14_, e14, hq⟩, fun j _ hj hn hA => ?_⟩
      exact ZF (C := fun j => j ≠ 16 ∧ 16 ∉ clsAt [[], [0], [0, 1], [0, 1, 2], [], [], [5], [4, 5, 6], [], [0, 1, 2, 3, 4, 5, 6, 7, 8], [0, 1, 2, 3, 4, 5, 6, 7, 8, 9], [0, 1, 2, 3, 4, 5, 6, 7, 8, 9, 10], [0, 1, 2, 3, 4, 5, 6, 7, 8, 9, 10], [0, 1, 2, 3, 4, 5, 6, 7, 8, 9, 10], [], [], [0, 1, 2, 3, 4, 5, 6, 7, 8, 9, 10, 11, 14, 15], [0, 1, 2, 3, 4, 5, 6, 7, 8, 9, 10, 11, 12, 14, 15, 16], [0, 1, 2, 3, 4, 5, 6, 7, 8, 9, 10, 11, 12, 13, 14, 15, 16, 17]] j ∧ ∀ p ∈ [14, 15], (p = j ∨ p ∈ clsAt [[], [0], [0, 1], [0, 1, 2], [], [], [5], [4, 5, 6], [], [0, 1, 2, 3, 4, 5, 6, 7, 8], [0, 1, 2, 3, 4, 5, 6, 7, 8, 9], [0, 1, 2, 3, 4, 5, 6, 7, 8, 9, 10], [0, 1, 2, 3, 4, 5, 6, 7, 8, 9, 10], [0, 1, 2, 3, 4, 5, 6, 7, 8, 9, 10], [], [], [0, 1, 2, 3, 4, 5, 6, 7, 8, 9, 10, 11, 14, 15], [0, 1, 2, 3, 4, 5, 6, 7, 8, 9, 10, 11, 12, 14, 15, 16], [0, 1, 2, 3, 4, 5, 6, 7, 8, 9, 10, 11, 12, 13, 14, 15, 16, 17]] j) → ∀ q ∈ [14, 15], (q = 16 ∨ q ∈ clsAt [[], [0], [0, 1], [0, 1, 2], [], [], [5], [4, 5, 6], [], [0, 1, 2, 3, 4, 5, 6, 7, 8], [0, 1, 2, 3, 4, 5, 6, 7, 8, 9], [0, 1, 2, 3, 4, 5, 6, 7, 8, 9, 10], [0, 1, 2, 3, 4, 5, 6, 7, 8, 9, 10], [0, 1, 2, 3, 4, 5, 6, 7, 8, 9, 10], [], [], [0, 1, 2, 3, 4, 5, 6, 7, 8, 9, 10, 11, 14, 15], [0, 1, 2, 3, 4, 5, 6, 7, 8, 9, 10, 11, 12, 14, 15, 16], [0, 1, 2, 3, 4, 5, 6, 7, 8, 9, 10, 11, 12, 13, 14, 15, 16, 17]] 16) → p ≠ q → val p ≠ val q) (fun _ ⟨g, h1, h2, _⟩ => ⟨g, h1, h2, fun h => by rw [ZR] at h; cases h⟩) (ZF (fun hc ⟨g, h1, h2, h3⟩ => ⟨g, h1, h2, fun h => (h3 (by rwa [Z2 rfl] at h)).grown hgr (fun h => hc.2.2 15 (by simp) (.inl rfl) 14 (by simp) (.inr (ZA.1 rfl)) (by simp) (by have h1' : val 15 = _ := h1; rw [h1', e14]; injection h with h; rw [h]))⟩) (ZF (fun hc => absurd rfl hc.1) (ZF (fun hc ⟨g, h1, h2⟩ => ⟨g, h1, h2.grown hgr (fun h => hc.2.2 15 (by simp) (.inr (ZA.1 rfl)) 14 (by simp) (.inr (ZA.1 rfl)) (by simp) (by have h1' : val 15 = _ := h1; rw [h1', e14]; injection h with h; rw [h]))⟩) (fun _ _ h => h)))) j ⟨hj, hn, hA⟩
     ·
      intro val fl w1 a hb hfi ha hd hfl;obtain ⟨g15_, e15, hg15_, q15_⟩ := hd 15 (ZA.1 rfl);change val 15 = _ at e15;have e12 : val 12 = _ := hd 12 (ZA.1 rfl);have ha := ha.s2 (d := 45) (e := 9) rfl e12 rfl e15;refine ZY ha rfl rfl rfl (q15_ hfi) QAm rfl rfl rfl rfl ?_;intro w' hq hgr;refine ⟨undef, rfl, hgr.size, ZE hb hgr hg15_, ⟨g15_, e15, hq⟩, fun j _ hj hn hA => ?_⟩
      exact ZF (C := fun j => j ≠ 17 ∧ 17 ∉ clsAt [[], [0], [0, 1], [0, 1, 2], [], [], [5], [4, 5, 6], [], [0, 1, 2, 3, 4, 5, 6, 7, 8], [0, 1, 2, 3, 4, 5, 6, 7, 8, 9], [0, 1, 2, 3, 4, 5, 6, 7, 8, 9, 10], [0, 1, 2, 3, 4, 5, 6, 7, 8, 9, 10], [0, 1, 2, 3, 4, 5, 6, 7, 8, 9, 10], [], [], [0, 1, 2, 3, 4, 5, 6, 7, 8, 9, 10, 11, 14, 15], [0, 1, 2, 3, 4, 5, 6, 7, 8, 9, 10, 11, 12, 14, 15, 16], [0, 1, 2, 3, 4, 5, 6, 7, 8, 9, 10, 11, 12, 13, 14, 15, 16, 17]] j ∧ ∀ p ∈ [14, 15], (p = j ∨ p ∈ clsAt [[], [0], [0, 1], [0, 1, 2], [], [], [5], [4, 5, 6], [], [0, 1, 2, 3, 4, 5, 6, 7, 8], [0, 1, 2, 3, 4, 5, 6, 7, 8, 9], [0, 1, 2, 3, 4, 5, 6, 7, 8, 9, 10], [0, 1, 2, 3, 4, 5, 6, 7, 8, 9, 10], [0, 1, 2, 3, 4, 5, 6, 7, 8, 9, 10], [], [], [0, 1, 2, 3, 4, 5, 6, 7, 8, 9, 10, 11, 14, 15], [0, 1, 2, 3, 4, 5, 6, 7, 8, 9, 10, 11, 12, 14, 15, 16], [0, 1, 2, 3, 4, 5, 6, 7, 8, 9, 10, 11, 12, 13, 14, 15, 16, 17]] j) → ∀ q ∈ [14, 15], (q = 17 ∨ q ∈ clsAt [[], [0], [0, 1], [0, 1, 2], [], [], [5], [4, 5, 6], [], [0, 1, 2, 3, 4, 5, 6, 7, 8], [0, 1, 2, 3, 4, 5, 6, 7, 8, 9], [0, 1, 2, 3, 4, 5, 6, 7, 8, 9, 10], [0, 1, 2, 3, 4, 5, 6, 7, 8, 9, 10], [0, 1, 2, 3, 4, 5, 6, 7, 8, 9, 10], [], [], [0, 1, 2, 3, 4, 5, 6, 7, 8, 9, 10, 11, 14, 15], [0, 1, 2, 3, 4, 5, 6, 7, 8, 9, 10, 11, 12, 14, 15, 16], [0, 1, 2, 3, 4, 5, 6, 7, 8, 9, 10, 11, 12, 13, 14, 15, 16, 17]] 17) → p ≠ q → val p ≠ val q) (fun hc ⟨g, h1, h2, h3⟩ => ⟨g, h1, h2, fun h => (h3 (by rwa [Z2 rfl] at h)).grown hgr (fun h => hc.2.2 14 (by simp) (.inl rfl) 15 (by simp) (.inr (ZA.1 rfl)) (by simp) (by have h1' : val 14 = _ := h1; rw [h1', e15]; injection h with h; rw [h]))⟩) (ZF (fun _ ⟨g, h1, h2, _⟩ => ⟨g, h1, h2, fun h => by rw [ZR] at h; cases h⟩) (ZF (fun hc ⟨g, h1, h2⟩ => ⟨g, h1, h2.grown hgr (fun h => hc.2.2 14 (by simp) (.inr (ZA.1 rfl)) 15 (by simp) (.inr (ZA.1 rfl)) (by simp) (by have h1' : val 14 = _ := h1; rw [h1', e15]; injection h with h; rw [h]))⟩) (ZF (fun hc => absurd rfl hc.1) (fun _ _ h => h)))) j ⟨hj, hn, hA⟩
    ·intro val fl wR7 hfl hb halc hd
     have e0 : val 0 = _ := hd 0 (by omega)
     have e1 : val 1 = _ := hd 1 (by omega)
     have e2 : val 2 = _ := hd 2 (by omega)
     have e3 : val 3 = _ := hd 3 (by omega)
     have e4 : val 4 = _ := hd 4 (by omega)
     have e5 : val 5 = _ := hd 5 (by omega)
     have e6 : val 6 = _ := hd 6 (by omega)
     have e7 : val 7 = _ := hd 7 (by omega)
     have e8 : val 8 = _ := hd 8 (by omega)
     have e9 : val 9 = _ := hd 9 (by omega)
     have e10 : val 10 = _ := hd 10 (by omega)
     have e11 : val 11 = _ := hd 11 (by omega)
     have e12 : val 12 = _ := hd 12 (by omega)
     have e13 : val 13 = _ := hd 13 (by omega)
     obtain ⟨ga14_7, e14, qa14_7⟩ := hd 16 (by omega)
     change val 14 = _ at e14;obtain ⟨ga15_7, e15, qa15_7⟩ := hd 17 (by omega)
     change val 15 = _ at e15;refine EL.ends (cs := [_, _, _, _, _, _, _, _, _, _, _, _, _, _, _, _, val 16, val 17]) ⟨e0, e1, e2, e3, e4, e5, e6, e7, e8, e9, e10, e11, e12, e13, e14, e15, rfl, rfl, trivial⟩ rfl ?_;replace qb2 := qb2.bl hb;replace qb3 := qb3.bl hb;replace qbD := qbD.bl hb;replace qb11 := qb11.bl hb;replace hkp := hkp.trans (Kp.of_below hb (Nat.le_trans hn0 (Nat.le_trans hwW hkp.size)));replace hJ0 := hJ _ _ _ hJ0 (Soft.of_below hb);replace hq0 := ZB hq0 hb (Nat.le_refl _);replace hq1 := ZB hq1 hb (Nat.le_refl _);replace hpl := ZB hpl hb (Nat.le_refl _);have bge14 := Yc halc (i := 14) rfl rfl e14;have n1_14 : g2 ≠ ga14_7 := Nat.ne_of_lt (Nat.lt_of_lt_of_le lt_1 bge14);have n2_14 : g3 ≠ ga14_7 := Nat.ne_of_lt (Nat.lt_of_lt_of_le lt_2 bge14);have n3_14 : bd ≠ ga14_7 := Nat.ne_of_lt (Nat.lt_of_lt_of_le lt_3 bge14);have n4_14 : g4 ≠ ga14_7 := Nat.ne_of_lt (Nat.lt_of_lt_of_le lt_4 bge14);have bge15 := Yc halc (i := 15) rfl rfl e15;have n1_15 : g2 ≠ ga15_7 := Nat.ne_of_lt (Nat.lt_of_lt_of_le lt_1 bge15);have n2_15 : g3 ≠ ga15_7 := Nat.ne_of_lt (Nat.lt_of_lt_of_le lt_2 bge15);have n3_15 : bd ≠ ga15_7 := Nat.ne_of_lt (Nat.lt_of_lt_of_le lt_3 bge15);have n4_15 : g4 ≠ ga15_7 := Nat.ne_of_lt (Nat.lt_of_lt_of_le lt_4 bge15);have n14_15 : ga14_7 ≠ ga15_7 := QBe halc (i := 14) (j := 15) rfl rfl rfl rfl rfl e14 e15;refine EL.as rfl rfl (EL.nil (EX.seq (EC.seq (EC.seq (EC.region (EL.mv rfl rfl (EL.val (ZX rfl) rfl (EL.nil (EX.seq ?_)))))))));refine EC.no rfl (EC.skip (EX.seq (EC.seq ?_)));have lt_1 := qb2.lt;have lt_2 := qb3.lt;have lt_3 := qbD.lt;have lt_4 := qb11.lt;have lt_14 := qa14_7.lt;have lt_15 := qa15_7.lt;refine EC.inn (k := 0) ?_;refine ECI.regionY (by repeat (first | exact QEz | refine Zs ?_ | refine YR ?_)) (by kernel_rfl) [[], [], [], [2], [2, 3], [2, 3, 4], [2, 3, 4, 5], [], [7], [], [9], [7, 8, 9, 10], [7, 8, 9, 10, 11], [2, 3, 4, 5, 6, 7, 8, 9, 10, 11, 12], [1, 2, 3, 4, 5, 6, 7, 8, 9, 10, 11, 12, 13], [1, 2, 3, 4, 5, 6, 7, 8, 9, 10, 11, 12, 13, 14], [0, 1, 2, 3, 4, 5, 6, 7, 8, 9, 10, 11, 12, 13, 14, 15], [0, 1, 2, 3, 4, 5, 6, 7, 8, 9, 10, 11, 12, 13, 14, 15, 16]] 16 [] (phi (fun i_ r => match i_ with | 0 => r 0 = .func (.yield la) #[] #[] | 1 => r 1 = (stA (tkS d.s ((waitL q d.s true).take (n + 1)) true)) | 2 => r 2 = .pointer (some ⟨bd, 0, none⟩) | 3 => r 3 = .pointer (some ⟨bd, 0, none⟩) | 4 => r 4 = .pointer (some ⟨bd, 15, none⟩) | 5 => r 5 = .slice Ap d.plan.length cp | 6 => r 6 = .slice Ap d.plan.length d.plan.length | 7 => r 7 = .int .i64 (wyB true) | 8 => r 8 = .bool true | 9 => r 9 = .int .i64 (n : Nat) | 10 => r 10 = .int .i64 ((n + 1) : Nat) | 11 => r 11 = .agg #[.bool true, .int .i64 ((n + 1 : Nat) : Int)] | _ => True) [(12, fun r w_ => ∃ g_, r 12 = .slice (some ⟨g_, 0, none⟩) 1 1 ∧ Blk w_ g_ 87 #[.bool true, .int .i64 ((n + 1 : Nat) : Int)] ∧ wR7.heap.size ≤ g_), (13, fun r w_ => ∃ A c, r 13 = .slice A (d.plan.length + 1) c ∧ w_.ownsRow n0 87 2 (.slice A (d.plan.length + 1) c) (d.plan.length + 1) (spsC d.plan ++ [.bool true, .int .i64 ((n + 1 : Nat) : Int)])), (14, fun r w_ => ∃ A c, r 14 = .agg #[.int .i64 (tkS d.s ((waitL q d.s true).take (n + 1)) true).lk.length, .int .i64 (tkS d.s ((waitL q d.s true).take (n + 1)) true).lk.cycle, .int .i64 (tkS d.s ((waitL q d.s true).take (n + 1)) true).lk.turn, .int .i64 (tkS d.s ((waitL q d.s true).take (n + 1)) true).lk.fill, .int .i64 (tkS d.s ((waitL q d.s true).take (n + 1)) true).lk.save, .bool (tkS d.s ((waitL q d.s true).take (n + 1)) true).lk.high, .int .i64 (tkS d.s ((waitL q d.s true).take (n + 1)) true).up, .int .i64 (tkS d.s ((waitL q d.s true).take (n + 1)) true).lo, .int .i64 (tkS d.s ((waitL q d.s true).take (n + 1)) true).ch, .int .i64 (tkS d.s ((waitL q d.s true).take (n + 1)) true).ba, .int .i64 (tkS d.s ((waitL q d.s true).take (n + 1)) true).mv, .int .i64 (tkS d.s ((waitL q d.s true).take (n + 1)) true).fr, .int .i64 ((tkS d.s ((waitL q d.s true).take (n + 1)) true).t0 : Nat), .int .i64 ((tkS d.s ((waitL q d.s true).take (n + 1)) true).t1 : Nat), .int .i64 (tkS d.s ((waitL q d.s true).take (n + 1)) true).cost, .slice A (d.plan.length + 1) c] ∧ w_.ownsRow n0 87 2 (.slice A (d.plan.length + 1) c) (d.plan.length + 1) (spsC d.plan ++ [.bool true, .int .i64 ((n + 1 : Nat) : Int)])), (15, fun r w_ => OwnDr w_ n0 (r 15) (oneD q d true (n + 1)))]) (by kernel_rfl) rfl rfl (Ye QAL (Ye (QDa (f := fun A c => .slice A (d.plan.length + 1) c)) (Ye (QDa (f := fun A c => .agg #[.int .i64 (tkS d.s ((waitL q d.s true).take (n + 1)) true).lk.length, .int .i64 (tkS d.s ((waitL q d.s true).take (n + 1)) true).lk.cycle, .int .i64 (tkS d.s ((waitL q d.s true).take (n + 1)) true).lk.turn, .int .i64 (tkS d.s ((waitL q d.s true).take (n + 1)) true).lk.fill, .int .i64 (tkS d.s ((waitL q d.s true).take (n + 1)) true).lk.save, .bool (tkS d.s ((waitL q d.s true).take (n + 1)) true).lk.high, .int .i64 (tkS d.s ((waitL q d.s true).take (n + 1)) true).up, .int .i64 (tkS d.s ((waitL q d.s true).take (n + 1)) true).lo, .int .i64 (tkS d.s ((waitL q d.s true).take (n + 1)) true).ch, .int .i64 (tkS d.s ((waitL q d.s true).take (n + 1)) true).ba, .int .i64 (tkS d.s ((waitL q d.s true).take (n + 1)) true).mv, .int .i64 (tkS d.s ((waitL q d.s true).take (n + 1)) true).fr, .int .i64 ((tkS d.s ((waitL q d.s true).take (n + 1)) true).t0 : Nat), .int .i64 ((tkS d.s ((waitL q d.s true).take (n + 1)) true).t1 : Nat), .int .i64 (tkS d.s ((waitL q d.s true).take (n + 1)) true).cost, .slice A (d.plan.length + 1) c])) (Ye (fun _ _ _ hb h => h.below hb) (Yu))))) (fun i_ hi_ => ?_) ?_
     ·match i_, hi_ with
      | 0, _ =>
       intro val w1 a hb ha hd;have ha := ha.s0 (d := 0) rfl
       exact ZJ ha rfl rfl (x_move rfl) rfl rfl
      | 1, _ =>
       intro val w1 a hb ha hd;have ha := ha.s0 (d := 8) rfl
       exact ZJ ha rfl rfl (Z8 rfl ((qa14_7.below hb qa14_7.lt).at (j := 0) rfl) ((qa14_7.below hb qa14_7.lt).at (j := 1) rfl) ((qa14_7.below hb qa14_7.lt).at (j := 2) rfl) ((qa14_7.below hb qa14_7.lt).at (j := 3) rfl) ((qa14_7.below hb qa14_7.lt).at (j := 4) rfl) ((qa14_7.below hb qa14_7.lt).at (j := 5) rfl) ((qa14_7.below hb qa14_7.lt).at (j := 6) rfl) ((qa14_7.below hb qa14_7.lt).at (j := 7) rfl) ((qa14_7.below hb qa14_7.lt).at (j := 8) rfl) ((qa14_7.below hb qa14_7.lt).at (j := 9) rfl) ((qa14_7.below hb qa14_7.lt).at (j := 10) rfl) ((qa14_7.below hb qa14_7.lt).at (j := 11) rfl) ((qa14_7.below hb qa14_7.lt).at (j := 12) rfl) ((qa14_7.below hb qa14_7.lt).at (j := 13) rfl) ((qa14_7.below hb qa14_7.lt).at (j := 14) rfl)) rfl rfl
      | 2, _ =>
       intro val w1 a hb ha hd;have ha := ha.s0 (d := 2) rfl
       exact ZJ ha rfl rfl (Z7 rfl ((qb2.below hb qb2.lt).at (j := 0) rfl)) rfl rfl
      | 3, _ =>
       intro val w1 a hb ha hd;have e2 : val 2 = _ := hd 2 (ZA.1 rfl);have ha := ha.s1 (d := 51) rfl e2
       exact ZJ ha rfl rfl (ZH rfl) rfl rfl
      | 4, _ =>
       intro val w1 a hb ha hd;have e3 : val 3 = _ := hd 3 (ZA.1 rfl);have ha := ha.s1 (d := 52) rfl e3
       exact ZJ ha rfl rfl (QAW rfl) rfl rfl
      | 5, _ =>
       intro val w1 a hb ha hd;have e4 : val 4 = _ := hd 4 (ZA.1 rfl);have ha := ha.s1 (d := 53) rfl e4
       exact ZJ ha rfl rfl (QED rfl ((qbD.below hb qbD.lt).at (j := 15) rfl)) rfl rfl
      | 6, _ =>
       intro val w1 a hb ha hd;have e5 : val 5 = _ := hd 5 (ZA.1 rfl);have ha := ha.s1 (d := 54) rfl e5;refine QAc ha rfl rfl (cA1 cF82 rfl) (QGu _ (ZB hpl hb (Nat.le_refl _))) rfl ?_
       rintro e w' ⟨rfl, hb'⟩
       exact ⟨_, rfl, hb', rfl⟩
      | 7, _ =>
       intro val w1 a hb ha hd;have ha := ha.s0 (d := 5) rfl
       exact ZJ ha rfl rfl (x_move rfl) rfl rfl
      | 8, _ =>
       intro val w1 a hb ha hd;have e7 : val 7 = _ := hd 7 (ZA.1 rfl);have ha := ha.s1 (d := 56) rfl e7
       exact ZJ ha rfl rfl (QFD rfl) rfl rfl
      | 9, _ =>
       intro val w1 a hb ha hd;have ha := ha.s0 (d := 7) rfl
       exact ZJ ha rfl rfl (x_move rfl) rfl rfl
      | 10, _ =>
       intro val w1 a hb ha hd;have e9 : val 9 = _ := hd 9 (ZA.1 rfl);have ha := ha.s1 (d := 58) rfl e9
       exact ZJ ha rfl rfl (x_add rfl rfl (c := ((n + 1 : Nat) : Int)) ((IntWalk.i64_in _ ⟨by first | omega | (simp only; omega), by first | omega | (simp only; omega)⟩).trans (by first | omega | (simp only; omega)))) rfl rfl
      | 11, _ =>
       intro val w1 a hb ha hd;have e8 : val 8 = _ := hd 8 (ZA.1 rfl);have e10 : val 10 = _ := hd 10 (ZA.1 rfl);have ha := ha.s2 (d := 59) (e := 57) rfl e10 rfl e8
       exact ZJ ha rfl rfl (QAz rfl rfl) rfl rfl
      | 12, _ =>
       intro val w1 a hb ha hd;have e11 : val 11 = _ := hd 11 (ZA.1 rfl);have ha := ha.s1 (d := 60) rfl e11
       exact QDd ha rfl rfl (QII rfl) rfl (fun g w' hq _ hge => ⟨g, rfl, hq, Nat.le_trans hb.size hge⟩)
      | 13, _ =>
       intro val w1 a hb ha hd;have e6 : val 6 = _ := hd 6 (ZA.1 rfl);obtain ⟨g12_, e12, q12_, h12_⟩ := hd 12 (ZA.1 rfl);change val 12 = _ at e12;have ha := ha.s2 (d := 61) (e := 55) rfl e12 rfl e6;refine QH6 (base := n0) QHZ ha rfl rfl rfl (QHf (Rd.of_own (ZB hpl hb (Nat.le_refl _)))) (QAE (l := [.bool true, .int .i64 ((n + 1 : Nat) : Int)]) q12_ rfl) (by omega) (by omega) rfl (by have := hb.size; have := hkp.size; omega) rfl ?_
       intro v' w' ho' _;obtain ⟨A', c', rfl, _⟩ := (Rd.of_own ho').shape
       exact ⟨A', c', rfl, ho'⟩
      | 14, _ =>
       intro val w1 a hb ha hd;have e1 : val 1 = _ := hd 1 (ZA.1 rfl);obtain ⟨A13_, c13_, e13, ho13_⟩ := hd 13 (ZA.1 rfl);have ha := ha.s2 (d := 62) (e := 50) rfl e13 rfl e1
       exact ZJ ha rfl rfl (QER rfl rfl) ⟨A13_, c13_, rfl, ho13_⟩ rfl
      | 15, _ =>
       intro val w1 a hb ha hd;obtain ⟨A14_, c14_, e14, ho14_⟩ := hd 14 (ZA.1 rfl);have ha := ha.s1 (d := 63) rfl e14
       exact QH5 ha rfl rfl (QHI rfl) (fun g w' hq hb' hge => (⟨g, _, rfl, by have := hb.size; have := hkp.size; omega, hq, QHj (ZB ho14_ hb' (Nat.le_refl _))⟩ : OwnDr w' n0 (.pointer (some ⟨g, 0, none⟩)) (oneD q d true (n + 1))))
      | k + 16, h => exact absurd h (by omega)
     ·intro val wR9 hb halc hd
      have e0 : val 0 = _ := hd 0 (by omega)
      have e1 : val 1 = _ := hd 1 (by omega)
      have e2 : val 2 = _ := hd 2 (by omega)
      have e3 : val 3 = _ := hd 3 (by omega)
      have e4 : val 4 = _ := hd 4 (by omega)
      have e5 : val 5 = _ := hd 5 (by omega)
      have e6 : val 6 = _ := hd 6 (by omega)
      have e7 : val 7 = _ := hd 7 (by omega)
      have e8 : val 8 = _ := hd 8 (by omega)
      have e9 : val 9 = _ := hd 9 (by omega)
      have e10 : val 10 = _ := hd 10 (by omega)
      have e11 : val 11 = _ := hd 11 (by omega)
      obtain ⟨ga12_9, e12, qa12_9, hga12_9⟩ := hd 12 (by omega)
      change val 12 = _ at e12;change Blk wR9 ga12_9 87 #[.bool true, .int .i64 ((n + 1 : Nat) : Int)] at qa12_9;obtain ⟨A13_, c13_, e13, ho13_⟩ := hd 13 (by omega)
      obtain ⟨A14_, c14_, e14, ho14_⟩ := hd 14 (by omega)
      obtain hDN_ := hd 15 (by omega)
      have e15 : val 15 = val 15 := rfl;refine ELI.ends (cs := [.func (.yield la) #[] #[], (stA (tkS d.s ((waitL q d.s true).take (n + 1)) true)), .pointer (some ⟨bd, 0, none⟩), .pointer (some ⟨bd, 0, none⟩), .pointer (some ⟨bd, 15, none⟩), .slice Ap d.plan.length cp, .slice Ap d.plan.length d.plan.length, .int .i64 (wyB true), .bool true, .int .i64 (n : Nat), .int .i64 ((n + 1) : Nat), .agg #[.bool true, .int .i64 ((n + 1 : Nat) : Int)], .slice (some ⟨ga12_9, 0, none⟩) 1 1, .slice A13_ (d.plan.length + 1) c13_, .agg #[.int .i64 (tkS d.s ((waitL q d.s true).take (n + 1)) true).lk.length, .int .i64 (tkS d.s ((waitL q d.s true).take (n + 1)) true).lk.cycle, .int .i64 (tkS d.s ((waitL q d.s true).take (n + 1)) true).lk.turn, .int .i64 (tkS d.s ((waitL q d.s true).take (n + 1)) true).lk.fill, .int .i64 (tkS d.s ((waitL q d.s true).take (n + 1)) true).lk.save, .bool (tkS d.s ((waitL q d.s true).take (n + 1)) true).lk.high, .int .i64 (tkS d.s ((waitL q d.s true).take (n + 1)) true).up, .int .i64 (tkS d.s ((waitL q d.s true).take (n + 1)) true).lo, .int .i64 (tkS d.s ((waitL q d.s true).take (n + 1)) true).ch, .int .i64 (tkS d.s ((waitL q d.s true).take (n + 1)) true).ba, .int .i64 (tkS d.s ((waitL q d.s true).take (n + 1)) true).mv, .int .i64 (tkS d.s ((waitL q d.s true).take (n + 1)) true).fr, .int .i64 ((tkS d.s ((waitL q d.s true).take (n + 1)) true).t0 : Nat), .int .i64 ((tkS d.s ((waitL q d.s true).take (n + 1)) true).t1 : Nat), .int .i64 (tkS d.s ((waitL q d.s true).take (n + 1)) true).cost, .slice A14_ (d.plan.length + 1) c14_], val 15]) ⟨e0, e1, e2, e3, e4, e5, e6, e7, e8, e9, e10, e11, e12, e13, e14, e15, trivial⟩ rfl ?_;replace qb2 := qb2.bl hb;replace qb3 := qb3.bl hb;replace qbD := qbD.bl hb;replace qb11 := qb11.bl hb;replace qa14_7 := qa14_7.bl hb;replace qa15_7 := qa15_7.bl hb;replace hkp := hkp.trans (Kp.of_below hb (Nat.le_trans hn0 (Nat.le_trans hwW hkp.size)));replace hJ0 := hJ _ _ _ hJ0 (Soft.of_below hb);replace hq0 := ZB hq0 hb (Nat.le_refl _);replace hq1 := ZB hq1 hb (Nat.le_refl _);replace hpl := ZB hpl hb (Nat.le_refl _);have n1_16 : g2 ≠ ga12_9 := Nat.ne_of_lt (Nat.lt_of_lt_of_le lt_1 hga12_9);have n2_16 : g3 ≠ ga12_9 := Nat.ne_of_lt (Nat.lt_of_lt_of_le lt_2 hga12_9);have n3_16 : bd ≠ ga12_9 := Nat.ne_of_lt (Nat.lt_of_lt_of_le lt_3 hga12_9);have n4_16 : g4 ≠ ga12_9 := Nat.ne_of_lt (Nat.lt_of_lt_of_le lt_4 hga12_9);have n14_16 : ga14_7 ≠ ga12_9 := Nat.ne_of_lt (Nat.lt_of_lt_of_le lt_14 hga12_9);have n15_16 : ga15_7 ≠ ga12_9 := Nat.ne_of_lt (Nat.lt_of_lt_of_le lt_15 hga12_9);clear hb;clear ho13_ ho14_;change OwnDr wR9 n0 (val 15) (oneD q d true (n + 1)) at hDN_;have hpf : (xs ++ [([((cntN q d false + n : Nat) : Int)], val 15)]).map (·.1) <+: allE (nextL q d).length := by rw [List.map_append, hall]; exact QEY (by rw [QC3]; omega)
      have hokx : okN q d n0 ([((cntN q d false + n : Nat) : Int)], val 15) wR9 := by unfold okN; rw [show ([((cntN q d false + n : Nat) : Int)] : List Int).getD 0 0 = ((cntN q d false + n : Nat) : Int) from rfl, Int.toNat_natCast, QK5 hnl]; exact hDN_
      obtain ⟨fn_, tmps_, assign_, body_, hi_, hR_⟩ := hY xs ([((cntN q d false + n : Nat) : Int)], val 15) _ hokx hJ0 hpf;refine ELI.yield rfl rfl rfl hi_ hR_ ?_
      rintro e wy ⟨hky, _, hfr, ⟨rfl, hJy⟩ | ⟨rfl, hJy⟩⟩
      ·
       refine ⟨_, rfl, ?_⟩;refine ELI.val (ZX rfl) rfl (ELI.nil (EXI.of ?_));replace qb2 : Blk wy g2 122 #[.pointer (some ⟨bd, 0, none⟩)] := (hfr g2 hlo.1 hlo.2 qb2.lt).trans qb2;replace qb11 := hky.blk _ _ _ qb11 rfl;replace qb3 := hky.blk _ _ _ qb3 rfl;replace qbD := hky.blk _ _ _ qbD rfl;replace hq0 := hky.row hq0 rfl;replace hq1 := hky.row hq1 rfl;replace hpl := hky.row hpl rfl;replace hkp := hkp.trans hky;have hJ0 := hJy;refine EX.seq (EC.no rfl (EC.skip (EX.blk (EX.seq (EC.region ?_)))));refine EL.val (x_add rfl rfl (c := ((n + 1 : Nat) : Int)) ((IntWalk.i64_in _ ⟨by first | omega | (simp only; omega), by first | omega | (simp only; omega)⟩).trans (by first | omega | (simp only; omega)))) rfl ?_
       refine EL.mv rfl rfl (EL.nil ?_);refine EX.roundD (n + 1, xs ++ [([((cntN q d false + n : Nat) : Int)], val 15)]) ⟨rfl, trivial⟩ (by repeat first | with_reducible exact .refl _ | refine sp_ rfl ?_ | exact .refl _ | refine sd_ rfl ?_ | refine sn_ ?_) ⟨hnl, by simp only; rw [List.map_append, hall]; exact QBx.symm, qb11, qb2, qb3, qbD, hq0, hq1, hpl, hkp, hJ0⟩ (show (waitL q d.s true).length - (n + 1) < (waitL q d.s true).length - n by omega)
      ·
       refine ⟨_, rfl, ?_⟩;refine ELI.val (ZX rfl) rfl (ELI.nil (EXI.of ?_));replace qb2 : Blk wy g2 122 #[.pointer (some ⟨bd, 0, none⟩)] := (hfr g2 hlo.1 hlo.2 qb2.lt).trans qb2;replace qb11 := hky.blk _ _ _ qb11 rfl;replace qb3 := hky.blk _ _ _ qb3 rfl;replace qbD := hky.blk _ _ _ qbD rfl;replace hq0 := hky.row hq0 rfl;replace hq1 := hky.row hq1 rfl;replace hpl := hky.row hpl rfl;replace hkp := hkp.trans hky;have hJ0 := hJy;refine EX.seq (EC.yes rfl (EC.ret (EX.blk_ret (EX.seq_ret (EX.seq_ret (EX.blk_ret (EX.blk_ret (EX.seq_ret (EX.seq_ret ?_)))))))));refine EX.blk_ret ?_
       exact EX.done (res0 rfl) ⟨⟨_, rfl⟩, hkp, .inr ⟨xs ++ [([((cntN q d false + n : Nat) : Int)], val 15)], by simp, hpf, hJ0⟩⟩
  ·
   have hne : n = cntN q d true := by
    rcases Nat.lt_or_ge n (cntN q d true) with h_ | h_
    ·omega
    ·omega
   refine EC.seq (EC.region ?_);refine EL.val (ZO (r := false) rfl rfl (decide_eq_false (by omega))) rfl ?_
   refine EL.nil (EX.seq (EC.seq (EC.no rfl (EC.exit (EX.seq_exit (EX.seq_exit (EX.blk_here (EX.blk (EX.seq ?_)))))))));refine EC.region (EL.val (x_add rfl rfl (c := ((1 + 1 : Nat) : Int)) rfl) rfl (EL.mv rfl rfl (EL.nil ?_)));refine EX.roundD (1 + 1, xs) ⟨rfl, trivial⟩ (by repeat first | with_reducible exact .refl _ | refine sp_ rfl ?_ | exact .refl _ | refine sd_ rfl ?_ | refine sn_ ?_) ⟨by rw [hall, hne]; rfl, by omega, qb11, qb2, qb3, qbD, hq0, hq1, hpl, hkp, hJ0⟩ (by omega)
 ·
  refine EC.seq (EC.region ?_);refine EL.val (ZO (r := false) rfl rfl (decide_eq_false (by omega))) rfl ?_
  refine EL.nil (EX.seq (EC.seq (EC.no rfl (EC.exit (EX.seq_exit (EX.seq_exit (EX.blk_here ?_)))))))
  exact EX.done' (res0 rfl) ⟨⟨_, rfl⟩, hkp, .inl ⟨pre, by rw [QC3]; exact hall, hJ0⟩⟩
end Go.Proofs.Ytlbfnimilcnihaa
set_option maxRecDepth 100000
namespace Go.Proofs.Ytlbfnimilcnihaa
open Go Go.RowKit
theorem QMK {t : TypeId} {b : Nat} {m : String} {w : World} : (Builtin.ssaWrapNilChk_ #[t] t #[.pointer (some ⟨b, 0, none⟩), strVal "", strVal m]).run Try.prog w = .ok (.pointer (some ⟨b, 0, none⟩)) w := rfl
noncomputable def mRow (n : String) : Option (List FieldStep × Option (FuncId × Bool)) := (Array.find? (fun x => x.name == n) Try.t147.methods).map fun m => (m.path.toList, m.func)
theorem QGX {n : String} {f : FuncId} {p : Bool} (h : mRow n = some ([], some (f, p))) : ∃ m, Array.find? (fun x => x.name == n) Try.t147.methods = some m ∧ m.path = #[] ∧ m.func = some (f, p) := by
 unfold mRow at h
 cases hm : Array.find? (fun x => x.name == n) Try.t147.methods with
 | none => rw [hm] at h; cases h
 | some m =>
  rw [hm] at h
  simp only [Option.map_some, Option.some.injEq, Prod.mk.injEq] at h
  exact ⟨m, rfl, Array.toList_inj.1 h.1, h.2⟩
theorem QFW {n : String} {f b : Nat} {v : Value} {w : World} (h : mRow n = some ([], some (f, false))) (c0 : w.cell? ⟨b, 0, none⟩ = some v) : (method (Try.prog.types.size + Made.depth) 147 (.pointer (some ⟨b, 0, none⟩)) n).run Try.prog w = .ok (f, v) w := by
 obtain ⟨m, h1, h2, h3⟩ := QGX h;have e : Try.prog.types.size + Made.depth = (Try.prog.types.size + 99) + 1 := by kernel_rfl
 rw [e]
 unfold method
 simp [go_sem, h1, h2, h3, follow, receiverAt, Place.get, QMK, c0]
theorem QHr {n : String} {f b : Nat} {w : World} (h : mRow n = some ([], some (f, true))) : (method (Try.prog.types.size + Made.depth) 147 (.pointer (some ⟨b, 0, none⟩)) n).run Try.prog w = .ok (f, .pointer (some ⟨b, 0, none⟩)) w := by
 obtain ⟨m, h1, h2, h3⟩ := QGX h;have e : Try.prog.types.size + Made.depth = (Try.prog.types.size + 99) + 1 := by kernel_rfl
 rw [e]
 unfold method
 simp [go_sem, h1, h2, h3, follow, receiverAt, Place.get]
section
variable {n : Nat} {σ : Sg} {w : World} {dst : Option Tmp} {ty : TypeId} {pos : String} {af : Array Edge} {g : Option (Nat × Bool)} {x y z : Operand} {at' : Array TypeId}
theorem QHA {v : Value} (hx : evS σ x = some v) : ZI Try.prog n σ w ⟨dst, .makeInterface 147 x, ty, pos, af, g⟩ (.iface 147 v) := fun a ha => by
 simp only [execOp, ha.eval hx]
 simp [go_sem, Instr.makeInterface]
theorem QHB {v : Value} (hx : evS σ x = some v) : ZI Try.prog n σ w ⟨dst, .makeInterface 122 x, ty, pos, af, g⟩ (.iface 122 v) := fun a ha => by
 simp only [execOp, ha.eval hx]
 simp [go_sem, Instr.makeInterface]
theorem QJE {v : Value} (hx : evS σ x = some (.iface 122 v)) : ZI Try.prog n σ w ⟨dst, .typeAssert x 20 122 false, ty, pos, af, g⟩ v := fun a ha => by
 simp only [execOp, ha.eval hx]
 simp [go_sem, Instr.typeAssert]
theorem QMW : mRow "Len" = some ([], some (108, false)) := by kernel_rfl
theorem QH4 {xr : Operand} {b : Nat} {vr : Value} (hr : evS σ xr = some (.iface 147 (.pointer (some ⟨b, 0, none⟩))))  (c0 : w.cell? ⟨b, 0, none⟩ = some vr) (a : Act) (ha : Env n σ a) : (execOp a.eval ⟨dst, .call { callee := .invoke xr "Len", args := #[], argTypes := at' }, ty, pos, af, g⟩).run Try.prog w = .ok (.enter 108 #[vr]) w := by
 have e := QFW QMW c0
 simp only [execOp, resolve, List.map_toArray, List.map_cons, List.map_nil, ha.eval hr]
 simp [go_sem] at e ⊢
 simp [go_sem, e]
theorem QK9 : mRow "Less" = some ([], some (109, false)) := by kernel_rfl
theorem Yh {xr x0 x1 : Operand} {b : Nat} {vr v0 v1 : Value} (hr : evS σ xr = some (.iface 147 (.pointer (some ⟨b, 0, none⟩)))) (h0 : evS σ x0 = some v0) (h1 : evS σ x1 = some v1) (c0 : w.cell? ⟨b, 0, none⟩ = some vr) (a : Act) (ha : Env n σ a) : (execOp a.eval ⟨dst, .call { callee := .invoke xr "Less", args := #[x0, x1], argTypes := at' }, ty, pos, af, g⟩).run Try.prog w = .ok (.enter 109 #[vr, v0, v1]) w := by
 have e := QFW QK9 c0
 simp only [execOp, resolve, List.map_toArray, List.map_cons, List.map_nil, ha.eval hr, ha.eval h0, ha.eval h1]
 simp [go_sem] at e ⊢
 simp [go_sem, e]
theorem QK7 : mRow "Swap" = some ([], some (110, false)) := by kernel_rfl
theorem QBX {xr x0 x1 : Operand} {b : Nat} {vr v0 v1 : Value} (hr : evS σ xr = some (.iface 147 (.pointer (some ⟨b, 0, none⟩)))) (h0 : evS σ x0 = some v0) (h1 : evS σ x1 = some v1) (c0 : w.cell? ⟨b, 0, none⟩ = some vr) (a : Act) (ha : Env n σ a) : (execOp a.eval ⟨dst, .call { callee := .invoke xr "Swap", args := #[x0, x1], argTypes := at' }, ty, pos, af, g⟩).run Try.prog w = .ok (.enter 110 #[vr, v0, v1]) w := by
 have e := QFW QK7 c0
 simp only [execOp, resolve, List.map_toArray, List.map_cons, List.map_nil, ha.eval hr, ha.eval h0, ha.eval h1]
 simp [go_sem] at e ⊢
 simp [go_sem, e]
theorem QK8 : mRow "Push" = some ([], some (118, true)) := by kernel_rfl
theorem QJ4 {xr x0 : Operand} {b : Nat} {v0 : Value} (hr : evS σ xr = some (.iface 147 (.pointer (some ⟨b, 0, none⟩)))) (h0 : evS σ x0 = some v0)  (a : Act) (ha : Env n σ a) : (execOp a.eval ⟨dst, .call { callee := .invoke xr "Push", args := #[x0], argTypes := at' }, ty, pos, af, g⟩).run Try.prog w = .ok (.enter 118 #[.pointer (some ⟨b, 0, none⟩), v0]) w := by
 have e := QHr (b := b) (w := w) QK8
 simp only [execOp, resolve, List.map_toArray, List.map_cons, List.map_nil, ha.eval hr, ha.eval h0]
 simp [go_sem] at e ⊢
 simp [go_sem, e]
theorem QMV : mRow "Pop" = some ([], some (117, true)) := by kernel_rfl
theorem QLJ {xr : Operand} {b : Nat} (hr : evS σ xr = some (.iface 147 (.pointer (some ⟨b, 0, none⟩))))   (a : Act) (ha : Env n σ a) : (execOp a.eval ⟨dst, .call { callee := .invoke xr "Pop", args := #[], argTypes := at' }, ty, pos, af, g⟩).run Try.prog w = .ok (.enter 117 #[.pointer (some ⟨b, 0, none⟩)]) w := by
 have e := QHr (b := b) (w := w) QMV
 simp only [execOp, resolve, List.map_toArray, List.map_cons, List.map_nil, ha.eval hr]
 simp [go_sem] at e ⊢
 simp [go_sem, e]
end
theorem QH0 (A : Option Addr) (n c : Nat) (w : World) : Calls Try.prog 108 #[.slice A n c] w fun e w' => e = .returned (.int .i64 (n : Nat)) ∧ Below w.heap.size w w' := by
 have hbw := Below.refl w.heap.size w;refine EC.enter 5 Try.func108 rfl rfl rfl (EC.seq (EC.region (EL.as rfl rfl (EL.nil (EX.seq (EC.seq (EC.region (EL.mv rfl rfl (EL.val (QEB rfl) rfl ?_)))))))));refine EL.as rfl rfl (EL.nil (EX.seq (EC.ret ?_)))
 exact EX.done (res1 rfl rfl) ⟨rfl, hbw⟩
theorem QJx {p : Nat → Prop} {w : World} {base bp i j : Nat} {sl : Value} {ps : List VD} (h : PileAt p w base bp sl ps) (hi : i < ps.length) (hj : j < ps.length) (hpl : ∀ x ∈ ps, x.2.plan.length ≤ 1000000) :
  Calls Try.prog 109 #[sl, .int .i64 (i : Nat), .int .i64 (j : Nat)] w fun e w' => e = .returned (.bool (decide (cmpD (gD ps i) (gD ps j) < 0))) ∧ Below w.heap.size w w' := by
 obtain ⟨g, c, rfl⟩ := Z6 h.row (by omega)
 have hci := QAK h.row (k := i) (by simpa using hi)
 have hcj := QAK h.row (k := j) (by simpa using hj)
 rw [QBT hi] at hci;rw [QBT hj] at hcj;have hbw := Below.refl w.heap.size w;refine EC.enter 17 Try.func109 rfl rfl rfl (EC.seq (EC.region (EL.as rfl rfl (EL.nil (EX.seq (EC.seq ?_))))));refine EC.regionP [[], [], [0, 1], [0, 1, 2], [], [], [4, 5], [4, 5, 6], [0, 1, 2, 3, 4, 5, 6, 7], [0, 1, 2, 3, 4, 5, 6, 7, 8], [0, 1, 2, 3, 4, 5, 6, 7, 8, 9]] 8 [] (phi (fun i_ r => match i_ with | 0 => r 0 = .slice (some ⟨g, 0, none⟩) ps.length c | 1 => r 1 = .int .i64 (i : Nat) | 2 => r 2 = .pointer (some ⟨g, 0 + i, none⟩) | 3 => r 3 = (ps.getD i vd0).1 | 4 => r 4 = .slice (some ⟨g, 0, none⟩) ps.length c | 5 => r 5 = .int .i64 (j : Nat) | 6 => r 6 = .pointer (some ⟨g, 0 + j, none⟩) | 7 => r 7 = (ps.getD j vd0).1 | _ => True) []) (by kernel_rfl) rfl rfl (Yu) (fun i_ hi_ => ?_) ?_
 ·match i_, hi_ with
  | 0, _ =>
   intro val w1 a hb ha hd;have ha := ha.s0 (d := 0) rfl
   exact ZJ ha rfl rfl (x_move rfl) rfl rfl
  | 1, _ =>
   intro val w1 a hb ha hd;have ha := ha.s0 (d := 1) rfl
   exact ZJ ha rfl rfl (x_move rfl) rfl rfl
  | 2, _ =>
   intro val w1 a hb ha hd;have e0 : val 0 = _ := hd 0 (ZA.1 rfl);have e1 : val 1 = _ := hd 1 (ZA.1 rfl);have ha := ha.s2 (d := 8) (e := 7) rfl e1 rfl e0
   exact ZJ ha rfl rfl (QCC rfl rfl hi) rfl rfl
  | 3, _ =>
   intro val w1 a hb ha hd;have e2 : val 2 = _ := hd 2 (ZA.1 rfl);have ha := ha.s1 (d := 9) rfl e2
   exact ZJ ha rfl rfl (Z7 rfl (ZC hb (ZC hbw hci))) rfl rfl
  | 4, _ =>
   intro val w1 a hb ha hd;have ha := ha.s0 (d := 0) rfl
   exact ZJ ha rfl rfl (x_move rfl) rfl rfl
  | 5, _ =>
   intro val w1 a hb ha hd;have ha := ha.s0 (d := 2) rfl
   exact ZJ ha rfl rfl (x_move rfl) rfl rfl
  | 6, _ =>
   intro val w1 a hb ha hd;have e4 : val 4 = _ := hd 4 (ZA.1 rfl);have e5 : val 5 = _ := hd 5 (ZA.1 rfl);have ha := ha.s2 (d := 12) (e := 11) rfl e5 rfl e4
   exact ZJ ha rfl rfl (QCC rfl rfl hj) rfl rfl
  | 7, _ =>
   intro val w1 a hb ha hd;have e6 : val 6 = _ := hd 6 (ZA.1 rfl);have ha := ha.s1 (d := 13) rfl e6
   exact ZJ ha rfl rfl (Z7 rfl (ZC hb (ZC hbw hcj))) rfl rfl
  | k + 8, h => exact absurd h (by omega)
 ·intro val wR1 hb halc hd
  have e0 : val 0 = _ := hd 0 (by omega)
  have e1 : val 1 = _ := hd 1 (by omega)
  have e2 : val 2 = _ := hd 2 (by omega)
  have e3 : val 3 = _ := hd 3 (by omega)
  have e4 : val 4 = _ := hd 4 (by omega)
  have e5 : val 5 = _ := hd 5 (by omega)
  have e6 : val 6 = _ := hd 6 (by omega)
  have e7 : val 7 = _ := hd 7 (by omega)
  refine EL.ends (cs := [_, _, _, _, _, _, _, _]) ⟨e0, e1, e2, e3, e4, e5, e6, e7, trivial⟩ rfl ?_;replace hbw := bo_ hbw hb;clear hb;refine EL.call (cA2 QNI rfl rfl) rfl (QKN (d := gD ps i) (e := gD ps j) ((h.dr hi).rd.below hbw) ((h.dr hj).rd.below hbw) hbw.size (hpl _ (Zo hi vd0))) ?_
  rintro e w1 ⟨rfl, hc1⟩
  refine ⟨_, rfl, ?_⟩;replace hbw := bo_ hbw hc1;clear hc1;refine EL.val (ZO rfl rfl rfl) rfl (EL.as rfl rfl (EL.nil (EX.seq (EC.ret ?_))))
  exact EX.done (res1 rfl rfl) ⟨rfl, hbw⟩
theorem QBK {p : Nat → Prop} {w : World} {base bp i j : Nat} {sl : Value} {ps : List VD} (h : PileAt p w base bp sl ps) (hi : i < ps.length) (hj : j < ps.length) :
  Calls Try.prog 110 #[sl, .int .i64 (i : Nat), .int .i64 (j : Nat)] w fun e w' => e = .returned (.tuple #[]) ∧ PileAt p w' base bp sl (swL ps i j vd0) ∧ TurnsS p [145, 122] w w' := by
 obtain ⟨g, c, rfl⟩ := Z6 h.row (by omega)
 obtain ⟨bi, si, evi, hbi, _⟩ := (h.dr hi).at_;obtain ⟨bj, sj, evj, hbj, _⟩ := (h.dr hj).at_;have hrow := h.row;have hgw : w.grownBy w (some g) := ⟨rfl, rfl, rfl, Nat.le_refl _, fun _ _ _ => rfl⟩
 refine EC.enter 20 Try.func110 rfl rfl rfl ?_;have lb_ps : base ≤ g := (hrow.lt _ rfl).1;refine EC.regionS [[], [], [], [], [], [], [4, 5], [4, 5, 6], [], [], [8, 9], [8, 9, 10], [0, 1, 4, 5, 6, 7, 8, 9, 10, 11], [0, 1, 4, 5, 6, 7, 8, 9, 10, 11, 12], [0, 1, 2, 3, 4, 5, 6, 7, 8, 9, 10, 11, 12, 13], [0, 1, 2, 3, 4, 5, 6, 7, 8, 9, 10, 11, 12, 13, 14]] 14 [] [13] (fun fl w_ => Touch w w_ [g] ∧ (fl 13 = false → w_.ownsRow base 122 1 (.slice (some ⟨g, 0, none⟩) ps.length c) ps.length (ps.map Prod.fst))) (phiS (fun i_ r => match i_ with | 0 => r 0 = .slice (some ⟨g, 0, none⟩) ps.length c | 1 => r 1 = .int .i64 (i : Nat) | 2 => r 2 = .slice (some ⟨g, 0, none⟩) ps.length c | 3 => r 3 = .int .i64 (j : Nat) | 4 => r 4 = .slice (some ⟨g, 0, none⟩) ps.length c | 5 => r 5 = .int .i64 (j : Nat) | 6 => r 6 = .pointer (some ⟨g, 0 + j, none⟩) | 7 => r 7 = .pointer (some ⟨bj, 0, none⟩) | 8 => r 8 = .slice (some ⟨g, 0, none⟩) ps.length c | 9 => r 9 = .int .i64 (i : Nat) | 10 => r 10 = .pointer (some ⟨g, 0 + i, none⟩) | 11 => r 11 = .pointer (some ⟨bi, 0, none⟩) | 12 => r 12 = .pointer (some ⟨g, 0 + i, none⟩) | _ => True) [(13, fun fl _ w_ => fl 13 = true ∧ w_.ownsRow base 122 1 (.slice (some ⟨g, 0, none⟩) ps.length c) ps.length ((ps.map Prod.fst).set i (.pointer (some ⟨bj, 0, none⟩))))]) (by kernel_rfl) rfl rfl (by intro i hi; simp at hi; rcases hi with rfl <;> exact ⟨by simp, by omega⟩) ⟨fun _ _ => ⟨Touch.start _ _, fun _ => QBo hrow 1⟩, fun _ _ _ ⟨hT, hA0_⟩ hb => ⟨hT.below hb, fun h => ZB (hA0_ h) hb (Nat.le_refl _)⟩, fun _ _ h => h.1.size⟩ (ZL (fun _ _ _ _ hb ⟨h1, h2⟩ => ⟨h1, ZB h2 hb (Nat.le_refl _)⟩) (Zd)) (fun i_ hi_ hs_ => ?_) (fun i_ hi_ => ?_) ?_
 ·match i_, hi_ with
  | 0, _ =>
   intro val fl w1 a hb ha hd hfl;obtain ⟨hT, hA0_⟩ := hb;have ha := ha.s0 (d := 0) rfl
   exact ZD ha rfl rfl (x_move rfl) rfl rfl
  | 1, _ =>
   intro val fl w1 a hb ha hd hfl;obtain ⟨hT, hA0_⟩ := hb;have ha := ha.s0 (d := 1) rfl
   exact ZD ha rfl rfl (x_move rfl) rfl rfl
  | 2, _ =>
   intro val fl w1 a hb ha hd hfl;obtain ⟨hT, hA0_⟩ := hb;have ha := ha.s0 (d := 0) rfl
   exact ZD ha rfl rfl (x_move rfl) rfl rfl
  | 3, _ =>
   intro val fl w1 a hb ha hd hfl;obtain ⟨hT, hA0_⟩ := hb;have ha := ha.s0 (d := 2) rfl
   exact ZD ha rfl rfl (x_move rfl) rfl rfl
  | 4, _ =>
   intro val fl w1 a hb ha hd hfl;obtain ⟨hT, hA0_⟩ := hb;have ha := ha.s0 (d := 0) rfl
   exact ZD ha rfl rfl (x_move rfl) rfl rfl
  | 5, _ =>
   intro val fl w1 a hb ha hd hfl;obtain ⟨hT, hA0_⟩ := hb;have ha := ha.s0 (d := 2) rfl
   exact ZD ha rfl rfl (x_move rfl) rfl rfl
  | 6, _ =>
   intro val fl w1 a hb ha hd hfl;obtain ⟨hT, hA0_⟩ := hb;have e4 : val 4 = _ := hd 4 (ZA.1 rfl);have e5 : val 5 = _ := hd 5 (ZA.1 rfl);have ha := ha.s2 (d := 11) (e := 10) rfl e5 rfl e4
   exact ZD ha rfl rfl (QCC rfl rfl hj) rfl rfl
  | 7, _ =>
   intro val fl w1 a hb ha hd hfl;obtain ⟨hT, hA0_⟩ := hb;have e6 : val 6 = _ := hd 6 (ZA.1 rfl);have ha := ha.s1 (d := 12) rfl e6;have hr0 := hA0_ (hfl 13 (by simp) (ZA.1 rfl))
   exact ZD ha rfl rfl (Z7 rfl (by have h_ := QAK hr0 (k := j) (by simpa using hj); rw [QBT hj, evj] at h_; exact h_)) rfl rfl
  | 8, _ =>
   intro val fl w1 a hb ha hd hfl;obtain ⟨hT, hA0_⟩ := hb;have ha := ha.s0 (d := 0) rfl
   exact ZD ha rfl rfl (x_move rfl) rfl rfl
  | 9, _ =>
   intro val fl w1 a hb ha hd hfl;obtain ⟨hT, hA0_⟩ := hb;have ha := ha.s0 (d := 1) rfl
   exact ZD ha rfl rfl (x_move rfl) rfl rfl
  | 10, _ =>
   intro val fl w1 a hb ha hd hfl;obtain ⟨hT, hA0_⟩ := hb;have e8 : val 8 = _ := hd 8 (ZA.1 rfl);have e9 : val 9 = _ := hd 9 (ZA.1 rfl);have ha := ha.s2 (d := 15) (e := 14) rfl e9 rfl e8
   exact ZD ha rfl rfl (QCC rfl rfl hi) rfl rfl
  | 11, _ =>
   intro val fl w1 a hb ha hd hfl;obtain ⟨hT, hA0_⟩ := hb;have e10 : val 10 = _ := hd 10 (ZA.1 rfl);have ha := ha.s1 (d := 16) rfl e10;have hr0 := hA0_ (hfl 13 (by simp) (ZA.1 rfl))
   exact ZD ha rfl rfl (Z7 rfl (by have h_ := QAK hr0 (k := i) (by simpa using hi); rw [QBT hi, evi] at h_; exact h_)) rfl rfl
  | 12, _ =>
   intro val fl w1 a hb ha hd hfl;obtain ⟨hT, hA0_⟩ := hb;have e0 : val 0 = _ := hd 0 (ZA.1 rfl);have e1 : val 1 = _ := hd 1 (ZA.1 rfl);have ha := ha.s2 (d := 7) (e := 6) rfl e1 rfl e0
   exact ZD ha rfl rfl (QCC rfl rfl hi) rfl rfl
  | 13, _ =>
   exact absurd (by simp) hs_
  | k + 14, h => exact absurd h (by omega)
 ·simp only [List.mem_cons, List.not_mem_nil, or_false] at hi_
  subst hi_;intro val fl w1 a hb hfi ha hd hfl;obtain ⟨hT, hA0_⟩ := hb;have e12 : val 12 = _ := hd 12 (ZA.1 rfl);have e7 : val 7 = _ := hd 7 (ZA.1 rfl);have ha := ha.s2 (d := 13) (e := 18) rfl e7 rfl e12;refine QBI (l' := [.pointer (some ⟨bj, 0, none⟩)]) ha rfl rfl rfl (hA0_ hfi) QFH rfl rfl (by simp; omega) rfl ?_
  intro w' ho2 hgr;rw [Nat.zero_add, QHY _ _ _ (by simpa using hi)] at ho2
  refine ⟨undef, rfl, hgr.size, ⟨hT.grown hgr (by simp), (fun h => by rw [ZR] at h; cases h)⟩, ⟨ZR, ho2⟩, fun j _ hj hn hA => ?_⟩
  exact ZF (C := fun j => j ≠ 13 ∧ 13 ∉ clsAt [[], [], [], [], [], [], [4, 5], [4, 5, 6], [], [], [8, 9], [8, 9, 10], [0, 1, 4, 5, 6, 7, 8, 9, 10, 11], [0, 1, 4, 5, 6, 7, 8, 9, 10, 11, 12], [0, 1, 2, 3, 4, 5, 6, 7, 8, 9, 10, 11, 12, 13], [0, 1, 2, 3, 4, 5, 6, 7, 8, 9, 10, 11, 12, 13, 14]] j) (fun hc => absurd rfl hc.1) (fun _ _ h => h) j ⟨hj, hn⟩
 ·intro val fl wR0 hfl hb halc hd
  obtain ⟨hT, _⟩ := hb;have hz_ps := (hd 13 (by omega)).2
  change wR0.ownsRow base 122 1 (.slice (some ⟨g, 0, none⟩) ps.length c) ps.length ((ps.map Prod.fst).set i (.pointer (some ⟨bj, 0, none⟩))) at hz_ps;have e0 : val 0 = _ := hd 0 (by omega)
  have e1 : val 1 = _ := hd 1 (by omega)
  have e2 : val 2 = _ := hd 2 (by omega)
  have e3 : val 3 = _ := hd 3 (by omega)
  have e4 : val 4 = _ := hd 4 (by omega)
  have e5 : val 5 = _ := hd 5 (by omega)
  have e6 : val 6 = _ := hd 6 (by omega)
  have e7 : val 7 = _ := hd 7 (by omega)
  have e8 : val 8 = _ := hd 8 (by omega)
  have e9 : val 9 = _ := hd 9 (by omega)
  have e10 : val 10 = _ := hd 10 (by omega)
  have e11 : val 11 = _ := hd 11 (by omega)
  have e12 : val 12 = _ := hd 12 (by omega)
  refine EL.ends (cs := [_, _, _, _, _, _, _, _, _, _, _, _, _, val 13]) ⟨e0, e1, e2, e3, e4, e5, e6, e7, e8, e9, e10, e11, e12, rfl, trivial⟩ rfl ?_;replace hgw := QBJ hT;clear hT hrow;have hrow := hz_ps;clear hz_ps;refine EL.val (QCC rfl rfl hj) rfl ?_;refine EL.storeRow (l' := [.pointer (some ⟨bi, 0, none⟩)]) rfl rfl hrow QFH rfl rfl (by simp; omega) rfl ?_
  intro w1 ho2 hgr;rw [Nat.zero_add, QHY _ _ _ (by simpa using hj)] at ho2
  refine EL.nil ?_;replace hgw := Zm hgw hgr;obtain ⟨_, ⟨h0_, _⟩ | ⟨g_, cap_, cur_, hv_, _, hb_, _⟩⟩ := h.row
  ·cases h0_
  injection hv_ with hv_
  injection hv_ with hv_
  injection hv_ with hv_
  subst hv_;have hts : TurnsS p [145, 122] w w1 := .turn .refl hgw (h.pr g rfl) rfl hb_
  exact EX.done' (res0 rfl) ⟨rfl, ⟨h.box.grown hgw fun e => Yq (U := [122]) h.box hb_ rfl rfl (Option.some.inj e), h.pb, by rw [swL_len, QKn hi hj, evi, evj]; exact ho2, h.pr, fun x hx => (h.drs x ((QAP vd0 hi hj).mem_iff.1 hx)).turn hts rfl rfl⟩, hts⟩
theorem QLV : (Try.prog.info? 122).map (fun i => (i.zero, i.size, i.bytes)) = some (some (.pointer none), 1, 8) := by kernel_rfl
theorem QLW : Elem Try.prog 145 122 1 8 := Elem.mk' Try.underlying145 QLV rfl (by omega)
theorem QJV {p : Nat → Prop} {w : World} {base bp : Nat} {sl v : Value} {ps : List VD} {d : Dr} (h : PileAt p w base bp sl ps) (hd : OwnDr w base v d) (hbs : base ≤ w.heap.size) (hpn : ∀ g, w.heap.size ≤ g → p g) (hlen : ps.length + 1 ≤ 1048576) :
  Calls Try.prog 118 #[.pointer (some ⟨bp, 0, none⟩), .iface 122 v] w fun e w' => e = .returned (.tuple #[]) ∧ ∃ sl', PileAt p w' base bp sl' (ps ++ [(v, d)]) ∧ TurnsS p [145, 122] w w' := by
 have hrow := h.row;have hq := h.box;have hd0 := hd;obtain ⟨bd, sd, rfl, _⟩ := hd0.at_;have hts : TurnsS p [145, 122] w w := .refl;refine EC.enter 13 Try.func118 rfl rfl rfl ?_;have hW := ZM hrow (w1 := w) ⟨rfl, rfl, rfl, Nat.le_refl _, fun _ _ _ => rfl⟩ hbs
 clear hW;have lt_p := hq.lt;refine EC.regionS [[], [], [1], [1, 2], [], [4], [4, 5], [1, 2, 3, 4, 5, 6], [0, 1, 2, 3, 4, 5, 6, 7], [0, 1, 2, 3, 4, 5, 6, 7, 8]] 8 [] [7] (fun fl w_ => w.grownBy w_ (sl : Value).ownBlock ∧ (fl 7 = false → w_.ownsRow base 122 1 sl ps.length (ps.map Prod.fst))) (phiS (fun i_ r => match i_ with | 0 => r 0 = .pointer (some ⟨bp, 0, none⟩) | 1 => r 1 = .pointer (some ⟨bp, 0, none⟩) | 2 => r 2 = .pointer (some ⟨bp, 0, none⟩) | 3 => r 3 = sl | 4 => r 4 = .iface 122 (.pointer (some ⟨bd, 0, none⟩)) | 5 => r 5 = .pointer (some ⟨bd, 0, none⟩) | _ => True) [(6, fun fl r w_ => fl 7 = false → (∃ g_, r 6 = .slice (some ⟨g_, 0, none⟩) 1 1 ∧ Blk w_ g_ 122 #[.pointer (some ⟨bd, 0, none⟩)] ∧ w.heap.size ≤ g_)), (7, fun _ r w_ => w_.ownsRow base 122 1 (r 7) (ps.length + 1) ((ps.map Prod.fst) ++ [.pointer (some ⟨bd, 0, none⟩)]) ∧ ∀ b, (r 7).ownBlock = some b → (sl : Value).ownBlock = some b ∨ w.heap.size ≤ b)]) (by kernel_rfl) rfl rfl (by intro i hi; simp at hi; subst hi; exact ⟨by simp, by omega⟩) (QBc hrow) (ZL (QAS QAL) (ZL (QAq (e := 7) (C := fun u_ => ∀ b, u_.ownBlock = some b → (sl : Value).ownBlock = some b ∨ w.heap.size ≤ b)) (Zd))) (fun i_ hi_ hs_ => ?_) (fun i_ hi_ => ?_) ?_
 ·match i_, hi_ with
  | 0, _ =>
   intro val fl w1 a hb ha hd hfl;obtain ⟨hgb, hg0⟩ := hb;have hb := ZM hrow hgb hbs;have ha := ha.s0 (d := 0) rfl
   exact ZD ha rfl rfl (x_move rfl) rfl rfl
  | 1, _ =>
   intro val fl w1 a hb ha hd hfl;obtain ⟨hgb, hg0⟩ := hb;have hb := ZM hrow hgb hbs;have ha := ha.s0 (d := 0) rfl
   exact ZD ha rfl rfl (x_move rfl) rfl rfl
  | 2, _ =>
   intro val fl w1 a hb ha hd hfl;obtain ⟨hgb, hg0⟩ := hb;have hb := ZM hrow hgb hbs;have e1 : val 1 = _ := hd 1 (ZA.1 rfl);have ha := ha.s1 (d := 5) rfl e1
   exact ZD ha rfl rfl (ZH rfl) rfl rfl
  | 3, _ =>
   intro val fl w1 a hb ha hd hfl;obtain ⟨hgb, hg0⟩ := hb;have hb := ZM hrow hgb hbs;have e2 : val 2 = _ := hd 2 (ZA.1 rfl);have ha := ha.s1 (d := 6) rfl e2
   exact ZD ha rfl rfl (QA7 rfl ((ZK hq hrow rfl hgb).at (j := 0) rfl)) rfl rfl
  | 4, _ =>
   intro val fl w1 a hb ha hd hfl;obtain ⟨hgb, hg0⟩ := hb;have hb := ZM hrow hgb hbs;have ha := ha.s0 (d := 1) rfl
   exact ZD ha rfl rfl (x_move rfl) rfl rfl
  | 5, _ =>
   intro val fl w1 a hb ha hd hfl;obtain ⟨hgb, hg0⟩ := hb;have hb := ZM hrow hgb hbs;have e4 : val 4 = _ := hd 4 (ZA.1 rfl);have ha := ha.s1 (d := 8) rfl e4
   exact ZD ha rfl rfl (QJE rfl) rfl rfl
  | 6, _ =>
   intro val fl w1 a hb ha hd hfl;obtain ⟨hgb, hg0⟩ := hb;have hb := ZM hrow hgb hbs;have e5 : val 5 = _ := hd 5 (ZA.1 rfl);have ha := ha.s1 (d := 9) rfl e5
   exact QCQ ha rfl rfl (QGp rfl) rfl (fun g w' hq _ hge => fun _ => ⟨g, rfl, hq, Nat.le_trans hgb.size hge⟩)
  | 7, _ =>
   exact absurd (by simp) hs_
  | k + 8, h => exact absurd h (by omega)
 ·simp only [List.mem_singleton] at hi_; subst hi_
  intro val fl w1 a hb hfi ha hd hfl;obtain ⟨hgb, hg0⟩ := hb;have hb := ZM hrow hgb hbs;have e3 : val 3 = _ := hd 3 (ZA.1 rfl);obtain ⟨g6_, e6, q6_, h6_⟩ := hd 6 (ZA.1 rfl) hfi;change val 6 = _ at e6;have ha := ha.s2 (d := 10) (e := 7) rfl e6 rfl e3;refine QCM QLW ha rfl rfl rfl (hg0 hfi) (QAE (l := [.pointer (some ⟨bd, 0, none⟩)]) q6_ rfl) (by intro u hu; rw [List.mem_singleton.1 hu]; rfl) hlen rfl (Nat.le_trans hbs hgb.size) ?_
  intro v' w' ho' hgr hat;refine ⟨v', rfl, hgr.size, ⟨Zm hgb hgr, fun h => by rw [ZR] at h; cases h⟩, ⟨ho', fun b hb' => ?_⟩, fun j _ hj hn hA => ?_⟩
  ·rcases hat with h | h
   ·exact .inl (h ▸ hb')
   ·refine .inr ?_
    change v'.ownBlock = some b at hb';rw [h] at hb'
    injection hb' with hb'
    have := hgb.size
    omega
  ·exact ZF (C := fun j => j ≠ 7 ∧ 7 ∉ clsAt [[], [], [1], [1, 2], [], [4], [4, 5], [1, 2, 3, 4, 5, 6], [0, 1, 2, 3, 4, 5, 6, 7], [0, 1, 2, 3, 4, 5, 6, 7, 8]] j) (fun _ _ h => by rw [ZR] at h; cases h) (ZF (fun hc => absurd rfl hc.1) (fun _ _ h => h)) j ⟨hj, hn⟩
 ·intro val fl w' hfl hb halc hd
  obtain ⟨hgb, _⟩ := hb;have hb := ZM hrow hgb hbs;have e0 : val 0 = _ := hd 0 (by omega)
  have e1 : val 1 = _ := hd 1 (by omega)
  have e2 : val 2 = _ := hd 2 (by omega)
  have e3 : val 3 = _ := hd 3 (by omega)
  have e4 : val 4 = _ := hd 4 (by omega)
  have e5 : val 5 = _ := hd 5 (by omega)
  obtain ⟨ho7, hn7⟩ := hd 7 (by omega)
  change w'.ownsRow _ _ _ (val 7) _ _ at ho7;refine EL.ends (cs := [_, _, _, _, _, _, val 6, val 7]) ⟨e0, e1, e2, e3, e4, e5, rfl, rfl, trivial⟩ rfl ?_;replace hq := ZK hq hrow rfl hgb;replace hts := hts.own hrow hgb h.pr rfl;obtain ⟨A7, c7, e7_, _⟩ := (Rd.of_own ho7).shape;change ∀ b, (val 7).ownBlock = some b → sl.ownBlock = some b ∨ w.heap.size ≤ b at hn7;rw [e7_] at ho7 hn7 ⊢;refine EL.val (ZH rfl) rfl (EL.store rfl rfl hq QDr rfl rfl rfl rfl ?_);intro w1 hq1 hg1;replace hts := TurnsS.turn hts hg1 h.pb rfl hq;replace ho7 := ZG ho7 hq rfl hg1;replace hq := hq1;clear hg1 hq1;refine EL.nil ?_
  exact EX.done' (res0 rfl) ⟨rfl, _, ⟨hq, h.pb, by rw [List.length_append, List.map_append]; exact ho7, fun g hg => (hn7 g hg).elim (h.pr g) (hpn g), fun x hx => (List.mem_append.1 hx).elim (fun hx => (h.drs x hx).turn hts rfl rfl) (fun hx => (List.mem_singleton.1 hx) ▸ hd0.turn hts rfl rfl)⟩, hts⟩
theorem QKz {p : Nat → Prop} {w : World} {base bp : Nat} {sl : Value} {qs : List VD} {x : VD} (h : PileAt p w base bp sl (qs ++ [x])) (hlen : qs.length + 1 ≤ 1048576) :
  Calls Try.prog 117 #[.pointer (some ⟨bp, 0, none⟩)] w fun e w' => e = .returned (.iface 122 x.1) ∧ ∃ sl', PileAt p w' base bp sl' qs ∧ TurnsS p [145, 122] w w' ∧ OwnDr w' base x.1 x.2 := by
 have hdx := h.drs x (List.mem_append_right _ (List.mem_singleton.2 rfl));have hq := h.box;have hl1 : (qs ++ [x]).length = qs.length + 1 := by simp
 have hrow := h.row;rw [hl1] at hrow;obtain ⟨g, c, rfl⟩ := Z6 hrow (by omega)
 have hcap : qs.length ≤ c := by have := QCY hrow; omega
 have hc0 := QAK hrow (k := qs.length) (by simp)
 rw [QBT (by simp), show (qs ++ [x]).getD qs.length vd0 = x by simp] at hc0
 obtain ⟨bd, sd, evd, _⟩ := hdx.at_;have hrow0 := QIf hrow (k := qs.length) (by omega)
 rw [show ((qs ++ [x]).map Prod.fst).take qs.length = qs.map Prod.fst by simp] at hrow0
 have hts : TurnsS p [145, 122] w w := .refl;refine EC.enter 27 Try.func117 rfl rfl rfl (EC.seq (EC.region (EL.as rfl rfl (EL.nil (EX.seq (EC.seq ?_))))));refine EC.regionQ (by kernel_rfl) (by kernel_rfl) ?_
 refine EQ.mv rfl rfl ?_;refine EQ.val (fun _ hw => (ZH rfl)) rfl ?_
 refine EQ.val (fun _ hw => (QA7 rfl (ZC hw (hq.at (j := 0) rfl)))) rfl ?_
 refine EQ.mv rfl rfl ?_;refine EQ.val (fun _ hw => (ZH rfl)) rfl ?_
 refine EQ.val (fun _ hw => (QA7 rfl (ZC hw (hq.at (j := 0) rfl)))) rfl ?_
 refine EQ.val (fun _ hw => (QEB rfl)) rfl ?_
 refine EQ.val (fun _ hw => (Z_ rfl rfl (c := ((qs.length : Nat) : Int)) ((IntWalk.i64_in _ ⟨by omega, by omega⟩).trans (by omega)))) rfl ?_
 refine EQ.val (fun _ hw => (QCC rfl rfl (by omega))) rfl ?_
 refine EQ.val (fun _ hw => (Z7 rfl (ZC hw hc0))) rfl ?_
 refine EQ.val (fun _ hw => (ZZ rfl)) rfl ?_
 refine EQ.fin (fun w1 hw_ => ?_)
 replace hq := hq.bl hw_;replace hts := hts.more hw_;replace hrow0 := ZB hrow0 hw_ (Nat.le_refl _);clear hw_;refine EX.seq (EC.seq ?_);have lt_p := hq.lt;refine EC.regionP [[], [], [1], [1, 2], [], [4], [4, 5], [4, 5, 6], [4, 5, 6, 7], [1, 2, 3, 4, 5, 6, 7, 8], [0, 1, 2, 3, 4, 5, 6, 7, 8, 9], [0, 1, 2, 3, 4, 5, 6, 7, 8, 9, 10]] 10 [] (phi (fun i_ r => match i_ with | 0 => r 0 = .pointer (some ⟨bp, 0, none⟩) | 1 => r 1 = .pointer (some ⟨bp, 0, none⟩) | 2 => r 2 = .pointer (some ⟨bp, 0, none⟩) | 3 => r 3 = .slice (some ⟨g, 0, none⟩) (qs.length + 1) c | 4 => r 4 = .pointer (some ⟨bp, 0, none⟩) | 5 => r 5 = .pointer (some ⟨bp, 0, none⟩) | 6 => r 6 = .slice (some ⟨g, 0, none⟩) (qs.length + 1) c | 7 => r 7 = .int .i64 ((qs.length + 1) : Nat) | 8 => r 8 = .int .i64 (qs.length : Nat) | 9 => r 9 = .slice (some ⟨g, 0, none⟩) qs.length c | _ => True) []) (by kernel_rfl) rfl rfl (Yu) (fun i_ hi_ => ?_) ?_
 ·match i_, hi_ with
  | 0, _ =>
   intro val w1 a hb ha hd;have ha := ha.s0 (d := 0) rfl
   exact ZJ ha rfl rfl (x_move rfl) rfl rfl
  | 1, _ =>
   intro val w1 a hb ha hd;have ha := ha.s0 (d := 0) rfl
   exact ZJ ha rfl rfl (x_move rfl) rfl rfl
  | 2, _ =>
   intro val w1 a hb ha hd;have e1 : val 1 = _ := hd 1 (ZA.1 rfl);have ha := ha.s1 (d := 15) rfl e1
   exact ZJ ha rfl rfl (ZH rfl) rfl rfl
  | 3, _ =>
   intro val w1 a hb ha hd;have e2 : val 2 = _ := hd 2 (ZA.1 rfl);have ha := ha.s1 (d := 16) rfl e2
   exact ZJ ha rfl rfl (QA7 rfl ((hq.below hb hq.lt).at (j := 0) rfl)) rfl rfl
  | 4, _ =>
   intro val w1 a hb ha hd;have ha := ha.s0 (d := 0) rfl
   exact ZJ ha rfl rfl (x_move rfl) rfl rfl
  | 5, _ =>
   intro val w1 a hb ha hd;have e4 : val 4 = _ := hd 4 (ZA.1 rfl);have ha := ha.s1 (d := 18) rfl e4
   exact ZJ ha rfl rfl (ZH rfl) rfl rfl
  | 6, _ =>
   intro val w1 a hb ha hd;have e5 : val 5 = _ := hd 5 (ZA.1 rfl);have ha := ha.s1 (d := 19) rfl e5
   exact ZJ ha rfl rfl (QA7 rfl ((hq.below hb hq.lt).at (j := 0) rfl)) rfl rfl
  | 7, _ =>
   intro val w1 a hb ha hd;have e6 : val 6 = _ := hd 6 (ZA.1 rfl);have ha := ha.s1 (d := 20) rfl e6
   exact ZJ ha rfl rfl (QEB rfl) rfl rfl
  | 8, _ =>
   intro val w1 a hb ha hd;have e7 : val 7 = _ := hd 7 (ZA.1 rfl);have ha := ha.s1 (d := 21) rfl e7
   exact ZJ ha rfl rfl (Z_ rfl rfl (c := ((qs.length : Nat) : Int)) ((IntWalk.i64_in _ ⟨by omega, by omega⟩).trans (by omega))) rfl rfl
  | 9, _ =>
   intro val w1 a hb ha hd;have e3 : val 3 = _ := hd 3 (ZA.1 rfl);have e8 : val 8 = _ := hd 8 (ZA.1 rfl);have ha := ha.s2 (d := 22) (e := 17) rfl e8 rfl e3
   exact ZJ ha rfl rfl (QKs rfl rfl hcap) rfl rfl
  | k + 10, h => exact absurd h (by omega)
 ·intro val wR2 hb halc hd
  have e0 : val 0 = _ := hd 0 (by omega)
  have e1 : val 1 = _ := hd 1 (by omega)
  have e2 : val 2 = _ := hd 2 (by omega)
  have e3 : val 3 = _ := hd 3 (by omega)
  have e4 : val 4 = _ := hd 4 (by omega)
  have e5 : val 5 = _ := hd 5 (by omega)
  have e6 : val 6 = _ := hd 6 (by omega)
  have e7 : val 7 = _ := hd 7 (by omega)
  have e8 : val 8 = _ := hd 8 (by omega)
  have e9 : val 9 = _ := hd 9 (by omega)
  refine EL.ends (cs := [_, _, _, _, _, _, _, _, _, _]) ⟨e0, e1, e2, e3, e4, e5, e6, e7, e8, e9, trivial⟩ rfl ?_;replace hq := hq.bl hb;replace hts := hts.more hb;replace hrow0 := ZB hrow0 hb (Nat.le_refl _);clear hb;refine EL.val (ZH rfl) rfl (EL.store rfl rfl hq QDr rfl rfl rfl rfl ?_);intro w2 hq2 hg2;replace hts := TurnsS.turn hts hg2 h.pb rfl hq;replace hrow0 := ZG hrow0 hq rfl hg2;replace hq := hq2;clear hg2 hq2;refine EL.nil (EX.seq (EC.seq (EC.region (EL.mv rfl rfl (EL.val (QHB rfl) rfl (EL.as rfl rfl (EL.nil (EX.seq (EC.ret ?_)))))))))
  exact EX.done (res1 rfl rfl) ⟨rfl, _, ⟨hq, h.pb, hrow0, fun g hg => h.pr g hg, fun x hx => (h.drs x (List.mem_append_left _ hx)).turn hts rfl rfl⟩, hts, hdx.turn hts rfl rfl⟩
theorem QAg {p : Nat → Prop} {w : World} {base bp i j : Nat} {sl : Value} {ps : List VD} {b : Bool} (h : PileAt p w base bp sl ps) (hi : i < ps.length) (hj : j < ps.length) (hpl : ∀ x ∈ ps, x.2.plan.length ≤ 1000000) (hb : decide (cmpD (gD ps i) (gD ps j) < 0) = b) :
  Calls Try.prog 109 #[sl, .int .i64 (i : Nat), .int .i64 (j : Nat)] w fun e w' => e = .returned (.bool b) ∧ Below w.heap.size w w' := hb ▸ QJx h hi hj hpl
theorem QMC {p : Nat → Prop} {w : World} {base bp j : Nat} {sl : Value} {ps : List VD} (h : PileAt p w base bp sl ps) (hu : UpI ps.length (gD ps) j) (hj : j < ps.length) (hn : ps.length ≤ 1048576) (hpl : ∀ x ∈ ps, x.2.plan.length ≤ 1000000) :
  Calls Try.prog 83 #[.iface 147 (.pointer (some ⟨bp, 0, none⟩)), .int .i64 (j : Nat)] w fun e w' => e = .returned (.tuple #[]) ∧ ∃ ps', ps'.Perm ps ∧ YN ps.length (gD ps') ∧ PileAt p w' base bp sl ps' ∧ TurnsS p [145, 122] w w' := by
 refine EC.enter 23 Try.func83 rfl rfl rfl (EC.block ?_);refine EC.loopD [1, 4, 5, 6, 7, 8, 9, 10, 11, 12, 13, 14, 15, 16, 17, 18, 19, 20, 21, 22] (fun i : List VD × Nat => [(1, .int .i64 (i.2 : Nat))]) (fun i W => i.1.Perm ps ∧ UpI ps.length (gD i.1) i.2 ∧ i.2 < ps.length ∧ PileAt p W base bp sl i.1 ∧ TurnsS p [145, 122] w W) (fun i => i.2) (ps, j) ⟨.refl _, hu, hj, h, .refl⟩ ⟨rfl, trivial⟩ ?_
 rintro ⟨qs, k⟩ W ⟨hpm, hui, hk, hP, hts⟩
 dsimp only at hpm hui hk hP hts
 have hql := hpm.length_eq;have hplq : ∀ x ∈ qs, x.2.plan.length ≤ 1000000 := fun x hx => hpl x (hpm.mem_iff.1 hx)
 refine EC.block (EC.seq (EC.region (EL.mv rfl rfl ?_)));refine EL.val (Z_ rfl rfl (by first | assumption | exact IntWalk.i64_in _ ⟨by omega, by omega⟩)) rfl ?_
 refine EL.val (QLp rfl rfl (by decide) ((congrArg _ (QJD k)).trans (IntWalk.i64_in _ ⟨by unfold parN; omega, by unfold parN; omega⟩))) rfl ?_
 refine EL.as rfl rfl (EL.nil (EX.seq (EC.seq (EC.seq (EC.region (EL.mv rfl rfl (EL.mv rfl rfl ?_)))))))
 by_cases hk0 : k = 0
 ·
  refine EL.val (Zx (r := true) rfl rfl (decide_eq_true (by unfold parN; omega))) rfl ?_
  refine EL.mv rfl rfl (EL.skip rfl rfl rfl rfl (EL.skip rfl rfl rfl rfl (EL.skip rfl rfl rfl rfl (EL.skip rfl rfl rfl rfl (EL.skip rfl rfl rfl rfl (EL.pt rfl rfl rfl (EL.nil (EX.seq (EC.yes rfl ?_)))))))));refine EC.exit (EX.seq_exit (EX.blk_other rfl (EX.seq_exit (EX.blk_here ?_))))
  exact EX.done' (res0 rfl) ⟨rfl, qs, hpm, hui.done (.inl hk0), hP, hts⟩
 ·
  refine EL.val (Zx (r := false) rfl rfl (decide_eq_false (by unfold parN; omega))) rfl ?_
  refine EL.mv rfl rfl (EL.mg rfl rfl rfl rfl (EL.mg rfl rfl rfl rfl (EL.mg rfl rfl rfl rfl ?_)))
  by_cases hl : cmpD (gD qs k) (gD qs (parN k)) < 0
  ·
   refine EL.callg rfl rfl (Yh rfl rfl rfl (hP.box.at (j := 0) rfl)) rfl (QAg hP (show k < qs.length by omega) (show parN k < qs.length by unfold parN; omega) (hplq) (decide_eq_true hl)) ?_
   rintro e w1 ⟨rfl, hc1⟩
   refine ⟨_, rfl, ?_⟩;replace hP := hP.below hc1;replace hts := hts.more hc1;clear hc1;refine EL.valg rfl rfl (ZX rfl) rfl (EL.pf rfl rfl rfl (EL.nil (EX.seq (EC.no rfl (EC.skip (EX.seq (EC.seq (EC.region (EL.mv rfl rfl ?_)))))))));refine EL.mv rfl rfl (EL.mv rfl rfl ?_);refine EL.call (QBX rfl rfl rfl (hP.box.at (j := 0) rfl)) rfl (QBK hP (show parN k < qs.length by unfold parN; omega) (show k < qs.length by omega)) ?_
   rintro e w2 ⟨rfl, hP2, ht2⟩
   refine ⟨_, rfl, ?_⟩;replace hts := hts.trans ht2;clear hP ht2;have hP := hP2;clear hP2;refine EL.nil (EX.seq (EC.region (EL.mv rfl rfl (EL.as rfl rfl (EL.nil (EX.blk ?_))))));refine EX.roundD (swL qs (parN k) k vd0, parN k) ⟨rfl, trivial⟩ (by repeat first | with_reducible exact .refl _ | refine sp_ rfl ?_ | exact .refl _ | refine sd_ rfl ?_ | refine sn_ ?_) ⟨(QAP vd0 (by unfold parN; omega) (by omega)).trans hpm, (QGf (show parN k < qs.length by unfold parN; omega) (show k < qs.length by omega)) ▸ hui.step (by omega) hk (QCj hl), (show parN k < ps.length by unfold parN; omega), hP, hts⟩ (show parN k < k by unfold parN; omega)
  ·
   refine EL.callg rfl rfl (Yh rfl rfl rfl (hP.box.at (j := 0) rfl)) rfl (QAg hP (show k < qs.length by omega) (show parN k < qs.length by unfold parN; omega) (hplq) (decide_eq_false hl)) ?_
   rintro e w3 ⟨rfl, hc3⟩
   refine ⟨_, rfl, ?_⟩;replace hP := hP.below hc3;replace hts := hts.more hc3;clear hc3;refine EL.valg rfl rfl (ZX rfl) rfl (EL.pf rfl rfl rfl (EL.nil (EX.seq (EC.yes rfl (EC.exit (EX.seq_exit (EX.blk_other rfl (EX.seq_exit (EX.blk_here ?_)))))))))
   exact EX.done' (res0 rfl) ⟨rfl, qs, hpm, hui.done (.inr (QBS hl)), hP, hts⟩
theorem QKH {p : Nat → Prop} {w : World} {base bp m : Nat} {sl : Value} {ps : List VD} (h : PileAt p w base bp sl ps) (hu : DnI m (gD ps) 0) (hm : m ≤ ps.length) (hn : ps.length ≤ 1048576) (hpl : ∀ x ∈ ps, x.2.plan.length ≤ 1000000) :
  Calls Try.prog 80 #[.iface 147 (.pointer (some ⟨bp, 0, none⟩)), .int .i64 0, .int .i64 (m : Nat)] w fun e w' => ∃ b, e = .returned (.bool b) ∧ ∃ ps', ps'.Perm ps ∧ YN m (gD ps') ∧ (∀ j, m ≤ j → ps'.getD j vd0 = ps.getD j vd0) ∧ PileAt p w' base bp sl ps' ∧ TurnsS p [145, 122] w w' := by
 refine EC.enter 48 Try.func80 rfl rfl rfl (EC.seq (EC.region (EL.as rfl rfl (EL.nil (EX.seq (EC.seq (EC.region (EL.mv rfl rfl (EL.as rfl rfl ?_)))))))));refine EL.nil (EX.seq (EC.seq (EC.block ?_)));refine EC.loopD [7, 8, 9, 10, 12, 13, 14, 15, 16, 17, 18, 19, 20, 21, 22, 23, 24, 25, 26, 27, 28, 29, 30, 31, 32, 33, 34, 35, 36, 37, 38, 39, 40, 41, 42, 43, 44] (fun i : List VD × Nat => [(7, .int .i64 (i.2 : Nat))]) (fun i W => i.1.Perm ps ∧ DnI m (gD i.1) i.2 ∧ i.2 ≤ m ∧ (∀ j, m ≤ j → i.1.getD j vd0 = ps.getD j vd0) ∧ PileAt p W base bp sl i.1 ∧ TurnsS p [145, 122] w W) (fun i => m - i.2) (ps, 0) ⟨.refl _, hu, Nat.zero_le _, fun _ _ => rfl, h, .refl⟩ ⟨rfl, trivial⟩ ?_
 rintro ⟨qs, k⟩ W ⟨hpm, hui, hk, hkp, hP, hts⟩
 dsimp only at hpm hui hk hkp hP hts
 have hql := hpm.length_eq;have hplq : ∀ x ∈ qs, x.2.plan.length ≤ 1000000 := fun x hx => hpl x (hpm.mem_iff.1 hx)
 refine EC.block (EC.seq (EC.region (EL.mv rfl rfl ?_)));refine EL.val (QAY rfl rfl (by first | assumption | exact IntWalk.i64_in _ ⟨by omega, by omega⟩)) rfl ?_
 refine EL.val (x_add rfl rfl (c := ((2 * k + 1) : Nat)) ((IntWalk.i64_in _ ⟨by omega, by omega⟩).trans (by omega))) rfl ?_
 refine EL.as rfl rfl (EL.nil (EX.seq (EC.seq (EC.seq (EC.region (EL.mv rfl rfl (EL.mv rfl rfl ?_)))))))
 by_cases hm1 : m ≤ 2 * k + 1
 ·
  refine EL.val (QDA (r := true) rfl rfl (decide_eq_true (by omega))) rfl ?_
  refine EL.mv rfl rfl (EL.skip rfl rfl rfl rfl (EL.skip rfl rfl rfl rfl (EL.pt rfl rfl rfl (EL.nil (EX.seq (EC.yes rfl (EC.exit (EX.seq_exit (EX.blk_other rfl ?_)))))))));refine EX.seq_exit (EX.blk_here (EX.seq (EC.seq (EC.region (EL.mv rfl rfl (EL.mv rfl rfl (EL.val (Zw rfl rfl rfl) rfl (EL.as rfl rfl (EL.nil ?_)))))))));refine EX.seq (EC.ret ?_)
  exact EX.done (res1 rfl rfl) ⟨_, rfl, qs, hpm, hui.fin1 hm1, hkp, hP, hts⟩
 ·
  refine EL.val (QDA (r := false) rfl rfl (decide_eq_false (by omega))) rfl ?_
  refine EL.mv rfl rfl (EL.mg rfl rfl rfl rfl ?_);refine EL.valg rfl rfl (ZO (r := false) rfl rfl (decide_eq_false (by omega))) rfl ?_
  refine EL.pf rfl rfl rfl (EL.nil (EX.seq (EC.no rfl (EC.skip (EX.seq (EC.seq (EC.region (EL.mv rfl rfl (EL.as rfl rfl ?_)))))))));refine EL.nil (EX.seq (EC.seq (EC.seq (EC.region (EL.mv rfl rfl ?_)))));refine EL.val (x_add rfl rfl (c := ((2 * k + 1 + 1) : Nat)) ((IntWalk.i64_in _ ⟨by omega, by omega⟩).trans (by omega))) rfl ?_
  refine EL.as rfl rfl (EL.nil (EX.seq (EC.seq (EC.region (EL.mv rfl rfl (EL.mv rfl rfl ?_))))))
  by_cases hm2 : 2 * k + 1 + 1 < m
  ·
   refine EL.val (ZO (r := true) rfl rfl (decide_eq_true (by omega))) rfl ?_
   refine EL.mv rfl rfl (EL.mg rfl rfl rfl rfl (EL.mg rfl rfl rfl rfl (EL.mg rfl rfl rfl rfl ?_)))
   by_cases hl2 : cmpD (gD qs (2 * k + 1 + 1)) (gD qs (2 * k + 1)) < 0
   ·
    refine EL.callg rfl rfl (Yh rfl rfl rfl (hP.box.at (j := 0) rfl)) rfl (QAg hP (show (2 * k + 1 + 1) < qs.length by omega) (show (2 * k + 1) < qs.length by omega) (hplq) (decide_eq_true hl2)) ?_
    rintro e w1 ⟨rfl, hc1⟩
    refine ⟨_, rfl, ?_⟩;replace hP := hP.below hc1;replace hts := hts.more hc1;clear hc1;refine EL.pt rfl rfl rfl (EL.nil (EX.seq (EC.yes rfl (EC.region (EL.mv rfl rfl (EL.as rfl rfl (EL.nil (EX.seq (EC.seq ?_)))))))));refine EC.seq (EC.region (EL.mv rfl rfl (EL.mv rfl rfl (EL.mv rfl rfl ?_))))
    by_cases hl : cmpD (gD qs (2 * k + 1 + 1)) (gD qs k) < 0
    ·
     refine EL.call (Yh rfl rfl rfl (hP.box.at (j := 0) rfl)) rfl (QAg hP (show (2 * k + 1 + 1) < qs.length by omega) (show k < qs.length by omega) (hplq) (decide_eq_true hl)) ?_
     rintro e w2 ⟨rfl, hc2⟩
     refine ⟨_, rfl, ?_⟩;replace hP := hP.below hc2;replace hts := hts.more hc2;clear hc2;refine EL.val (ZX rfl) rfl (EL.nil (EX.seq (EC.no rfl (EC.skip (EX.seq (EC.seq (EC.region (EL.mv rfl rfl (EL.mv rfl rfl ?_)))))))));refine EL.mv rfl rfl ?_;refine EL.call (QBX rfl rfl rfl (hP.box.at (j := 0) rfl)) rfl (QBK hP (show k < qs.length by omega) (show (2 * k + 1 + 1) < qs.length by omega)) ?_
     rintro e w3 ⟨rfl, hP2, ht2⟩
     refine ⟨_, rfl, ?_⟩;replace hts := hts.trans ht2;clear hP ht2;have hP := hP2;clear hP2;refine EL.nil (EX.seq (EC.region (EL.mv rfl rfl (EL.as rfl rfl (EL.nil (EX.blk ?_))))));refine EX.roundD (swL qs k (2 * k + 1 + 1) vd0, (2 * k + 1 + 1)) ⟨rfl, trivial⟩ (by repeat first | with_reducible exact .refl _ | refine sp_ rfl ?_ | exact .refl _ | refine sd_ rfl ?_ | refine sn_ ?_) ⟨(QAP vd0 (by omega) (by omega)).trans hpm, (QGf (show k < qs.length by omega) (show (2 * k + 1 + 1) < qs.length by omega)) ▸ hui.step (show 0 < (2 * k + 1 + 1) by omega) (show (2 * k + 1 + 1) < m by omega) QMz (QCj hl) (QEw hl2), (show (2 * k + 1 + 1) ≤ m by omega), fun i hi => (QDs (by omega) (by omega) (by omega) (by omega)).trans (hkp i hi), hP, hts⟩ (show m - (2 * k + 1 + 1) < m - k by omega)
    ·
     refine EL.call (Yh rfl rfl rfl (hP.box.at (j := 0) rfl)) rfl (QAg hP (show (2 * k + 1 + 1) < qs.length by omega) (show k < qs.length by omega) (hplq) (decide_eq_false hl)) ?_
     rintro e w4 ⟨rfl, hc4⟩
     refine ⟨_, rfl, ?_⟩;replace hP := hP.below hc4;replace hts := hts.more hc4;clear hc4;refine EL.val (ZX rfl) rfl (EL.nil (EX.seq (EC.yes rfl (EC.exit (EX.seq_exit (EX.blk_other rfl (EX.seq_exit (EX.blk_here (EX.seq ?_)))))))));refine EC.seq (EC.region (EL.mv rfl rfl (EL.mv rfl rfl (EL.val (Zw rfl rfl rfl) rfl (EL.as rfl rfl (EL.nil (EX.seq (EC.ret ?_))))))))
     exact EX.done (res1 rfl rfl) ⟨_, rfl, qs, hpm, hui.fin (QEw hl2) (QBS hl), hkp, hP, hts⟩
   ·
    refine EL.callg rfl rfl (Yh rfl rfl rfl (hP.box.at (j := 0) rfl)) rfl (QAg hP (show (2 * k + 1 + 1) < qs.length by omega) (show (2 * k + 1) < qs.length by omega) (hplq) (decide_eq_false hl2)) ?_
    rintro e w5 ⟨rfl, hc5⟩
    refine ⟨_, rfl, ?_⟩;replace hP := hP.below hc5;replace hts := hts.more hc5;clear hc5;refine EL.pt rfl rfl rfl (EL.nil (EX.seq (EC.no rfl (EC.skip (EX.seq (EC.seq (EC.seq (EC.region (EL.mv rfl rfl ?_)))))))));refine EL.mv rfl rfl (EL.mv rfl rfl ?_)
    by_cases hl : cmpD (gD qs (2 * k + 1)) (gD qs k) < 0
    ·
     refine EL.call (Yh rfl rfl rfl (hP.box.at (j := 0) rfl)) rfl (QAg hP (show (2 * k + 1) < qs.length by omega) (show k < qs.length by omega) (hplq) (decide_eq_true hl)) ?_
     rintro e w6 ⟨rfl, hc6⟩
     refine ⟨_, rfl, ?_⟩;replace hP := hP.below hc6;replace hts := hts.more hc6;clear hc6;refine EL.val (ZX rfl) rfl (EL.nil (EX.seq (EC.no rfl (EC.skip (EX.seq (EC.seq (EC.region (EL.mv rfl rfl (EL.mv rfl rfl ?_)))))))));refine EL.mv rfl rfl ?_;refine EL.call (QBX rfl rfl rfl (hP.box.at (j := 0) rfl)) rfl (QBK hP (show k < qs.length by omega) (show (2 * k + 1) < qs.length by omega)) ?_
     rintro e w7 ⟨rfl, hP2, ht2⟩
     refine ⟨_, rfl, ?_⟩;replace hts := hts.trans ht2;clear hP ht2;have hP := hP2;clear hP2;refine EL.nil (EX.seq (EC.region (EL.mv rfl rfl (EL.as rfl rfl (EL.nil (EX.blk ?_))))));refine EX.roundD (swL qs k (2 * k + 1) vd0, (2 * k + 1)) ⟨rfl, trivial⟩ (by repeat first | with_reducible exact .refl _ | refine sp_ rfl ?_ | exact .refl _ | refine sd_ rfl ?_ | refine sn_ ?_) ⟨(QAP vd0 (by omega) (by omega)).trans hpm, (QGf (show k < qs.length by omega) (show (2 * k + 1) < qs.length by omega)) ▸ hui.step (show 0 < (2 * k + 1) by omega) (show (2 * k + 1) < m by omega) QLw (QCj hl) (QGW hl2), (show (2 * k + 1) ≤ m by omega), fun i hi => (QDs (by omega) (by omega) (by omega) (by omega)).trans (hkp i hi), hP, hts⟩ (show m - (2 * k + 1) < m - k by omega)
    ·
     refine EL.call (Yh rfl rfl rfl (hP.box.at (j := 0) rfl)) rfl (QAg hP (show (2 * k + 1) < qs.length by omega) (show k < qs.length by omega) (hplq) (decide_eq_false hl)) ?_
     rintro e w8 ⟨rfl, hc8⟩
     refine ⟨_, rfl, ?_⟩;replace hP := hP.below hc8;replace hts := hts.more hc8;clear hc8;refine EL.val (ZX rfl) rfl (EL.nil (EX.seq (EC.yes rfl (EC.exit (EX.seq_exit (EX.blk_other rfl (EX.seq_exit (EX.blk_here (EX.seq ?_)))))))));refine EC.seq (EC.region (EL.mv rfl rfl (EL.mv rfl rfl (EL.val (Zw rfl rfl rfl) rfl (EL.as rfl rfl (EL.nil (EX.seq (EC.ret ?_))))))))
     exact EX.done (res1 rfl rfl) ⟨_, rfl, qs, hpm, hui.fin (QGW hl2) (QBS hl), hkp, hP, hts⟩
  ·
   refine EL.val (ZO (r := false) rfl rfl (decide_eq_false (by omega))) rfl ?_
   refine EL.mv rfl rfl (EL.skip rfl rfl rfl rfl (EL.skip rfl rfl rfl rfl (EL.skip rfl rfl rfl rfl (EL.skip rfl rfl rfl rfl (EL.pf rfl rfl rfl (EL.nil (EX.seq (EC.no rfl (EC.skip ?_)))))))));refine EX.seq (EC.seq (EC.seq (EC.region (EL.mv rfl rfl (EL.mv rfl rfl (EL.mv rfl rfl ?_))))))
   by_cases hl : cmpD (gD qs (2 * k + 1)) (gD qs k) < 0
   ·
    refine EL.call (Yh rfl rfl rfl (hP.box.at (j := 0) rfl)) rfl (QAg hP (show (2 * k + 1) < qs.length by omega) (show k < qs.length by omega) (hplq) (decide_eq_true hl)) ?_
    rintro e w9 ⟨rfl, hc9⟩
    refine ⟨_, rfl, ?_⟩;replace hP := hP.below hc9;replace hts := hts.more hc9;clear hc9;refine EL.val (ZX rfl) rfl (EL.nil (EX.seq (EC.no rfl (EC.skip (EX.seq (EC.seq (EC.region (EL.mv rfl rfl (EL.mv rfl rfl ?_)))))))));refine EL.mv rfl rfl ?_;refine EL.call (QBX rfl rfl rfl (hP.box.at (j := 0) rfl)) rfl (QBK hP (show k < qs.length by omega) (show (2 * k + 1) < qs.length by omega)) ?_
    rintro e w10 ⟨rfl, hP2, ht2⟩
    refine ⟨_, rfl, ?_⟩;replace hts := hts.trans ht2;clear hP ht2;have hP := hP2;clear hP2;refine EL.nil (EX.seq (EC.region (EL.mv rfl rfl (EL.as rfl rfl (EL.nil (EX.blk ?_))))));refine EX.roundD (swL qs k (2 * k + 1) vd0, (2 * k + 1)) ⟨rfl, trivial⟩ (by repeat first | with_reducible exact .refl _ | refine sp_ rfl ?_ | exact .refl _ | refine sd_ rfl ?_ | refine sn_ ?_) ⟨(QAP vd0 (by omega) (by omega)).trans hpm, (QGf (show k < qs.length by omega) (show (2 * k + 1) < qs.length by omega)) ▸ hui.step (show 0 < (2 * k + 1) by omega) (show (2 * k + 1) < m by omega) QLw (QCj hl) (QHs (by omega)), (show (2 * k + 1) ≤ m by omega), fun i hi => (QDs (by omega) (by omega) (by omega) (by omega)).trans (hkp i hi), hP, hts⟩ (show m - (2 * k + 1) < m - k by omega)
   ·
    refine EL.call (Yh rfl rfl rfl (hP.box.at (j := 0) rfl)) rfl (QAg hP (show (2 * k + 1) < qs.length by omega) (show k < qs.length by omega) (hplq) (decide_eq_false hl)) ?_
    rintro e w11 ⟨rfl, hc11⟩
    refine ⟨_, rfl, ?_⟩;replace hP := hP.below hc11;replace hts := hts.more hc11;clear hc11;refine EL.val (ZX rfl) rfl (EL.nil (EX.seq (EC.yes rfl (EC.exit (EX.seq_exit (EX.blk_other rfl (EX.seq_exit (EX.blk_here (EX.seq ?_)))))))));refine EC.seq (EC.region (EL.mv rfl rfl (EL.mv rfl rfl (EL.val (Zw rfl rfl rfl) rfl (EL.as rfl rfl (EL.nil (EX.seq (EC.ret ?_))))))))
    exact EX.done (res1 rfl rfl) ⟨_, rfl, qs, hpm, hui.fin (QHs (by omega)) (QBS hl), hkp, hP, hts⟩
theorem QE3 {p : Nat → Prop} {w : World} {base bp : Nat} {sl v : Value} {ps : List VD} {d : Dr} (h : PileAt p w base bp sl ps) (hh : YN ps.length (gD ps)) (hd : OwnDr w base v d) (hbs : base ≤ w.heap.size) (hpn : ∀ g, w.heap.size ≤ g → p g) (hlen : ps.length + 1 ≤ 1048576) (hpl : ∀ x ∈ ps ++ [(v, d)], x.2.plan.length ≤ 1000000) :
  Calls Try.prog 65 #[.iface 147 (.pointer (some ⟨bp, 0, none⟩)), .iface 122 v] w fun e w' => e = .returned (.tuple #[]) ∧ ∃ sl' ps', ps'.Perm (ps ++ [(v, d)]) ∧ YN ps'.length (gD ps') ∧ PileAt p w' base bp sl' ps' ∧ TurnsS p [145, 122] w w' := by
 refine EC.enter 12 Try.func65 rfl rfl rfl (EC.seq (EC.region (EL.mv rfl rfl (EL.mv rfl rfl (EL.call (QJ4 rfl rfl) rfl (QJV h hd hbs hpn hlen) ?_)))))
 rintro e w1 ⟨rfl, sl2, hP, hts⟩
 refine ⟨_, rfl, ?_⟩;have hl1 : (ps ++ [(v, d)]).length = ps.length + 1 := by simp
 obtain ⟨A2, c2, rfl, _⟩ := (Rd.of_own hP.row).shape;refine EL.nil (EX.seq (EC.region (EL.mv rfl rfl (EL.mv rfl rfl (EL.call (QH4 rfl (hP.box.at (j := 0) rfl)) rfl (QH0 _ _ _ _) ?_)))))
 rintro e w1 ⟨rfl, hc1⟩
 refine ⟨_, rfl, ?_⟩;replace hP := hP.below hc1;replace hts := hts.more hc1;clear hc1;refine EL.val (Z_ rfl rfl (c := ((ps.length : Nat) : Int)) ((IntWalk.i64_in _ ⟨by omega, by omega⟩).trans (by omega))) rfl ?_
 refine EL.call (cA2 cF83 rfl rfl) rfl (QMC hP (by rw [hl1]; exact UpI.start (hh.congr fun k hk => QMi hk)) (by omega) (by omega) hpl) ?_
 rintro e w9 ⟨rfl, qs, hpm, hhq, hP9, ht9⟩
 refine ⟨_, rfl, ?_⟩;refine EL.nil ?_
 exact EX.done' (res0 rfl) ⟨rfl, _, qs, hpm, by rw [hpm.length_eq]; exact hhq, hP9, hts.trans ht9⟩
theorem QKC {p : Nat → Prop} {w : World} {base bp m : Nat} {sl : Value} {ps : List VD} (hP : PileAt p w base bp sl ps) (hh : YN ps.length (gD ps)) (hm : ps.length = m + 1) (hlen : ps.length ≤ 1048576) (hpl : ∀ x ∈ ps, x.2.plan.length ≤ 1000000) :
  Calls Try.prog 62 #[.iface 147 (.pointer (some ⟨bp, 0, none⟩))] w fun e w' => ∃ (x : VD) (sl' : Value) (rest : List VD), e = .returned (.iface 122 x.1) ∧ ps.Perm (x :: rest) ∧ (∀ y ∈ ps, leD x.2 y.2) ∧ YN rest.length (gD rest) ∧ PileAt p w' base bp sl' rest ∧ OwnDr w' base x.1 x.2 ∧ TurnsS p [145, 122] w w' := by
 have hts : TurnsS p [145, 122] w w := .refl;obtain ⟨A2, c2, rfl, _⟩ := (Rd.of_own hP.row).shape;refine EC.enter 15 Try.func62 rfl rfl rfl (EC.seq (EC.region (EL.as rfl rfl (EL.nil (EX.seq (EC.seq (EC.region (EL.mv rfl rfl (EL.call (QH4 rfl (hP.box.at (j := 0) rfl)) rfl (QH0 _ _ _ _) ?_)))))))))
 rintro e w1 ⟨rfl, hc1⟩
 refine ⟨_, rfl, ?_⟩;replace hP := hP.below hc1;replace hts := hts.more hc1;clear hc1;refine EL.val (Z_ rfl rfl (c := ((m : Nat) : Int)) ((IntWalk.i64_in _ ⟨by omega, by omega⟩).trans (by omega))) rfl ?_
 refine EL.as rfl rfl (EL.nil (EX.seq (EC.seq (EC.region (EL.mv rfl rfl (EL.mv rfl rfl ?_))))));refine EL.call (QBX rfl rfl rfl (hP.box.at (j := 0) rfl)) rfl (QBK hP (show 0 < ps.length by omega) (show m < ps.length by omega)) ?_
 rintro e w2 ⟨rfl, hP2, ht2⟩
 refine ⟨_, rfl, ?_⟩;replace hts := hts.trans ht2;clear hP ht2;have hP := hP2;clear hP2;refine EL.nil (EX.seq (EC.seq (EC.region (EL.mv rfl rfl (EL.mv rfl rfl ?_)))));refine EL.call (cA3 cF80 rfl rfl rfl) rfl (QKH hP (QKI hm hh) (by rw [swL_len]; omega) (by rw [swL_len]; omega) (fun x hx => hpl x ((QAP (i := 0) (j := m) vd0 (by omega) (by omega)).mem_iff.1 hx))) ?_
 rintro e w8 ⟨b8, rfl, qs, hpm, hhq, hk8, hP8, ht8⟩
 refine ⟨_, rfl, ?_⟩;replace hts := hts.trans ht8;obtain ⟨eqs, hp8, hh8⟩ := QIb hm hpm ((hk8 m (Nat.le_refl _)).trans (QKm hm)) hhq;rw [eqs] at hP8;have hln : (qs.take m).length = m := by have hq8 := hpm.length_eq; rw [swL_len] at hq8; rw [List.length_take]; omega
 refine EL.nil (EX.seq (EC.seq (EC.region (EL.mv rfl rfl ?_))));refine EL.call (QLJ rfl) rfl (QKz hP8 (by omega)) ?_
 rintro e w9 ⟨rfl, sl9, hP9, ht9, hd9⟩
 refine ⟨_, rfl, ?_⟩;refine EL.as rfl rfl (EL.nil (EX.seq (EC.ret ?_)))
 exact EX.done (res1 rfl rfl) ⟨ps.getD 0 vd0, _, _, rfl, hp8, QKD hh, hh8, hP9, hd9, hts.trans ht9⟩
section
variable {n : Nat} {σ : Sg} {w : World} {dst : Option Tmp} {ty : TypeId} {pos : String} {af : Array Edge} {g : Option (Nat × Bool)} {x y z : Operand} {at' : Array TypeId}
theorem QNM {v0 : Value} (hx : evS σ x = some (v0)) (h1 : v0.oneCell' = true) (a : Act) (ha : Env n σ a) : (execOp a.eval ⟨dst, .box 24 x, ty, pos, af, g⟩).run Try.prog w = .ok (.value (.pointer (some ⟨w.heap.size, 0, none⟩))) (w.alloc (.cells #[v0] 24)) := by
 simp only [execOp, ha.eval hx]
 cases v0 <;> first | (simp [Value.oneCell'] at h1; done) | simp [go_sem, Value.cells]
theorem QIj {x0 x1 : Operand} {v0 v1 : Value} (h0 : evS σ x0 = some v0) (h1 : evS σ x1 = some v1) : ZI Try.prog n σ w ⟨dst, .makeFunc (.func 61) #[] #[x0, x1], ty, pos, af, g⟩ (.func (.func 61) #[] #[v0, v1]) := fun a ha => by
 simp only [execOp, List.map_toArray, List.map_cons, List.map_nil, ha.eval h0, ha.eval h1]
 simp [go_sem]
theorem cF55 : cF 55 := fun _ _ => by simp [go_sem]
theorem QLk    : ZI Try.prog n σ w ⟨dst, .build 124 #[], ty, pos, af, g⟩ (.agg #[.int .i64 0, .int .i64 0, .int .i64 0, .int .i64 0, .int .i64 0, .bool false, .int .i64 0, .int .i64 0, .int .i64 0, .int .i64 0, .int .i64 0, .int .i64 0, .int .i64 0, .int .i64 0, .int .i64 0, .slice none 0 0]) := fun a _ => by
 simp only [execOp, List.map_toArray, List.map_nil]
 go_simp
theorem QJI : (Try.prog.info? 23).map (·.size) = some 6 := by kernel_rfl
theorem QHO (a : Act) (_ : Env n σ a) : (execOp a.eval ⟨dst, .alloc 145, ty, pos, af, g⟩).run Try.prog w = .ok (.value (.pointer (some ⟨w.heap.size, 0, none⟩))) (w.alloc (.cells #[.slice none 0 0] 145)) := by
 simp only [execOp]
 simp [go_sem]
theorem cF63 : cF 63 := fun _ _ => by simp [go_sem]
theorem cF62 : cF 62 := fun _ _ => by simp [go_sem]
theorem cF64 : cF 64 := fun _ _ => by simp [go_sem]
theorem cF65 : cF 65 := fun _ _ => by simp [go_sem]
end
theorem QGK {l : LK} {A : Option Addr} {n c : Nat} (w : World) : Calls Try.prog 46 #[.agg #[.int .i64 l.length, .int .i64 l.cycle, .int .i64 l.turn, .int .i64 l.fill, .int .i64 l.save, .bool l.high], .slice A n c] w fun e w' => (∃ g2 g3, e = .returned (.func (.func 61) #[] #[.pointer (some ⟨g3, 0, none⟩), .pointer (some ⟨g2, 0, none⟩)]) ∧ Blk w' g2 23 (lkC l).toArray ∧ Blk w' g3 24 #[.slice A n c] ∧ w.heap.size ≤ g2 ∧ w.heap.size ≤ g3) ∧ Below w.heap.size w w' := by
 have hbw := Below.refl w.heap.size w;refine EC.enter 6 Try.func46 rfl rfl rfl (EC.seq (EC.region (EL.newP (QDN rfl) rfl ?_)));intro g1 w1 q1 hb1 hg1 hl1;have bhbw_1 := Nat.le_trans hbw.size hg1;replace hbw := bo_ hbw hb1;clear hb1 hg1 hl1;refine EL.newP (QNM rfl rfl) rfl ?_;intro g2 w2 q2 hb2 hg2 hl2;have n1_2 := q1.na hg2;have bhbw_2 := Nat.le_trans hbw.size hg2;replace q1 := q1.bl hb2;replace hbw := bo_ hbw hb2;clear hb2 hg2 hl2;refine EL.as rfl rfl (EL.nil (EX.seq (EC.seq (EC.region (EL.val (QIj rfl rfl) rfl (EL.as rfl rfl (EL.nil (EX.seq (EC.ret ?_)))))))))
 exact EX.done (res1 rfl rfl) ⟨⟨_, _, rfl, q1, q2, bhbw_1, bhbw_2⟩, hbw⟩
theorem QEL {q : QS} {d : Dr} {v : Value} {w : World} {B : Nat} {A0 A1 : Option Addr} {c0 c1 : Nat} {b : Bool} (hd : RdDr w B v d) (hB : B ≤ w.heap.size) (hb : Yx q d.s = b) :
  Calls Try.prog 63 #[v, .agg #[.slice A0 (q false).length c0, .slice A1 (q true).length c1]] w fun e w' => e = .returned (.bool b) ∧ Below w.heap.size w w' := hb ▸ QFm hd hB
theorem QKE {x : VD} : YN [x].length (gD [x]) := fun k h0 hk => by
 have : k < 1 := hk
 omega
set_option maxHeartbeats 2000000 in
set_option maxRecDepth 100000 in
theorem QD3 {l : LK} {ts : List TW} {q : QS} {At : Option Addr} {ct B n0 g2 g3 : Nat} {S : List Nat} {w : World} (hqe : q = qL ts) (hqk : QOk l q) (hn8 : ts.length ≤ 8) (h2 : Blk w g2 23 (lkC l).toArray) (h3 : Blk w g3 24 #[.slice At ts.length ct]) (hr0 : Rd w B 5 (.slice At ts.length ct) ts.length (twsC ts)) (hB0 : B ≤ w.heap.size) (hn0 : n0 ≤ w.heap.size) :
  QDo (fun l_ => Zu (l_ + 1)) [145, 122] Try.prog 61 #[.pointer (some ⟨g3, 0, none⟩), .pointer (some ⟨g2, 0, none⟩)] (fun x V => okP l q w.heap.size x V) n0 S (allE (allD l q).length) w := by
 intro la J Jx W hbW hla hla2 hJ hJx hY hJ0;change Calls Try.prog 61 #[.func (.yield la) #[] #[], .pointer (some ⟨g3, 0, none⟩), .pointer (some ⟨g2, 0, none⟩)] W _;have hlaW : la + 1 ≤ W.heap.size := hla2;have hn0W : n0 ≤ W.heap.size := Nat.le_trans hn0 hbW.size;have hB : B ≤ W.heap.size := Nat.le_trans hB0 hbW.size;have hr := hr0.below (hbW.mono hB0);have qc2 := h2.below hbW h2.lt;have qc3 := h3.below hbW h3.lt;have hbw := Below.refl W.heap.size W;replace hY : ∀ pre x W1, okP l q W.heap.size x W1 → J pre W1 → (pre ++ [x]).map (·.1) <+: allE (allD l q).length → QKc Try.prog la #[x.2] W1 (QFA (fun l_ => Zu (l_ + 1)) n0 S la J Jx (pre ++ [x]) W1) := fun pre x W1 h => hY pre x W1 (OwnDr.mono h hbW.size)
 refine EC.marks 45 Try.func61 rfl rfl rfl (ECI.seq (ECI.regionLD (EL.val (QAI rfl (qc3.at (j := 0) rfl)) rfl (EL.call (cA1 cF55 rfl) rfl (QGU (hr.below (hbw.mono hB)) (Nat.le_trans hB hbw.size) hn8) ?_))))
 rintro e w3 ⟨s0, s1, rfl, hq0, hq1, hc3⟩
 refine ⟨_, rfl, ?_⟩;rw [← hqe] at hq0 hq1;replace hq0 := YI hq0 hbw.size;replace hq1 := YI hq1 hbw.size;obtain ⟨A0, c0, rfl, _⟩ := (Rd.of_own hq0).shape;obtain ⟨A1, c1, rfl, _⟩ := (Rd.of_own hq1).shape;replace qc3 := qc3.bl hc3;replace qc2 := qc2.bl hc3;replace hbw := bo_ hbw hc3;clear hc3;refine EL.newP QHP rfl ?_;intro g4 w4 q4 hb4 hg4 hl4;have n2_4 := qc3.na hg4;have n1_4 := qc2.na hg4;have bhbw_4 := Nat.le_trans hbw.size hg4;replace qc3 := qc3.bl hb4;replace qc2 := qc2.bl hb4;replace hq0 := ZB hq0 hb4 (Nat.le_refl _);replace hq1 := ZB hq1 hb4 (Nat.le_refl _);replace hbw := bo_ hbw hb4;clear hb4 hg4 hl4;refine EL.store rfl rfl q4 QGy rfl rfl rfl rfl ?_;intro w5 hq5 hg5;replace qc3 := qc3.gr hg5 n2_4;replace qc2 := qc2.gr hg5 n1_4;replace hq0 := ZG hq0 q4 rfl hg5;replace hq1 := ZG hq1 q4 rfl hg5;replace hbw := ZE hbw hg5 bhbw_4;replace q4 := hq5;clear hg5 hq5;refine EL.nil (EX.ofD (EXI.seq (ECI.seq (ECI.regionLD (EL.val (QLk) rfl (EL.newP (QHI rfl) rfl ?_))))));intro g6 w6 q6 hb6 hg6 hl6;have n2_6 := qc3.na hg6;have n1_6 := qc2.na hg6;have n4_6 := q4.na hg6;have bhbw_6 := Nat.le_trans hbw.size hg6;replace qc3 := qc3.bl hb6;replace qc2 := qc2.bl hb6;replace q4 := q4.bl hb6;replace hq0 := ZB hq0 hb6 (Nat.le_refl _);replace hq1 := ZB hq1 hb6 (Nat.le_refl _);replace hbw := bo_ hbw hb6;clear hb6 hg6 hl6;refine EL.as rfl rfl (EL.nil (EX.ofD (EXI.seq (ECI.seq (ECI.regionLD (EL.mv rfl rfl (EL.val (QB2 rfl (qc2.at (j := 0) rfl) (qc2.at (j := 1) rfl) (qc2.at (j := 2) rfl) (qc2.at (j := 3) rfl) (qc2.at (j := 4) rfl) (qc2.at (j := 5) rfl)) rfl (EL.val (ZH rfl) rfl (EL.val (Ze rfl) rfl ?_)))))))));refine EL.val (ZN rfl) rfl (EL.val (ZV rfl) rfl (EL.store rfl rfl q6 QJI rfl rfl rfl rfl ?_));intro w7 hq7 hg7;replace qc3 := qc3.gr hg7 n2_6;replace qc2 := qc2.gr hg7 n1_6;replace q4 := q4.gr hg7 n4_6;replace hq0 := ZG hq0 q6 rfl hg7;replace hq1 := ZG hq1 q6 rfl hg7;replace hbw := ZE hbw hg7 bhbw_6;replace q6 := hq7;clear hg7 hq7;refine EL.nil (EX.ofD (EXI.seq (ECI.seq (ECI.regionLD (EL.mv rfl rfl (EL.newS (QGp rfl) rfl ?_))))));intro g8 w8 q8 hb8 hg8 hl8;have n2_8 := qc3.na hg8;have n1_8 := qc2.na hg8;have n4_8 := q4.na hg8;have n6_8 := q6.na hg8;have bhbw_8 := Nat.le_trans hbw.size hg8;replace qc3 := qc3.bl hb8;replace qc2 := qc2.bl hb8;replace q4 := q4.bl hb8;replace q6 := q6.bl hb8;replace hq0 := ZB hq0 hb8 (Nat.le_refl _);replace hq1 := ZB hq1 hb8 (Nat.le_refl _);replace hbw := bo_ hbw hb8;clear hb8 hg8 hl8;refine EL.newP QHO rfl ?_;intro g9 w9 q9 hb9 hg9 hl9;have n2_9 := qc3.na hg9;have n1_9 := qc2.na hg9;have n4_9 := q4.na hg9;have n6_9 := q6.na hg9;have n8_9 := q8.na hg9;have bhbw_9 := Nat.le_trans hbw.size hg9;replace qc3 := qc3.bl hb9;replace qc2 := qc2.bl hb9;replace q4 := q4.bl hb9;replace q6 := q6.bl hb9;replace q8 := q8.bl hb9;replace hq0 := ZB hq0 hb9 (Nat.le_refl _);replace hq1 := ZB hq1 hb9 (Nat.le_refl _);replace hbw := bo_ hbw hb9;clear hb9 hg9 hl9;refine EL.store rfl rfl q9 QDr rfl rfl rfl rfl ?_;intro w10 hq10 hg10;replace qc3 := qc3.gr hg10 n2_9;replace qc2 := qc2.gr hg10 n1_9;replace q4 := q4.gr hg10 n4_9;replace q6 := q6.gr hg10 n6_9;replace q8 := q8.gr hg10 n8_9;replace hq0 := ZG hq0 q9 rfl hg10;replace hq1 := ZG hq1 q9 rfl hg10;replace hbw := ZE hbw hg10 bhbw_9;replace q9 := hq10;clear hg10 hq10;refine EL.nil (EX.ofD (EXI.seq (ECI.block ?_)));have hg4W : W.heap.size ≤ g4 := bhbw_4;have hd0 : OwnDr w10 W.heap.size (.pointer (some ⟨g6, 0, none⟩)) ⟨stL l, []⟩ := ⟨_, _, rfl, bhbw_6, q6, Yv _ _ _ _⟩;have hPl : PileAt (fun g => W.heap.size ≤ g) w10 W.heap.size g9 (.slice (some ⟨g8, 0, none⟩) 1 1) [(.pointer (some ⟨g6, 0, none⟩), ⟨stL l, []⟩)] := ⟨q9, bhbw_9, QJZ q8 bhbw_8, fun g e => by injection e with e; subst e; exact bhbw_8, fun x hx => by rw [List.mem_singleton.1 hx]; exact hd0⟩
 have hkp := Kp.of_below (n0 := n0) (S := S) hbw hn0W;replace hJ0 := hJ _ _ _ hJ0 (Soft.of_below hbw);refine ECI.loopD [6, 7, 8, 21, 22, 23, 24, 25, 26, 27, 28, 29, 30, 31, 32, 33, 34, 35, 36, 37, 38, 40, 41, 42, 43, 44] (fun x : LS => [(6, .pointer (some ⟨x.bp, 0, none⟩))]) (fun x => x.ds) (fun x V => x.xs.map (·.1) = allE x.out.length ∧ SI l q x.out (x.ps.map Prod.snd) ∧ YN x.ps.length (gD x.ps) ∧ YT q (x.ps.map Prod.snd) ≤ 6561 ∧ PileAt (fun g => W.heap.size ≤ g) V W.heap.size x.bp x.sl x.ps ∧ Blk V g4 134 #[.slice A0 (q false).length c0, .slice A1 (q true).length c1] ∧ V.ownsRow W.heap.size 39 5 (.slice A0 (q false).length c0) (q false).length (twsC (q false)) ∧ V.ownsRow W.heap.size 39 5 (.slice A1 (q true).length c1) (q true).length (twsC (q true)) ∧ Z4 W.heap.size x.ds V ∧ x.ds.Nodup ∧ Kp n0 S W V ∧ J x.xs V) (fun x => YT q (x.ps.map Prod.snd)) ⟨[], [], [(.pointer (some ⟨g6, 0, none⟩), ⟨stL l, []⟩)], .slice (some ⟨g8, 0, none⟩) 1 1, g9, []⟩ ⟨rfl, SI.start hqk.lk, QKE, QG3 hqk, hPl, q4, hq0, hq1, (fun d hd => by cases hd), List.nodup_nil, hkp, hJ0⟩ ⟨rfl, trivial⟩ rfl ?_
 clear hPl hd0 hkp hJ0 hq0 hq1 q4 q9 q6 q8 hbw
 rintro ⟨xs, out, ps, sl, bp, ds⟩ V ⟨hxs, hSI, hhp, hsz, hPl, q4, hq0, hq1, hM, hnd, hkp, hJ0⟩
 dsimp only at hxs hSI hhp hsz hPl hM hnd hJ0
 obtain ⟨Ap, cp, rfl, _⟩ := (Rd.of_own hPl.row).shape;have hlen := Nat.le_trans (QDv (q := q) (ps := ps.map Prod.snd)) hsz;rw [List.length_map] at hlen
 by_cases hne : 0 < ps.length
 ·
  refine ECI.seq (ECI.seq (ECI.regionLD (EL.val (QA7 rfl (hPl.box.at (j := 0) rfl)) rfl (EL.val (QEB rfl) rfl ?_))));refine EL.val (Zw (r := true) rfl rfl (decide_eq_true (by omega))) rfl ?_
  refine EL.nil (EX.ofD (EXI.seq (ECI.yes rfl (ECI.skip (EXI.seq (ECI.seq (ECI.block (ECI.seq (ECI.regionLD ?_)))))))));refine EL.val (QHA rfl) rfl ?_;refine EL.call (cA1 cF62 rfl) rfl (QKC (m := ps.length - 1) hPl hhp (by omega) (by omega) (SI.bound hqk hSI)) ?_
  rintro e w5 ⟨⟨v, d⟩, sl2, rest, rfl, hpm, hmin, hhr, hPr, hdy, ht5⟩
  refine ⟨_, rfl, ?_⟩
  dsimp only at hmin hdy
  replace q4 := ht5.blk q4 rfl;replace hq0 := ht5.row hq0 rfl;replace hq1 := ht5.row hq1 rfl;replace hM := hM.keeps ht5.keeps;replace hkp := TurnsS.kpT hkp ht5 (fun g h => h) hn0W
  replace hJ0 := TurnsS.softI hJ0 ht5 (fun g h => Nat.le_trans hlaW h) hJ
  clear hPl ht5;have hPl := hPr;clear hPr;have hd := hSI.ok d ((QGJ hpm).mem_iff.2 (List.mem_cons_self ..));obtain ⟨hSI2, hpre2, hsz2⟩ := hSI.pop hqk (QGJ hpm) (QKy hmin);obtain ⟨bd, sld, rfl, hbd, _⟩ := hdy.at_;refine EL.val (QJE rfl) rfl (EL.as rfl rfl (EL.nil (EX.ofD (EXI.seq (ECI.seq (ECI.seq ?_))))))
  cases hcb : Yx q d.s
  ·
   refine ECI.region (ELI.val (x_move rfl) rfl (ELI.val (ld_134 rfl (q4.at (j := 0) rfl) (q4.at (j := 1) rfl)) rfl (ELI.call (cA2 cF63 rfl rfl) rfl (QEL hdy.rd (Nat.le_refl _) hcb) ?_)))
   rintro e w6 ⟨rfl, hc6⟩
   refine ⟨_, rfl, ?_⟩;replace q4 := q4.bl hc6;replace hkp := hkp.trans (Kp.of_below hc6 (Nat.le_trans hn0W hkp.size));replace hJ0 := hJ _ _ _ hJ0 (Soft.of_below hc6);replace hM := hM.below hc6;replace hq0 := ZB hq0 hc6 (Nat.le_refl _);replace hq1 := ZB hq1 hc6 (Nat.le_refl _);replace hPl := hPl.below hc6;replace hdy := hdy.below hc6;clear hc6;refine ELI.val (x_move rfl) rfl (ELI.skip rfl rfl rfl rfl (ELI.skip rfl rfl rfl rfl (ELI.skip rfl rfl rfl rfl (ELI.skip rfl rfl rfl rfl (ELI.val (Zz rfl rfl) rfl (ELI.nil ?_))))));rw [hcb, if_neg (by decide)] at hSI2
   clear hpre2;refine EXI.seq (ECI.no rfl (ECI.skip (EXI.seq (ECI.seq (ECI.regionLD (EL.mv rfl rfl (EL.val (ld_134 rfl (q4.at (j := 0) rfl) (q4.at (j := 1) rfl)) rfl ?_)))))));obtain ⟨lo, hlo⟩ : ∃ lo, lo = w6.heap.size := ⟨_, rfl⟩;have hbl : bp < lo := by rw [hlo]; exact hPl.box.lt
   have hrl : ∀ g, sl2.ownBlock = some g → g < lo := fun g e => by rw [hlo]; exact (hPl.row.lt g e).2
   refine EL.call (cA2 cF64 rfl rfl) rfl (QHm _ rfl rfl) ?_
   rintro e w11 ⟨⟨g2n, g3n, rfl, qn2, qn3, hgn2, hgn3⟩, hc11⟩
   refine ⟨_, rfl, ?_⟩;rw [← hlo] at hgn2 hgn3;replace q4 := q4.bl hc11;replace hkp := hkp.trans (Kp.of_below hc11 (Nat.le_trans hn0W hkp.size));replace hJ0 := hJ _ _ _ hJ0 (Soft.of_below hc11);replace hM := hM.below hc11;replace hq0 := ZB hq0 hc11 (Nat.le_refl _);replace hq1 := ZB hq1 hc11 (Nat.le_refl _);replace hPl := hPl.below hc11;replace hdy := hdy.below hc11;clear hc11;refine EL.nil (EX.ofD (EXI.seq (ECI.block ?_)));have hVW : W.heap.size ≤ w11.heap.size := hkp.size;have hloV : lo ≤ w11.heap.size := Nat.le_trans hgn2 (Nat.le_of_lt qn2.lt);have hsoft : Y0 w11.heap.size w11.heap.size [] (fun pre X => ∃ sl3 ps3, PileAt (fun g => W.heap.size ≤ g ∧ (g < lo ∨ w11.heap.size ≤ g)) X W.heap.size bp sl3 ps3 ∧ YN ps3.length (gD ps3) ∧ (ps3.map Prod.snd).Perm (rest.map Prod.snd ++ (nextL q d).take pre.length) ∧ Blk X g4 134 #[.slice A0 (q false).length c0, .slice A1 (q true).length c1] ∧ X.ownsRow W.heap.size 39 5 (.slice A0 (q false).length c0) (q false).length (twsC (q false)) ∧ X.ownsRow W.heap.size 39 5 (.slice A1 (q true).length c1) (q true).length (twsC (q true)) ∧ MarksIn W.heap.size ds w11 X ∧ Kp n0 S W X ∧ J xs X) := fun s A B' ⟨sl3, ps3, h1, h2, h3, h4, h5, h6, h7, h8, h9⟩ hs => ⟨sl3, ps3, h1.soft hs rfl rfl rfl rfl, h2, h3, hs.blk h4 rfl, hs.row h5 rfl, hs.row h6 rfl, h7.soft (Nat.le_refl _) hs, h8.soft hs (Nat.le_trans hn0W hVW) hn0W, hJ _ _ _ h9 ((hs.mono2 (Nat.le_trans hlaW hVW)).none)⟩
   have hP0 : PileAt (fun g => W.heap.size ≤ g ∧ (g < lo ∨ w11.heap.size ≤ g)) w11 W.heap.size bp sl2 rest := hPl.weak ⟨hPl.pb, .inl hbl⟩ (fun g e => ⟨hPl.pr g e, .inl (hrl g e)⟩)
   refine QFO (U := []) (Fr := fun _ => Same lo w11.heap.size) (ok := okN q d W.heap.size) (n0 := W.heap.size) (S := [145, 122]) (σ1 := fun x => _) rfl (fun args w => by kernel_rfl) rfl (QEu hqk hd qn2 qn3 hdy hq0 hq1 ⟨hgn2, qn2.lt⟩ hVW) (QHc (.inr (Nat.le_succ _))) hVW (fun pre X => ∃ sl3 ps3, PileAt (fun g => W.heap.size ≤ g ∧ (g < lo ∨ w11.heap.size ≤ g)) X W.heap.size bp sl3 ps3 ∧ YN ps3.length (gD ps3) ∧ (ps3.map Prod.snd).Perm (rest.map Prod.snd ++ (nextL q d).take pre.length) ∧ Blk X g4 134 #[.slice A0 (q false).length c0, .slice A1 (q true).length c1] ∧ X.ownsRow W.heap.size 39 5 (.slice A0 (q false).length c0) (q false).length (twsC (q false)) ∧ X.ownsRow W.heap.size 39 5 (.slice A1 (q true).length c1) (q true).length (twsC (q true)) ∧ MarksIn W.heap.size ds w11 X ∧ Kp n0 S W X ∧ J xs X) (fun _ _ => False) hsoft QDu ⟨_, _, hP0, hhr, by simp, q4, hq0, hq1, hM.refl, hkp, hJ0⟩ (fun x A B' row h hg hr => OwnDr.soft (b := w11.heap.size) (m := w11.heap.size) (U := []) h ⟨row, hg, fun g e => .inr (hr g e)⟩ rfl rfl) (fun l_ x X K hK => by
     refine ECI.regionL (Zs YU) (by kernel_rfl) ?_
     refine EL.as rfl rfl (EL.nil (EX.toI ?_))
     exact fun a' ha' => hK a' ha') ?_ ?_ ?_
   ·
    clear hsoft hP0 q4 hq0 hq1 hM hkp hJ0 hPl hdy
    rintro la9 pre ⟨x1, x2⟩ X hpf hokx ⟨sl3, ps3, hP3, hh3, hpm3, q4, hq0, hq1, hMI, hkp, hJ0⟩ hsz9
    obtain ⟨hnN, ex⟩ := QFQ hpf
    dsimp only at ex
    subst ex;have hdx : OwnDr X W.heap.size x2 ((nextL q d).getD pre.length dr0) := hokx;have hln3 := QHt (Nat.le_trans (Nat.le_of_lt hsz2) hsz) hpm3;refine ECI.block ?_;refine ECI.regionL (by repeat (first | exact QCB | exact YU | refine Zs ?_ | refine YR ?_)) (by kernel_rfl) ?_
    refine EL.val (QHA rfl) rfl (EL.mv rfl rfl (EL.val (QHB rfl) rfl ?_));refine EL.call (cA2 cF65 rfl rfl) rfl (QE3 hP3 hh3 hdx (Nat.le_trans hVW (by omega)) (fun g h => ⟨by omega, .inr (by omega)⟩) (by omega) (QEx hqk hSI2 (QCd hnN hpm3 (.refl _)))) ?_
    rintro e w9 ⟨rfl, sl9, ps9, hpm9, hh9, hP9, ht9⟩
    refine ⟨_, rfl, ?_⟩;refine EL.nil (EX.toI (EXI.blk ?_))
    exact fun a0 ha0 => ⟨.of ht9.keeps, ht9.kp (fun _ h => h) (fun g h => h.1) (by omega), ht9.same (fun g h => h.2), .inl ⟨rfl, sl9, ps9, hP9, hh9, by rw [List.length_append]; exact QCd hnN hpm3 hpm9, ht9.blk q4 rfl, ht9.row hq0 rfl, ht9.row hq1 rfl, hMI.keeps ht9.keeps, TurnsS.kpT hkp ht9 (fun g h => h.1) hn0W, TurnsS.softI hJ0 ht9 (fun g h => Nat.le_trans hlaW h.1) hJ⟩⟩
   ·
    clear hsoft hP0 q4 hq0 hq1 hM hkp hJ0 hPl hdy
    rintro Dm zs X hDm hall9 ⟨sl3, ps3, hP3, hh3, hpm3, q4, hq0, hq1, hMI, hkp, hJ0⟩ hkp9 hdef
    have hzl : zs.length = (nextL q d).length := by have := congrArg List.length hall9; rwa [List.length_map, QBd] at this
    rw [hzl, List.take_length] at hpm3;have hPl := hP3.weak (p' := (fun g => W.heap.size ≤ g)) hP3.pb.1 (fun g e => (hP3.pr g e).1)
    have hM := hMI.marks.cons (Nat.le_trans hVW hDm) hdef;have hnd2 := List.nodup_cons.2 ⟨fun hm => hMI.fresh hDm hm, hnd⟩
    clear hnd hMI hkp9 hP3;have hnd := hnd2;clear hnd2;obtain ⟨A3, c3, rfl, _⟩ := (Rd.of_own hPl.row).shape;refine EXI.blk (EXI.blk (EXI.seq (ECI.seq (ECI.regionLD (EL.val (QA7 rfl (hPl.box.at (j := 0) rfl)) rfl (EL.nil (EX.ofD (EXI.seq (ECI.regionLD ?_)))))))));refine EL.newP QHO rfl ?_;intro g12 w12 q12 hb12 hg12 hl12;have n4_12 := q4.na hg12;have hge12 : W.heap.size ≤ g12 := Nat.le_trans hkp.size hg12;replace q4 := q4.bl hb12;replace hkp := hkp.trans (Kp.of_below hb12 (Nat.le_trans hn0W hkp.size));replace hJ0 := hJ _ _ _ hJ0 (Soft.of_below hb12);replace hM := hM.below hb12;replace hq0 := ZB hq0 hb12 (Nat.le_refl _);replace hq1 := ZB hq1 hb12 (Nat.le_refl _);replace hPl := hPl.below hb12;clear hb12 hg12 hl12;refine EL.store rfl rfl q12 QDr rfl rfl rfl rfl ?_;intro w13 hq13 hg13;replace q4 := q4.gr hg13 n4_12;replace hkp := hkp.turn hg13 hge12 hn0W;replace hJ0 := hJ _ _ _ hJ0 ⟨_, hg13, fun k e => by injection e with e; subst e; exact .inl ⟨Nat.le_trans hlaW hge12, 145, _, rfl, q12⟩⟩
    replace hM := hM.keeps (YJ q12 hg13);replace hq0 := ZG hq0 q12 rfl hg13;replace hq1 := ZG hq1 q12 rfl hg13;replace hPl := hPl.moved q12 hg13 hq13 hge12;replace q12 := hq13;clear hg13 hq13;refine EL.nil (EX.ofD ?_);refine EXI.roundD ⟨xs, out, ps3, _, g12, _⟩ ⟨rfl, trivial⟩ (by repeat first | with_reducible exact .refl _ | refine sp_ rfl ?_ | exact .refl _ | refine sd_ rfl ?_ | refine sn_ ?_) rfl ⟨hxs, hSI2.perm hqk hpm3.symm, hh3, by show YT q (ps3.map Prod.snd) ≤ 6561; rw [QA4 hpm3]; exact Nat.le_trans (Nat.le_of_lt hsz2) hsz, hPl, q4, hq0, hq1, hM, hnd, hkp, hJ0⟩ (show YT q (ps3.map Prod.snd) < YT q (ps.map Prod.snd) by rw [QA4 hpm3]; exact hsz2)
   ·intro Dm pre X hD hne2 hall9 h
    exact absurd h id
  ·
   refine ECI.region (ELI.val (x_move rfl) rfl (ELI.val (ld_134 rfl (q4.at (j := 0) rfl) (q4.at (j := 1) rfl)) rfl (ELI.call (cA2 cF63 rfl rfl) rfl (QEL hdy.rd (Nat.le_refl _) hcb) ?_)))
   rintro e w6 ⟨rfl, hc6⟩
   refine ⟨_, rfl, ?_⟩;replace q4 := q4.bl hc6;replace hkp := hkp.trans (Kp.of_below hc6 (Nat.le_trans hn0W hkp.size));replace hJ0 := hJ _ _ _ hJ0 (Soft.of_below hc6);replace hM := hM.below hc6;replace hq0 := ZB hq0 hc6 (Nat.le_refl _);replace hq1 := ZB hq1 hc6 (Nat.le_refl _);replace hPl := hPl.below hc6;replace hdy := hdy.below hc6;clear hc6;refine ELI.val (x_move rfl) rfl (ELI.valg rfl rfl (x_move rfl) rfl (ELI.valg rfl rfl (x_move rfl) rfl ?_));have hpd := hpre2 hcb;have hpf : (xs ++ [([((out.length : Nat) : Int)], Value.pointer (some ⟨bd, 0, none⟩))]).map (·.1) <+: allE (allD l q).length := QK3 hxs rfl hpd;obtain ⟨fn_, tmps_, assign_, body_, hi_, hR_⟩ := hY xs ([((out.length : Nat) : Int)], Value.pointer (some ⟨bd, 0, none⟩)) _ (QMQ rfl hdy hpd) hJ0 hpf;refine ELI.yieldg rfl rfl rfl rfl rfl hi_ hR_ ?_
   rintro e wy ⟨hky, hkf, hfr, ⟨rfl, hJy⟩ | ⟨rfl, hJy⟩⟩
   ·
    refine ⟨_, rfl, ?_⟩;refine ELI.valg rfl rfl (ZX rfl) rfl (ELI.val (YH rfl rfl) rfl (ELI.nil ?_));have hsm := Zu.mono hfr hlaW;replace hPl := hPl.same hPl.pb hsm;replace hdy := hdy.same hsm;replace q4 : Blk wy g4 134 #[.slice A0 (q false).length c0, .slice A1 (q true).length c1] := (hsm g4 hg4W q4.lt).trans q4;replace hq0 := QBQ hq0 hsm;replace hq1 := QBQ hq1 hsm;replace hM := hM.keepsFrom hlaW hkf;replace hkp := hkp.trans hky;clear hJ0;have hJ0 := hJy;clear hJy hky hkf hfr hsm;rw [hcb, if_pos rfl] at hSI2;refine EXI.seq (ECI.no rfl (ECI.skip (EXI.seq (ECI.seq (ECI.regionLD (EL.mv rfl rfl (EL.val (ld_134 rfl (q4.at (j := 0) rfl) (q4.at (j := 1) rfl)) rfl ?_)))))));obtain ⟨lo, hlo⟩ : ∃ lo, lo = wy.heap.size := ⟨_, rfl⟩;have hbl : bp < lo := by rw [hlo]; exact hPl.box.lt
    have hrl : ∀ g, sl2.ownBlock = some g → g < lo := fun g e => by rw [hlo]; exact (hPl.row.lt g e).2
    refine EL.call (cA2 cF64 rfl rfl) rfl (QHm _ rfl rfl) ?_
    rintro e w14 ⟨⟨g2n, g3n, rfl, qn2, qn3, hgn2, hgn3⟩, hc14⟩
    refine ⟨_, rfl, ?_⟩;rw [← hlo] at hgn2 hgn3;replace q4 := q4.bl hc14;replace hkp := hkp.trans (Kp.of_below hc14 (Nat.le_trans hn0W hkp.size));replace hJ0 := hJ _ _ _ hJ0 (Soft.of_below hc14);replace hM := hM.below hc14;replace hq0 := ZB hq0 hc14 (Nat.le_refl _);replace hq1 := ZB hq1 hc14 (Nat.le_refl _);replace hPl := hPl.below hc14;replace hdy := hdy.below hc14;clear hc14;refine EL.nil (EX.ofD (EXI.seq (ECI.block ?_)));have hVW : W.heap.size ≤ w14.heap.size := hkp.size;have hloV : lo ≤ w14.heap.size := Nat.le_trans hgn2 (Nat.le_of_lt qn2.lt);have hsoft : Y0 w14.heap.size w14.heap.size [] (fun pre X => ∃ sl3 ps3, PileAt (fun g => W.heap.size ≤ g ∧ (g < lo ∨ w14.heap.size ≤ g)) X W.heap.size bp sl3 ps3 ∧ YN ps3.length (gD ps3) ∧ (ps3.map Prod.snd).Perm (rest.map Prod.snd ++ (nextL q d).take pre.length) ∧ Blk X g4 134 #[.slice A0 (q false).length c0, .slice A1 (q true).length c1] ∧ X.ownsRow W.heap.size 39 5 (.slice A0 (q false).length c0) (q false).length (twsC (q false)) ∧ X.ownsRow W.heap.size 39 5 (.slice A1 (q true).length c1) (q true).length (twsC (q true)) ∧ MarksIn W.heap.size ds w14 X ∧ Kp n0 S W X ∧ J (xs ++ [([((out.length : Nat) : Int)], Value.pointer (some ⟨bd, 0, none⟩))]) X) := fun s A B' ⟨sl3, ps3, h1, h2, h3, h4, h5, h6, h7, h8, h9⟩ hs => ⟨sl3, ps3, h1.soft hs rfl rfl rfl rfl, h2, h3, hs.blk h4 rfl, hs.row h5 rfl, hs.row h6 rfl, h7.soft (Nat.le_refl _) hs, h8.soft hs (Nat.le_trans hn0W hVW) hn0W, hJ _ _ _ h9 ((hs.mono2 (Nat.le_trans hlaW hVW)).none)⟩
    have hP0 : PileAt (fun g => W.heap.size ≤ g ∧ (g < lo ∨ w14.heap.size ≤ g)) w14 W.heap.size bp sl2 rest := hPl.weak ⟨hPl.pb, .inl hbl⟩ (fun g e => ⟨hPl.pr g e, .inl (hrl g e)⟩)
    refine QFO (U := []) (Fr := fun _ => Same lo w14.heap.size) (ok := okN q d W.heap.size) (n0 := W.heap.size) (S := [145, 122]) (σ1 := fun x => _) rfl (fun args w => by kernel_rfl) rfl (QEu hqk hd qn2 qn3 hdy hq0 hq1 ⟨hgn2, qn2.lt⟩ hVW) (QHc (.inr (Nat.le_succ _))) hVW (fun pre X => ∃ sl3 ps3, PileAt (fun g => W.heap.size ≤ g ∧ (g < lo ∨ w14.heap.size ≤ g)) X W.heap.size bp sl3 ps3 ∧ YN ps3.length (gD ps3) ∧ (ps3.map Prod.snd).Perm (rest.map Prod.snd ++ (nextL q d).take pre.length) ∧ Blk X g4 134 #[.slice A0 (q false).length c0, .slice A1 (q true).length c1] ∧ X.ownsRow W.heap.size 39 5 (.slice A0 (q false).length c0) (q false).length (twsC (q false)) ∧ X.ownsRow W.heap.size 39 5 (.slice A1 (q true).length c1) (q true).length (twsC (q true)) ∧ MarksIn W.heap.size ds w14 X ∧ Kp n0 S W X ∧ J (xs ++ [([((out.length : Nat) : Int)], Value.pointer (some ⟨bd, 0, none⟩))]) X) (fun _ _ => False) hsoft QDu ⟨_, _, hP0, hhr, by simp, q4, hq0, hq1, hM.refl, hkp, hJ0⟩ (fun x A B' row h hg hr => OwnDr.soft (b := w14.heap.size) (m := w14.heap.size) (U := []) h ⟨row, hg, fun g e => .inr (hr g e)⟩ rfl rfl) (fun l_ x X K hK => by
      refine ECI.regionL (Zs YU) (by kernel_rfl) ?_
      refine EL.as rfl rfl (EL.nil (EX.toI ?_))
      exact fun a' ha' => hK a' ha') ?_ ?_ ?_
    ·
     clear hsoft hP0 q4 hq0 hq1 hM hkp hJ0 hPl hdy
     rintro la9 pre ⟨x1, x2⟩ X hpf hokx ⟨sl3, ps3, hP3, hh3, hpm3, q4, hq0, hq1, hMI, hkp, hJ0⟩ hsz9
     obtain ⟨hnN, ex⟩ := QFQ hpf
     dsimp only at ex
     subst ex;have hdx : OwnDr X W.heap.size x2 ((nextL q d).getD pre.length dr0) := hokx;have hln3 := QHt (Nat.le_trans (Nat.le_of_lt hsz2) hsz) hpm3;refine ECI.block ?_;refine ECI.regionL (by repeat (first | exact QCB | exact YU | refine Zs ?_ | refine YR ?_)) (by kernel_rfl) ?_
     refine EL.val (QHA rfl) rfl (EL.mv rfl rfl (EL.val (QHB rfl) rfl ?_));refine EL.call (cA2 cF65 rfl rfl) rfl (QE3 hP3 hh3 hdx (Nat.le_trans hVW (by omega)) (fun g h => ⟨by omega, .inr (by omega)⟩) (by omega) (QEx hqk hSI2 (QCd hnN hpm3 (.refl _)))) ?_
     rintro e w9 ⟨rfl, sl9, ps9, hpm9, hh9, hP9, ht9⟩
     refine ⟨_, rfl, ?_⟩;refine EL.nil (EX.toI (EXI.blk ?_))
     exact fun a0 ha0 => ⟨.of ht9.keeps, ht9.kp (fun _ h => h) (fun g h => h.1) (by omega), ht9.same (fun g h => h.2), .inl ⟨rfl, sl9, ps9, hP9, hh9, by rw [List.length_append]; exact QCd hnN hpm3 hpm9, ht9.blk q4 rfl, ht9.row hq0 rfl, ht9.row hq1 rfl, hMI.keeps ht9.keeps, TurnsS.kpT hkp ht9 (fun g h => h.1) hn0W, TurnsS.softI hJ0 ht9 (fun g h => Nat.le_trans hlaW h.1) hJ⟩⟩
    ·
     clear hsoft hP0 q4 hq0 hq1 hM hkp hJ0 hPl hdy
     rintro Dm zs X hDm hall9 ⟨sl3, ps3, hP3, hh3, hpm3, q4, hq0, hq1, hMI, hkp, hJ0⟩ hkp9 hdef
     have hzl : zs.length = (nextL q d).length := by have := congrArg List.length hall9; rwa [List.length_map, QBd] at this
     rw [hzl, List.take_length] at hpm3;have hPl := hP3.weak (p' := (fun g => W.heap.size ≤ g)) hP3.pb.1 (fun g e => (hP3.pr g e).1)
     have hM := hMI.marks.cons (Nat.le_trans hVW hDm) hdef;have hnd2 := List.nodup_cons.2 ⟨fun hm => hMI.fresh hDm hm, hnd⟩
     clear hnd hMI hkp9 hP3;have hnd := hnd2;clear hnd2;obtain ⟨A3, c3, rfl, _⟩ := (Rd.of_own hPl.row).shape;refine EXI.blk (EXI.blk (EXI.seq (ECI.seq (ECI.regionLD (EL.val (QA7 rfl (hPl.box.at (j := 0) rfl)) rfl (EL.nil (EX.ofD (EXI.seq (ECI.regionLD ?_)))))))));refine EL.newP QHO rfl ?_;intro g15 w15 q15 hb15 hg15 hl15;have n4_15 := q4.na hg15;have hge15 : W.heap.size ≤ g15 := Nat.le_trans hkp.size hg15;replace q4 := q4.bl hb15;replace hkp := hkp.trans (Kp.of_below hb15 (Nat.le_trans hn0W hkp.size));replace hJ0 := hJ _ _ _ hJ0 (Soft.of_below hb15);replace hM := hM.below hb15;replace hq0 := ZB hq0 hb15 (Nat.le_refl _);replace hq1 := ZB hq1 hb15 (Nat.le_refl _);replace hPl := hPl.below hb15;clear hb15 hg15 hl15;refine EL.store rfl rfl q15 QDr rfl rfl rfl rfl ?_;intro w16 hq16 hg16;replace q4 := q4.gr hg16 n4_15;replace hkp := hkp.turn hg16 hge15 hn0W;replace hJ0 := hJ _ _ _ hJ0 ⟨_, hg16, fun k e => by injection e with e; subst e; exact .inl ⟨Nat.le_trans hlaW hge15, 145, _, rfl, q15⟩⟩
     replace hM := hM.keeps (YJ q15 hg16);replace hq0 := ZG hq0 q15 rfl hg16;replace hq1 := ZG hq1 q15 rfl hg16;replace hPl := hPl.moved q15 hg16 hq16 hge15;replace q15 := hq16;clear hg16 hq16;refine EL.nil (EX.ofD ?_);refine EXI.roundD ⟨(xs ++ [([((out.length : Nat) : Int)], Value.pointer (some ⟨bd, 0, none⟩))]), (out ++ [d]), ps3, _, g15, _⟩ ⟨rfl, trivial⟩ (by repeat first | with_reducible exact .refl _ | refine sp_ rfl ?_ | exact .refl _ | refine sd_ rfl ?_ | refine sn_ ?_) rfl ⟨(QIz hxs), hSI2.perm hqk hpm3.symm, hh3, by show YT q (ps3.map Prod.snd) ≤ 6561; rw [QA4 hpm3]; exact Nat.le_trans (Nat.le_of_lt hsz2) hsz, hPl, q4, hq0, hq1, hM, hnd, hkp, hJ0⟩ (show YT q (ps3.map Prod.snd) < YT q (ps.map Prod.snd) by rw [QA4 hpm3]; exact hsz2)
    ·intro Dm pre X hD hne2 hall9 h
     exact absurd h id
   ·
    refine ⟨_, rfl, ?_⟩;refine ELI.valg rfl rfl (ZX rfl) rfl (ELI.val (YH rfl rfl) rfl (ELI.nil ?_));have hsm := Zu.mono hfr hlaW;replace hPl := hPl.same hPl.pb hsm;replace hdy := hdy.same hsm;replace q4 : Blk wy g4 134 #[.slice A0 (q false).length c0, .slice A1 (q true).length c1] := (hsm g4 hg4W q4.lt).trans q4;replace hq0 := QBQ hq0 hsm;replace hq1 := QBQ hq1 hsm;replace hM := hM.keepsFrom hlaW hkf;replace hkp := hkp.trans hky;clear hJ0;have hJ0 := hJy;clear hJy hky hkf hfr hsm;refine EXI.seq (ECI.yes rfl (ECI.ret (EXI.seq_ret (EXI.blk_ret (EXI.seq_ret (EXI.seq_ret (EXI.blk_ret ?_)))))))
    exact EXI.doneZ (Z := fun X => Kp n0 S W X ∧ Jx (xs ++ [([((out.length : Nat) : Int)], Value.pointer (some ⟨bd, 0, none⟩))]) X) hM hnd ⟨hkp, hJ0⟩ (fun A D h hD hd => ⟨h.1.trans (Kp.putObj _ (Nat.le_trans hn0W hD) hd rfl), hJx _ _ _ h.2 (QGB _ (Nat.le_trans hlaW hD) hd rfl)⟩) (fun w' ht => res0 rfl) (fun w' ht hz => ⟨⟨_, rfl⟩, hz.1, .inr ⟨_, by simp, hpf, hz.2⟩⟩)
 ·
  refine ECI.seq (ECI.seq (ECI.regionLD (EL.val (QA7 rfl (hPl.box.at (j := 0) rfl)) rfl (EL.val (QEB rfl) rfl ?_))));refine EL.val (Zw (r := false) rfl rfl (decide_eq_false (by omega))) rfl ?_
  refine EL.nil (EX.ofD (EXI.seq (ECI.no rfl (ECI.exit (EXI.seq_exit (EXI.seq_exit (EXI.blk_here ?_)))))));have hps : ps = [] := by cases ps with | nil => rfl | cons a b => simp at hne
  subst hps;have hall := hSI.stop;rw [hall] at hxs
  exact EXI.doneZN (Z := fun X => Kp n0 S W X ∧ J xs X) hM hnd ⟨hkp, hJ0⟩ (fun A D h hD hd => ⟨h.1.trans (Kp.putObj _ (Nat.le_trans hn0W hD) hd rfl), hJ _ _ _ h.2 (QGB _ (Nat.le_trans hlaW hD) hd rfl)⟩) (fun w' ht => res0 rfl) (fun w' ht hz => ⟨⟨_, rfl⟩, hz.1, .inl ⟨xs, hxs, hz.2⟩⟩)
section
variable {n : Nat} {σ : Sg} {w : World} {dst : Option Tmp} {ty : TypeId} {pos : String} {af : Array Edge} {g : Option (Nat × Bool)} {x y z : Operand} {at' : Array TypeId}
theorem QNQ (a : Act) (_ : Env n σ a) : (execOp a.eval ⟨dst, .alloc 25, ty, pos, af, g⟩).run Try.prog w = .ok (.value (.pointer (some ⟨w.heap.size, 0, none⟩))) (w.alloc (.cells #[.slice none 0 0] 25)) := by
 simp only [execOp]
 simp [go_sem]
theorem al_3 (a : Act) (_ : Env n σ a) : (execOp a.eval ⟨dst, .alloc 3, ty, pos, af, g⟩).run Try.prog w = .ok (.value (.pointer (some ⟨w.heap.size, 0, none⟩))) (w.alloc (.cells #[.int .i64 0] 3)) := by
 simp only [execOp]
 simp [go_sem]
theorem QNP (a : Act) (_ : Env n σ a) : (execOp a.eval ⟨dst, .alloc 29, ty, pos, af, g⟩).run Try.prog w = .ok (.value (.pointer (some ⟨w.heap.size, 0, none⟩))) (w.alloc (.cells #[.int .i64 0] 29)) := by
 simp only [execOp]
 simp [go_sem]
theorem cF45 : cF 45 := fun _ _ => by simp [go_sem]
theorem cF46 : cF 46 := fun _ _ => by simp [go_sem]
theorem QJH : (Try.prog.info? 25).map (·.size) = some 1 := by kernel_rfl
theorem QJG : (Try.prog.info? 29).map (·.size) = some 1 := by kernel_rfl
theorem QJl {b o : Nat} {v0 : Value} (c0 : w.cell? ⟨b, o, none⟩ = some v0) : (loadVar 25 ⟨b, o, none⟩).run Try.prog w = .ok (v0) w := by
 simp [go_sem, loadVar, c0]
theorem lv_3 {b o : Nat} {v0 : Value} (c0 : w.cell? ⟨b, o, none⟩ = some v0) : (loadVar 3 ⟨b, o, none⟩).run Try.prog w = .ok (v0) w := by
 simp [go_sem, loadVar, c0]
theorem QJk {b o : Nat} {v0 : Value} (c0 : w.cell? ⟨b, o, none⟩ = some v0) : (loadVar 29 ⟨b, o, none⟩).run Try.prog w = .ok (v0) w := by
 simp [go_sem, loadVar, c0]
end
theorem EXI.doneD {P : Program} {n : Nat} {σ : Sg} {w : World} {fn : Func} {R : Ending → World → Prop} {v : Value} (hr : ∀ a, Env n σ a → (results fn a.tmps).run P w = .ok v w) (h : R (.returned v) w) : EXI n [] (bodyPostM Fence.wide 0 P fn R) .ret σ w := fun a ha => EX.doneM hr h a ha.e
set_option maxHeartbeats 1000000 in
set_option maxRecDepth 100000 in
theorem QKe {l : LK} {ts : List TW} {v : Value} {w : World} {B : Nat} (hr : Rd w B 5 v ts.length (twsC ts)) (hB : B ≤ w.heap.size) :
  Calls Try.prog 23 #[.agg #[.int .i64 l.length, .int .i64 l.cycle, .int .i64 l.turn, .int .i64 l.fill, .int .i64 l.save, .bool l.high], v] w fun e w' => ∃ sl, e = .returned (.tuple #[sl, .int .i64 (QB4 l ts).2.1, .int .i64 (QB4 l ts).2.2]) ∧ w'.ownsRow w.heap.size 87 2 sl (QB4 l ts).1.length (spsC (QB4 l ts).1) ∧ Below w.heap.size w w' := by
 obtain ⟨At, ct, rfl, _⟩ := hr.shape;have hbw := Below.refl w.heap.size w;refine EC.marks 28 Try.func23 rfl rfl rfl (ECI.seq (ECI.regionLD (EL.newP (QDN rfl) rfl ?_)));intro g1 w1 q1 hb1 hg1 hl1;have bhbw_1 := Nat.le_trans hbw.size hg1;replace hbw := bo_ hbw hb1;clear hb1 hg1 hl1;refine EL.newP QNQ rfl ?_;intro g2 w2 q2 hb2 hg2 hl2;have n1_2 := q1.na hg2;have bhbw_2 := Nat.le_trans hbw.size hg2;replace q1 := q1.bl hb2;replace hbw := bo_ hbw hb2;clear hb2 hg2 hl2;refine EL.newP al_3 rfl ?_;intro g3 w3 q3 hb3 hg3 hl3;have n1_3 := q1.na hg3;have n2_3 := q2.na hg3;have bhbw_3 := Nat.le_trans hbw.size hg3;replace q1 := q1.bl hb3;replace q2 := q2.bl hb3;replace hbw := bo_ hbw hb3;clear hb3 hg3 hl3;refine EL.newP QNP rfl ?_;intro g4 w4 q4 hb4 hg4 hl4;have n1_4 := q1.na hg4;have n2_4 := q2.na hg4;have n3_4 := q3.na hg4;have bhbw_4 := Nat.le_trans hbw.size hg4;replace q1 := q1.bl hb4;replace q2 := q2.bl hb4;replace q3 := q3.bl hb4;replace hbw := bo_ hbw hb4;clear hb4 hg4 hl4;refine EL.nil (EX.ofD (EXI.seq (ECI.seq (ECI.seq (ECI.regionLD (EL.val (QB2 rfl (q1.at (j := 0) rfl) (q1.at (j := 1) rfl) (q1.at (j := 2) rfl) (q1.at (j := 3) rfl) (q1.at (j := 4) rfl) (q1.at (j := 5) rfl)) rfl (EL.mv rfl rfl (EL.call (cA2 cF45 rfl rfl) rfl (QAj (hr.below (hbw.mono hB)) (Nat.le_trans hB hbw.size)) ?_))))))))
 rintro e w5 ⟨rfl, hc5⟩
 refine ⟨_, rfl, ?_⟩;replace q1 := q1.bl hc5;replace q2 := q2.bl hc5;replace q3 := q3.bl hc5;replace q4 := q4.bl hc5;replace hbw := bo_ hbw hc5;clear hc5;refine EL.as rfl rfl (EL.nil (EX.ofD (EXI.seq (ECI.seq (ECI.regionLD (EL.mv rfl rfl ?_))))))
 by_cases ht : towE l ts = 0
 ·
  refine EL.val (Zn (r := false) rfl rfl (decide_eq_false (by omega))) rfl ?_
  refine EL.nil (EX.ofD (EXI.seq (ECI.no rfl (ECI.skip (EXI.seq (ECI.seq (ECI.seq (ECI.regionLD (EL.val (QB2 rfl (q1.at (j := 0) rfl) (q1.at (j := 1) rfl) (q1.at (j := 2) rfl) (q1.at (j := 3) rfl) (q1.at (j := 4) rfl) (q1.at (j := 5) rfl)) rfl ?_)))))))));refine EL.mv rfl rfl (EL.call (cA2 cF46 rfl rfl) rfl (QGK _) ?_)
  rintro e w6 ⟨⟨g2n, g3n, rfl, qn2, qn3, hgn2, hgn3⟩, hc6⟩
  refine ⟨_, rfl, ?_⟩;replace q1 := q1.bl hc6;replace q2 := q2.bl hc6;replace q3 := q3.bl hc6;replace q4 := q4.bl hc6;replace hbw := bo_ hbw hc6;clear hc6;refine EL.nil (EX.ofD (EXI.seq (ECI.block ?_)));have ls_2 := q2.lt;have ls_3 := q3.lt;have ls_4 := q4.lt;have hsz := hbw.size;obtain ⟨hlk, hn8, htw⟩ := QBh ht;have hsoft : Y0 w6.heap.size w6.heap.size [145, 122] (fun pre X => pre = [] ∧ Blk X g2 25 #[.slice none 0 0] ∧ Blk X g3 3 #[.int .i64 0] ∧ Blk X g4 29 #[.int .i64 0] ∧ Below w.heap.size w X) := fun s A B' ⟨h1, h2, h3, h4, h5⟩ hs => ⟨h1, hs.blk h2 rfl, hs.blk h3 rfl, hs.blk h4 rfl, (hs.mono2 hsz).below h5 h5.size (Nat.le_refl _)⟩
  have hsofx : Y0 w6.heap.size w6.heap.size [145, 122] (fun pre X => 0 < (allD l (qL ts)).length ∧ ∃ slp, Blk X g2 25 #[slp] ∧ Blk X g3 3 #[.int .i64 ((allD l (qL ts)).getD 0 dr0).s.cost] ∧ Blk X g4 29 #[.int .i64 0] ∧ X.ownsRow w.heap.size 87 2 slp ((allD l (qL ts)).getD 0 dr0).plan.length (spsC ((allD l (qL ts)).getD 0 dr0).plan) ∧ Below w.heap.size w X) := fun s A B' ⟨h0, slp, h2, h3, h4, h6, h5⟩ hs => ⟨h0, slp, hs.blk h2 rfl, hs.blk h3 rfl, hs.blk h4 rfl, hs.row h6 rfl, (hs.mono2 hsz).below h5 h5.size (Nat.le_refl _)⟩
  refine QFO (U := [145, 122]) (Fr := fun l_ => Zu (l_ + 1)) (ok := fun x X => okP l (qL ts) w6.heap.size x X) (n0 := w.heap.size) (S := [25, 3, 29]) (σ1 := fun x => _) rfl (fun args w => by kernel_rfl) rfl (QD3 rfl (QG6 ht) hn8 qn2 qn3 (hr.below (hbw.mono hB)) (Nat.le_trans hB hsz) hsz) (QGE (by omega)) hsz (fun pre X => pre = [] ∧ Blk X g2 25 #[.slice none 0 0] ∧ Blk X g3 3 #[.int .i64 0] ∧ Blk X g4 29 #[.int .i64 0] ∧ Below w.heap.size w X) (fun pre X => 0 < (allD l (qL ts)).length ∧ ∃ slp, Blk X g2 25 #[slp] ∧ Blk X g3 3 #[.int .i64 ((allD l (qL ts)).getD 0 dr0).s.cost] ∧ Blk X g4 29 #[.int .i64 0] ∧ X.ownsRow w.heap.size 87 2 slp ((allD l (qL ts)).getD 0 dr0).plan.length (spsC ((allD l (qL ts)).getD 0 dr0).plan) ∧ Below w.heap.size w X) hsoft hsofx ⟨rfl, q2, q3, q4, hbw⟩ (fun x A B' row h hg hr => OwnDr.soft (b := w6.heap.size) (m := w6.heap.size) (U := []) h ⟨row, hg, fun g e => .inr (hr g e)⟩ rfl rfl) (fun l_ x X K hK => by
    refine ECI.regionL (Zs YU) (by kernel_rfl) ?_
    refine EL.as rfl rfl (EL.nil (EX.toI ?_))
    exact fun a' ha' => hK a' ha') ?_ ?_ ?_
  ·
   clear hsoft hsofx q2 q3 q4 hbw qn2 qn3
   rintro la9 pre ⟨x1, x2⟩ X hpf hokx ⟨rfl, q2, q3, q4, hbw⟩ hsz9
   obtain ⟨hnN, ex⟩ := QFQ hpf
   dsimp only at ex
   subst ex;have hdx : OwnDr X w6.heap.size x2 ((allD l (qL ts)).getD 0 dr0) := hokx;obtain ⟨bd, slp, rfl, hbd, qD, hpl⟩ := hdx.at_;replace hpl := YI hpl hsz;obtain ⟨Ap, cp, rfl, _⟩ := (Rd.of_own hpl).shape;have hkp := Kp.refl w.heap.size [25, 3, 29] X;have hkf := ZT.refl w6.heap.size X;have hfr := Zu.refl (b := w6.heap.size + 2) X;have hXV := Nat.le_of_succ_le (Nat.le_of_succ_le hsz9)
   generalize ((allD l (qL ts)).getD 0 dr0) = dd at *
   have n2_7 := Yq (U := [124]) q2 qD rfl rfl;have n3_7 := Yq (U := [124]) q3 qD rfl rfl;have n4_7 := Yq (U := [124]) q4 qD rfl rfl;refine ECI.block (ECI.seq ?_);have qo_ := q2;have lt_2 := q2.lt;have lt_3 := q3.lt;have lt_4 := q4.lt;have lt_7 := qD.lt;refine ECI.regionO (by repeat (first | exact QCB | exact YU | refine Zs ?_ | refine YR ?_)) (by kernel_rfl) (EO.regionS [[], [0], [0, 1], [0, 1, 2], [], [4], [4, 5], [4, 5, 6], [4, 5, 6, 7], [0, 1, 2, 3], [0, 1, 2, 3, 4, 5, 6, 7, 8, 9], [0, 1, 2, 3, 4, 5, 6, 7, 8, 9, 10]] 10 [] [9] (fun fl w_ => X.grownBy w_ (some g2) ∧ (fl 9 = false → Blk w_ g2 25 _)) (phiS (fun i_ r => match i_ with | 0 => r 0 = .pointer (some ⟨bd, 0, none⟩) | 1 => r 1 = .pointer (some ⟨bd, 0, none⟩) | 2 => r 2 = .pointer (some ⟨bd, 15, none⟩) | 3 => r 3 = .slice Ap dd.plan.length cp | 4 => r 4 = .pointer (some ⟨bd, 0, none⟩) | 5 => r 5 = .pointer (some ⟨bd, 0, none⟩) | 6 => r 6 = .pointer (some ⟨bd, 0, none⟩) | 7 => r 7 = .pointer (some ⟨bd, 14, none⟩) | 8 => r 8 = .int .i64 dd.s.cost | _ => True) [(9, fun _ r w_ => Blk w_ g2 25 #[.slice Ap dd.plan.length cp])]) (by kernel_rfl) rfl rfl (by intro i hi; simp at hi; first | (subst hi; exact ⟨by simp, by omega⟩) | (rcases hi with rfl | rfl | rfl <;> exact ⟨by simp, by omega⟩) | (rcases hi with rfl | rfl <;> exact ⟨by simp, by omega⟩)) (Yy q2) (ZL QAN (Zd)) (fun i_ hi_ hs_ => ?_) (fun i_ hi_ => ?_) ?_)
   ·match i_, hi_ with
    | 0, _ =>
     intro val fl w1 a hb ha hd hfl;obtain ⟨hb, hg0⟩ := hb;have ha := ha.s0 (d := 8) rfl
     exact ZD ha rfl rfl (x_move rfl) rfl rfl
    | 1, _ =>
     intro val fl w1 a hb ha hd hfl;obtain ⟨hb, hg0⟩ := hb;have e0 : val 0 = _ := hd 0 (ZA.1 rfl);have ha := ha.s1 (d := 19) rfl e0
     exact ZD ha rfl rfl (ZH rfl) rfl rfl
    | 2, _ =>
     intro val fl w1 a hb ha hd hfl;obtain ⟨hb, hg0⟩ := hb;have e1 : val 1 = _ := hd 1 (ZA.1 rfl);have ha := ha.s1 (d := 20) rfl e1
     exact ZD ha rfl rfl (QAW rfl) rfl rfl
    | 3, _ =>
     intro val fl w1 a hb ha hd hfl;obtain ⟨hb, hg0⟩ := hb;have e2 : val 2 = _ := hd 2 (ZA.1 rfl);have ha := ha.s1 (d := 21) rfl e2
     exact ZD ha rfl rfl (QED rfl ((qD.grown hb (fun h => n2_7.symm (Option.some.inj h))).at (j := 15) rfl)) rfl rfl
    | 4, _ =>
     intro val fl w1 a hb ha hd hfl;obtain ⟨hb, hg0⟩ := hb;have ha := ha.s0 (d := 8) rfl
     exact ZD ha rfl rfl (x_move rfl) rfl rfl
    | 5, _ =>
     intro val fl w1 a hb ha hd hfl;obtain ⟨hb, hg0⟩ := hb;have e4 : val 4 = _ := hd 4 (ZA.1 rfl);have ha := ha.s1 (d := 23) rfl e4
     exact ZD ha rfl rfl (ZH rfl) rfl rfl
    | 6, _ =>
     intro val fl w1 a hb ha hd hfl;obtain ⟨hb, hg0⟩ := hb;have e5 : val 5 = _ := hd 5 (ZA.1 rfl);have ha := ha.s1 (d := 24) rfl e5
     exact ZD ha rfl rfl (Ze rfl) rfl rfl
    | 7, _ =>
     intro val fl w1 a hb ha hd hfl;obtain ⟨hb, hg0⟩ := hb;have e6 : val 6 = _ := hd 6 (ZA.1 rfl);have ha := ha.s1 (d := 25) rfl e6
     exact ZD ha rfl rfl (YS rfl) rfl rfl
    | 8, _ =>
     intro val fl w1 a hb ha hd hfl;obtain ⟨hb, hg0⟩ := hb;have e7 : val 7 = _ := hd 7 (ZA.1 rfl);have ha := ha.s1 (d := 26) rfl e7
     exact ZD ha rfl rfl (ld_3 rfl ((qD.grown hb (fun h => n2_7.symm (Option.some.inj h))).at (j := 14) rfl)) rfl rfl
    | 9, _ =>
     exact absurd (by simp) hs_
    | k + 10, h => exact absurd h (by omega)
   ·simp only [List.mem_singleton] at hi_; subst hi_
    intro val fl w1 a hb hfi ha hd hfl;obtain ⟨hb, hg0⟩ := hb;have e3 : val 3 = _ := hd 3 (ZA.1 rfl);have ha := ha.sub (Sub.ins (d := 22) (Sub.ins (d := 4) (Sub.nil _) rfl) (ZQ rfl e3));refine ZY ha rfl rfl rfl (hg0 hfi) QJH rfl rfl rfl rfl ?_;intro w' hq hgr;refine ⟨undef, rfl, hgr.size, ⟨YB hb hgr, fun h => by rw [ZR] at h; cases h⟩, hq, fun j _ hj hn hA => ?_⟩
    exact ZF (C := fun j => j ≠ 9 ∧ 9 ∉ clsAt [[], [0], [0, 1], [0, 1, 2], [], [4], [4, 5], [4, 5, 6], [4, 5, 6, 7], [0, 1, 2, 3], [0, 1, 2, 3, 4, 5, 6, 7, 8, 9], [0, 1, 2, 3, 4, 5, 6, 7, 8, 9, 10]] j ∧ ∀ p ∈ [], (p = j ∨ p ∈ clsAt [[], [0], [0, 1], [0, 1, 2], [], [4], [4, 5], [4, 5, 6], [4, 5, 6, 7], [0, 1, 2, 3], [0, 1, 2, 3, 4, 5, 6, 7, 8, 9], [0, 1, 2, 3, 4, 5, 6, 7, 8, 9, 10]] j) → ∀ q ∈ [], (q = 9 ∨ q ∈ clsAt [[], [0], [0, 1], [0, 1, 2], [], [4], [4, 5], [4, 5, 6], [4, 5, 6, 7], [0, 1, 2, 3], [0, 1, 2, 3, 4, 5, 6, 7, 8, 9], [0, 1, 2, 3, 4, 5, 6, 7, 8, 9, 10]] 9) → p ≠ q → val p ≠ val q) (fun hc => absurd rfl hc.1) (fun _ _ h => h) j ⟨hj, hn, hA⟩
   ·intro val fl wR6 hfl hb halc hd
    obtain ⟨hb, _⟩ := hb;have e0 : val 0 = _ := hd 0 (by omega)
    have e1 : val 1 = _ := hd 1 (by omega)
    have e2 : val 2 = _ := hd 2 (by omega)
    have e3 : val 3 = _ := hd 3 (by omega)
    have e4 : val 4 = _ := hd 4 (by omega)
    have e5 : val 5 = _ := hd 5 (by omega)
    have e6 : val 6 = _ := hd 6 (by omega)
    have e7 : val 7 = _ := hd 7 (by omega)
    have e8 : val 8 = _ := hd 8 (by omega)
    refine EL.ends (cs := [_, _, _, _, _, _, _, _, _, val 9]) ⟨e0, e1, e2, e3, e4, e5, e6, e7, e8, rfl, trivial⟩ rfl ?_;have q2 : Blk wR6 g2 25 #[.slice Ap dd.plan.length cp] := hd 9 (by omega)
    replace q3 := q3.gr hb n2_3.symm;replace q4 := q4.gr hb n2_4.symm;replace qD := qD.gr hb n2_7.symm;replace hfr := hfr.trans (Zu.grown hb fun k e => by injection e with e; subst e; omega) hkp.size
    replace hkf := hkf.trans (.of (YJ qo_ hb));replace hkp := hkp.trans (Kp.grown qo_ rfl bhbw_2 hb);replace hpl := ZG hpl qo_ rfl hb;replace hbw := ZE hbw hb bhbw_2;refine EL.store rfl rfl q3 sz_3 rfl rfl rfl rfl ?_;intro w8 hq8 hg8;replace q2 := q2.gr hg8 n2_3;replace q4 := q4.gr hg8 n3_4.symm;replace qD := qD.gr hg8 n3_7.symm;replace hfr := hfr.trans (Zu.grown hg8 fun k e => by injection e with e; subst e; omega) hkp.size
    replace hkf := hkf.trans (.of (YJ q3 hg8));replace hkp := hkp.trans (Kp.grown q3 rfl bhbw_3 hg8);replace hpl := ZG hpl q3 rfl hg8;replace hbw := ZE hbw hg8 bhbw_3;replace q3 := hq8;clear hg8 hq8;refine EL.store rfl rfl q4 QJG rfl rfl rfl rfl ?_;intro w9 hq9 hg9;replace q2 := q2.gr hg9 n2_4;replace q3 := q3.gr hg9 n3_4;replace qD := qD.gr hg9 n4_7.symm;replace hfr := hfr.trans (Zu.grown hg9 fun k e => by injection e with e; subst e; omega) hkp.size
    replace hkf := hkf.trans (.of (YJ q4 hg9));replace hkp := hkp.trans (Kp.grown q4 rfl bhbw_4 hg9);replace hpl := ZG hpl q4 rfl hg9;replace hbw := ZE hbw hg9 bhbw_4;replace q4 := hq9;clear hg9 hq9;refine EL.nil (EX.toI (EXI.seq (ECI.ret (EXI.blk_ret ?_))))
    exact fun a0 ha0 => ⟨hkf, hkp, hfr, .inr ⟨rfl, hnN, _, q2, q3, q4, hpl, hbw⟩⟩
  ·
   clear hsoft hsofx q2 q3 q4 hbw qn2 qn3
   rintro Dm zs X hDm hall9 ⟨rfl, q2, q3, q4, hbw⟩ hkp9 hdef
   have hnil : (allD l (qL ts)) = [] := List.eq_nil_of_length_eq_zero (by have := congrArg List.length hall9; rw [QBd] at this; exact this.symm)
   refine EXI.blk (EXI.seq (ECI.seq (ECI.regionLD (EL.store rfl rfl q2 QJH rfl rfl rfl rfl ?_))));intro w10 hq10 hg10;replace q3 := q3.gr hg10 n2_3.symm;replace q4 := q4.gr hg10 n2_4.symm;replace hdef := (YJ q2 hg10).same _ _ hdef rfl;replace hbw := ZE hbw hg10 bhbw_2;replace q2 := hq10;clear hg10 hq10;refine EL.store rfl rfl q3 sz_3 rfl rfl rfl rfl ?_;intro w11 hq11 hg11;replace q2 := q2.gr hg11 n2_3;replace q4 := q4.gr hg11 n3_4.symm;replace hdef := (YJ q3 hg11).same _ _ hdef rfl;replace hbw := ZE hbw hg11 bhbw_3;replace q3 := hq11;clear hg11 hq11;refine EL.store rfl rfl q4 QJG rfl rfl rfl rfl ?_;intro w12 hq12 hg12;replace q2 := q2.gr hg12 n2_4;replace q3 := q3.gr hg12 n3_4;replace hdef := (YJ q4 hg12).same _ _ hdef rfl;replace hbw := ZE hbw hg12 bhbw_4;replace q4 := hq12;clear hg12 hq12;refine EL.nil (EX.ofD (EXI.seq (ECI.ret ?_)));have hmk : Z4 w.heap.size [({ target := .collected Dm, args := #[] } : Deferred)] w12 := fun d hd => ⟨Dm, Nat.le_trans hsz hDm, List.mem_singleton.1 hd, hdef⟩
   exact EXI.doneO hmk (by simp) (fun w' ht_ => (QG5 rfl rfl rfl rfl (QJl ((ht_.took.blk _ _ _ q2).at (j := 0) rfl)) (lv_3 ((ht_.took.blk _ _ _ q3).at (j := 0) rfl)) (QJk ((ht_.took.blk _ _ _ q4).at (j := 0) rfl)))) (fun w' ht_ => ⟨_, by rw [QE9 ht hnil], by rw [QE9 ht hnil]; exact QAp (Yv _ _ _ _) ht_.took, hbw.trans ht_.took.below⟩)
  ·
   clear hsoft hsofx q2 q3 q4 hbw qn2 qn3
   rintro Dm pre X hDm hne9 hall9 ⟨h0, slp, q2, q3, q4, hpl, hbw⟩ hkp9 hdef
   refine EXI.blk_ret (EXI.seq_ret ?_);have hmk : Z4 w.heap.size [({ target := .collected Dm, args := #[] } : Deferred)] X := fun d hd => ⟨Dm, Nat.le_trans hsz hDm, List.mem_singleton.1 hd, hdef⟩
   exact EXI.doneO hmk (by simp) (fun w' ht_ => (QG5 rfl rfl rfl rfl (QJl ((ht_.took.blk _ _ _ q2).at (j := 0) rfl)) (lv_3 ((ht_.took.blk _ _ _ q3).at (j := 0) rfl)) (QJk ((ht_.took.blk _ _ _ q4).at (j := 0) rfl)))) (fun w' ht_ => ⟨_, by rw [QE8 ht h0], by rw [QE8 ht h0]; exact QAp hpl ht_.took, hbw.trans ht_.took.below⟩)
 ·
  refine EL.val (Zn (r := true) rfl rfl (decide_eq_true (by omega))) rfl ?_
  refine EL.nil (EX.ofD (EXI.seq (ECI.yes rfl (ECI.seq (ECI.regionLD (EL.mv rfl rfl (EL.store rfl rfl q2 QJH rfl rfl rfl rfl ?_)))))));intro w13 hq13 hg13;replace q1 := q1.gr hg13 n1_2;replace q3 := q3.gr hg13 n2_3.symm;replace q4 := q4.gr hg13 n2_4.symm;replace hbw := ZE hbw hg13 bhbw_2;replace q2 := hq13;clear hg13 hq13;refine EL.store rfl rfl q3 sz_3 rfl rfl rfl rfl ?_;intro w14 hq14 hg14;replace q1 := q1.gr hg14 n1_3;replace q2 := q2.gr hg14 n2_3;replace q4 := q4.gr hg14 n3_4.symm;replace hbw := ZE hbw hg14 bhbw_3;replace q3 := hq14;clear hg14 hq14;refine EL.store rfl rfl q4 QJG rfl rfl rfl rfl ?_;intro w15 hq15 hg15;replace q1 := q1.gr hg15 n1_4;replace q2 := q2.gr hg15 n2_4;replace q3 := q3.gr hg15 n3_4;replace hbw := ZE hbw hg15 bhbw_4;replace q4 := hq15;clear hg15 hq15;refine EL.nil (EX.ofD (EXI.seq (ECI.ret (EXI.seq_ret ?_))))
  exact EXI.doneD (QG5 rfl rfl rfl rfl (QJl (q2.at (j := 0) rfl)) (lv_3 (q3.at (j := 0) rfl)) (QJk (q4.at (j := 0) rfl))) ⟨_, by rw [QGq ht], by rw [QGq ht]; exact Yv _ _ _ _, hbw⟩
section
variable {n : Nat} {σ : Sg} {w : World} {dst : Option Tmp} {ty : TypeId} {pos : String} {af : Array Edge} {g : Option (Nat × Bool)} {x y z : Operand} {at' : Array TypeId}
theorem QMs (a : Act) (_ : Env n σ a) : (execOp a.eval ⟨dst, .alloc 122, ty, pos, af, g⟩).run Try.prog w = .ok (.value (.pointer (some ⟨w.heap.size, 0, none⟩))) (w.alloc (.cells #[.pointer none] 122)) := by
 simp only [execOp]
 simp [go_sem]
end
theorem EQ.finD {P : Program} {n : Nat} {L : List Oper} {ds : List Deferred} {σ : Sg} {w : World} {Q : Exit → Act → World → Prop} (h : ∀ w', Below w.heap.size w w' → EXI n ds Q .normal σ w') : EQ P n L (fun w' => Below w.heap.size w w') (fun a' => ∀ w', Below w.heap.size w w' → Q .normal (addD ds a') w') [] σ := EQ.fin (Q := fun e a' w' => Q e (addD ds a') w') fun w' hw => EX.ofD (h w' hw)
section
variable {n : Nat} {σ : Sg} {w : World} {dst : Option Tmp} {ty : TypeId} {pos : String} {af : Array Edge} {g : Option (Nat × Bool)} {x y z : Operand}
theorem QGw (hx : evS σ x = some (.pointer none)) : ZI Try.prog n σ w ⟨dst, .binOp .eql 122 x (.const (.pointer none)) 122, ty, pos, af, g⟩ (.bool true) := fun a ha => by
 simp only [execOp, ha.eval hx]
 simp [go_sem]
theorem QFC {p : Addr} (hx : evS σ x = some (.pointer (some p))) : ZI Try.prog n σ w ⟨dst, .binOp .eql 122 x (.const (.pointer none)) 122, ty, pos, af, g⟩ (.bool false) := fun a ha => by
 simp only [execOp, ha.eval hx]
 simp [go_sem]
end
/-- the best draft so far, if there is one -/
def QA1 (W : World) (b : Nat) (v : Value) : Option Dr → Prop
 | none => v = .pointer none
 | some d => OwnDr W b v d
theorem QA1.below {W W' : World} {b : Nat} {v : Value} {o : Option Dr} (h : QA1 W b v o) (hb : Below W.heap.size W W') : QA1 W' b v o := by
 cases o with
 | none => exact h
 | some d => exact OwnDr.below h hb
theorem QA1.soft {W W' : World} {b b2 m : Nat} {U : List Nat} {v : Value} {o : Option Dr} (h : QA1 W b v o) (hs : Soft b2 m U W W') (h1 : memB U 124 = false) (h2 : memB U 87 = false) : QA1 W' b v o := by
 cases o with
 | none => exact h
 | some d => exact OwnDr.soft h hs h1 h2
set_option maxHeartbeats 1000000 in
set_option maxRecDepth 100000 in
theorem QHQ {l : LK} {ts : List TW} {most : Int} {v : Value} {w : World} {B : Nat} (hr : Rd w B 5 v ts.length (twsC ts)) (hB : B ≤ w.heap.size) :
  Calls Try.prog 25 #[.agg #[.int .i64 l.length, .int .i64 l.cycle, .int .i64 l.turn, .int .i64 l.fill, .int .i64 l.save, .bool l.high], v, .int .i64 most] w fun e w' => ∃ sl, e = .returned (.tuple #[sl, .int .i64 (Y5 l ts most).2.1, .int .i64 (Y5 l ts most).2.2]) ∧ w'.ownsRow w.heap.size 87 2 sl (Y5 l ts most).1.length (spsC (Y5 l ts most).1) ∧ Below w.heap.size w w' := by
 obtain ⟨At, ct, rfl, _⟩ := hr.shape;have hbw := Below.refl w.heap.size w;refine EC.marks 62 Try.func25 rfl rfl rfl (ECI.seq (ECI.regionLD (EL.newP (QDN rfl) rfl ?_)));intro g1 w1 q1 hb1 hg1 hl1;have bhbw_1 := Nat.le_trans hbw.size hg1;replace hbw := bo_ hbw hb1;clear hb1 hg1 hl1;refine EL.newP (bx_3 rfl rfl) rfl ?_;intro g2 w2 q2 hb2 hg2 hl2;have n1_2 := q1.na hg2;have bhbw_2 := Nat.le_trans hbw.size hg2;replace q1 := q1.bl hb2;replace hbw := bo_ hbw hb2;clear hb2 hg2 hl2;refine EL.as rfl rfl (EL.as rfl rfl (EL.as rfl rfl (EL.nil (EX.ofD (EXI.seq (ECI.seq (ECI.seq (ECI.regionLD (EL.val (QB2 rfl (q1.at (j := 0) rfl) (q1.at (j := 1) rfl) (q1.at (j := 2) rfl) (q1.at (j := 3) rfl) (q1.at (j := 4) rfl) (q1.at (j := 5) rfl)) rfl ?_)))))))));refine EL.mv rfl rfl (EL.call (cA2 cF45 rfl rfl) rfl (QAj (hr.below (hbw.mono hB)) (Nat.le_trans hB hbw.size)) ?_)
 rintro e w3 ⟨rfl, hc3⟩
 refine ⟨_, rfl, ?_⟩;replace q1 := q1.bl hc3;replace q2 := q2.bl hc3;replace hbw := bo_ hbw hc3;clear hc3;refine EL.as rfl rfl (EL.nil (EX.ofD (EXI.seq (ECI.seq (ECI.regionLD (EL.mv rfl rfl ?_))))))
 by_cases ht : towE l ts = 0
 ·
  refine EL.val (Zn (r := false) rfl rfl (decide_eq_false (by omega))) rfl ?_
  refine EL.nil (EX.ofD (EXI.seq (ECI.no rfl (ECI.skip (EXI.seq (ECI.seq (ECI.regionLD (EL.newP QMs rfl ?_))))))));intro g4 w4 q4 hb4 hg4 hl4;have n1_4 := q1.na hg4;have n2_4 := q2.na hg4;have bhbw_4 := Nat.le_trans hbw.size hg4;replace q1 := q1.bl hb4;replace q2 := q2.bl hb4;replace hbw := bo_ hbw hb4;clear hb4 hg4 hl4;refine EL.nil (EX.ofD (EXI.seq (ECI.seq (ECI.seq (ECI.regionLD (EL.val (QB2 rfl (q1.at (j := 0) rfl) (q1.at (j := 1) rfl) (q1.at (j := 2) rfl) (q1.at (j := 3) rfl) (q1.at (j := 4) rfl) (q1.at (j := 5) rfl)) rfl (EL.mv rfl rfl (EL.call (cA2 cF46 rfl rfl) rfl (QGK _) ?_))))))))
  rintro e w5 ⟨⟨g2n, g3n, rfl, qn2, qn3, hgn2, hgn3⟩, hc5⟩
  refine ⟨_, rfl, ?_⟩;replace q1 := q1.bl hc5;replace q2 := q2.bl hc5;replace q4 := q4.bl hc5;replace hbw := bo_ hbw hc5;clear hc5;refine EL.nil (EX.ofD (EXI.seq (ECI.block ?_)));have ls_2 := q2.lt;have ls_4 := q4.lt;have hsz := hbw.size;obtain ⟨hlk, hn8, htw⟩ := QBh ht;have hsoft : Y0 w5.heap.size w5.heap.size [145, 122] (fun pre X => pre.length ≤ (thrL most (allD l (qL ts))).length ∧ ∃ vb, Blk X g2 3 #[.int .i64 most] ∧ Blk X g4 122 #[vb] ∧ QA1 X w5.heap.size vb (thrB ((thrL most (allD l (qL ts))).take pre.length)) ∧ Below w.heap.size w X) := fun s A B' ⟨h1, vb, h2, h3, h4, h5⟩ hs => ⟨h1, vb, hs.blk h2 rfl, hs.low h3 ls_4 ls_4, h4.soft hs rfl rfl, (hs.mono2 hsz).below h5 h5.size (Nat.le_refl _)⟩
  have hsofx : Y0 w5.heap.size w5.heap.size [145, 122] (fun pre X => ∃ vb, Blk X g2 3 #[.int .i64 most] ∧ Blk X g4 122 #[vb] ∧ QA1 X w5.heap.size vb (thrB (thrL most (allD l (qL ts)))) ∧ Below w.heap.size w X) := fun s A B' ⟨vb, h2, h3, h4, h5⟩ hs => ⟨vb, hs.blk h2 rfl, hs.low h3 ls_4 ls_4, h4.soft hs rfl rfl, (hs.mono2 hsz).below h5 h5.size (Nat.le_refl _)⟩
  refine QKx (U := [145, 122]) (xi := 0) (Fr := fun l_ => Zu (l_ + 1)) (ok := fun x X => okP l (qL ts) w5.heap.size x X) (n0 := w.heap.size) (S := [122]) (σ1 := fun x => _) rfl (fun args w => by kernel_rfl) rfl (QD3 rfl (QG6 ht) hn8 qn2 qn3 (hr.below (hbw.mono hB)) (Nat.le_trans hB hsz) hsz) (QGE (by omega)) hsz (fun pre X => pre.length ≤ (thrL most (allD l (qL ts))).length ∧ ∃ vb, Blk X g2 3 #[.int .i64 most] ∧ Blk X g4 122 #[vb] ∧ QA1 X w5.heap.size vb (thrB ((thrL most (allD l (qL ts))).take pre.length)) ∧ Below w.heap.size w X) (fun pre X => ∃ vb, Blk X g2 3 #[.int .i64 most] ∧ Blk X g4 122 #[vb] ∧ QA1 X w5.heap.size vb (thrB (thrL most (allD l (qL ts)))) ∧ Below w.heap.size w X) hsoft hsofx ⟨Nat.zero_le _, _, q2, q4, rfl, hbw⟩ (fun x A B' row h hg hr => OwnDr.soft (b := w5.heap.size) (m := w5.heap.size) (U := []) h ⟨row, hg, fun g e => .inr (hr g e)⟩ rfl rfl) (fun l_ x X K hK => by
    refine ECI.regionL (Zs YU) (by kernel_rfl) ?_
    refine EL.as rfl rfl (EL.nil (EX.toI ?_))
    exact fun a' ha' => hK a' ha') ?_ ?_ ?_
  ·
   clear hsoft hsofx q2 q4 hbw qn2 qn3
   rintro la9 pre ⟨x1, x2⟩ X hpf hokx ⟨hkl, vb, q2, q4, hbv, hbw⟩ hsz9
   obtain ⟨hnN, ex⟩ := QFQ hpf
   dsimp only at ex
   subst ex;have hdx : OwnDr X w5.heap.size x2 ((allD l (qL ts)).getD pre.length dr0) := hokx;have hdx0 := hdx;obtain ⟨bd, slp, rfl, hbd, qD, hpl⟩ := hdx.at_;obtain ⟨Ap, cp, rfl, _⟩ := (Rd.of_own hpl).shape;have hkp := Kp.refl w.heap.size [122] X;have hkf := ZT.refl w5.heap.size X;have hfr := Zu.refl (b := w5.heap.size + 2) X;have hXV := Nat.le_of_succ_le (Nat.le_of_succ_le hsz9);have hmore := QJB (most := most) hkl hnN;have hstop := QI_ (most := most) (l := (allD l (qL ts))) hkl;have hstep := fun h => QJA (most := most) (l := (allD l (qL ts))) (k := pre.length) h
   generalize (allD l (qL ts)).getD pre.length dr0 = dd at *
   have n2_6 := Yq (U := [124]) q2 qD rfl rfl;have n4_6 := Yq (U := [124]) q4 qD rfl rfl;refine ECI.block (ECI.seq (ECI.seq ?_))
   by_cases hc : most < dd.s.cost
   ·
    refine ECI.regionO (by repeat (first | exact Yk | exact YU | refine Zs ?_ | refine YR ?_)) (by kernel_rfl) (EO.regionQ (by kernel_rfl) (by kernel_rfl) ?_)
    refine EQ.mv rfl rfl ?_;refine EQ.val (fun _ hw => (ZH rfl)) rfl ?_
    refine EQ.val (fun _ hw => (Ze rfl)) rfl ?_
    refine EQ.val (fun _ hw => (YS rfl)) rfl ?_
    refine EQ.val (fun _ hw => (ld_3 rfl (ZC hw (qD.at (j := 14) rfl)))) rfl ?_
    refine EQ.val (fun _ hw => (ld_3 rfl (ZC hw (q2.at (j := 0) rfl)))) rfl ?_
    refine EQ.val (fun _ hw => (Zw (r := true) rfl rfl (decide_eq_true (by omega)))) rfl ?_
    refine EQ.fin (fun w7 hw_ => ?_)
    refine EX.toI ?_;replace q2 := q2.bl hw_;replace q4 := q4.bl hw_;replace qD := qD.bl hw_;replace hfr := hfr.trans (Zu.below hw_) hkp.size;replace hkp := hkp.trans (Kp.of_below hw_ (Nat.le_trans hsz (Nat.le_trans hXV hkp.size)));replace hkf := hkf.trans (ZT.below hw_);replace hbv := hbv.below hw_;replace hdx0 := hdx0.below hw_;replace hbw := bo_ hbw hw_;clear hw_;refine EXI.seq (ECI.yes rfl (ECI.exit (EXI.seq_exit (EXI.blk_other rfl ?_))))
    exact fun a0 ha0 => ⟨hkf, hkp, hfr, .inr ⟨rfl, _, q2, q4, by rw [hstop hc, List.take_length] at hbv; exact hbv, hbw⟩⟩
   ·
    refine ECI.regionO (by repeat (first | exact Yk | exact YU | refine Zs ?_ | refine YR ?_)) (by kernel_rfl) (EO.regionQ (by kernel_rfl) (by kernel_rfl) ?_)
    refine EQ.mv rfl rfl ?_;refine EQ.val (fun _ hw => (ZH rfl)) rfl ?_
    refine EQ.val (fun _ hw => (Ze rfl)) rfl ?_
    refine EQ.val (fun _ hw => (YS rfl)) rfl ?_
    refine EQ.val (fun _ hw => (ld_3 rfl (ZC hw (qD.at (j := 14) rfl)))) rfl ?_
    refine EQ.val (fun _ hw => (ld_3 rfl (ZC hw (q2.at (j := 0) rfl)))) rfl ?_
    refine EQ.val (fun _ hw => (Zw (r := false) rfl rfl (decide_eq_false (by omega)))) rfl ?_
    refine EQ.fin (fun w8 hw_ => ?_)
    refine EX.toI ?_;replace q2 := q2.bl hw_;replace q4 := q4.bl hw_;replace qD := qD.bl hw_;replace hfr := hfr.trans (Zu.below hw_) hkp.size;replace hkp := hkp.trans (Kp.of_below hw_ (Nat.le_trans hsz (Nat.le_trans hXV hkp.size)));replace hkf := hkf.trans (ZT.below hw_);replace hbv := hbv.below hw_;replace hdx0 := hdx0.below hw_;replace hbw := bo_ hbw hw_;clear hw_;refine EXI.seq (ECI.no rfl (ECI.skip (EXI.seq (ECI.seq ?_))));have hkn := hmore (by omega)
    have hst := hstep hkn
    cases hb9 : thrB ((thrL most (allD l (qL ts))).take pre.length) with
    | none =>
      have hvb : vb = .pointer none := by rw [hb9] at hbv; exact hbv
      subst hvb;refine ECI.regionO (by repeat (first | exact Yk | exact YU | refine Zs ?_ | refine YR ?_)) (by kernel_rfl) (EO.regionQ (by kernel_rfl) (by kernel_rfl) ?_)
      refine EQ.val (fun _ hw => (Z7 rfl (ZC hw (q4.at (j := 0) rfl)))) rfl ?_
      refine EQ.val (fun _ hw => (QGw rfl)) rfl ?_
      refine EQ.mv rfl rfl (EQ.skip rfl rfl rfl rfl (EQ.skip rfl rfl rfl rfl (EQ.skip rfl rfl rfl rfl (EQ.skip rfl rfl rfl rfl (EQ.skip rfl rfl rfl rfl (EQ.skip rfl rfl rfl rfl (EQ.skip rfl rfl rfl rfl (EQ.skip rfl rfl rfl rfl (EQ.skip rfl rfl rfl rfl ?_)))))))));refine EQ.skip rfl rfl rfl rfl (EQ.skip rfl rfl rfl rfl (EQ.skip rfl rfl rfl rfl (EQ.skip rfl rfl rfl rfl (EQ.skip rfl rfl rfl rfl (EQ.skip rfl rfl rfl rfl (EQ.skip rfl rfl rfl rfl (EQ.skip rfl rfl rfl rfl ?_)))))));refine EQ.val (fun _ hw => (YH rfl rfl)) rfl ?_
      refine EQ.fin (fun w9 hw_ => ?_)
      refine EX.toI ?_;replace q2 := q2.bl hw_;replace q4 := q4.bl hw_;replace qD := qD.bl hw_;replace hfr := hfr.trans (Zu.below hw_) hkp.size;replace hkp := hkp.trans (Kp.of_below hw_ (Nat.le_trans hsz (Nat.le_trans hXV hkp.size)));replace hkf := hkf.trans (ZT.below hw_);replace hbv := hbv.below hw_;replace hdx0 := hdx0.below hw_;replace hbw := bo_ hbw hw_;clear hw_;refine EXI.seq (ECI.yes rfl ?_);refine ECI.regionL (by repeat (first | exact Yk | exact YU | refine Zs ?_ | refine YR ?_)) (by kernel_rfl) ?_
      refine EL.mv rfl rfl (EL.store rfl rfl q4 QFH rfl rfl rfl rfl ?_);intro w10 hq10 hg10;replace q2 := q2.gr hg10 n2_4;replace qD := qD.gr hg10 n4_6.symm;replace hfr := hfr.trans (Zu.grown hg10 fun k e => by injection e with e; subst e; omega) hkp.size
      replace hkp := hkp.trans (Kp.grown q4 rfl bhbw_4 hg10);replace hkf := hkf.trans (.of (YJ q4 hg10))
      skip
      replace hdx0 := hdx0.turn (TurnsS.turn (p := fun _ => True) (U := [122]) .refl hg10 trivial rfl q4) rfl rfl
      replace hbw := ZE hbw hg10 bhbw_4;replace q4 := hq10;clear hg10 hq10;refine EL.nil (EX.toI (EXI.blk ?_));have hup : updB none dd = some dd := rfl
      exact fun a0 ha0 => ⟨hkf, hkp, hfr, .inl ⟨rfl, by rw [List.length_append]; exact hkn, _, q2, q4, by rw [List.length_append]; show QA1 _ _ _ (thrB (List.take (pre.length + 1) _)); rw [hst, hb9, hup]; exact hdx0, hbw⟩⟩
    | some ee =>
      have hbv2 := hbv;rw [hb9] at hbv2;obtain ⟨be, sle, rfl, hbe, qE, _⟩ := OwnDr.at_ hbv2
      by_cases hup_ : ee.s.up < dd.s.up
      ·
       refine ECI.regionO (by repeat (first | exact Yk | exact YU | refine Zs ?_ | refine YR ?_)) (by kernel_rfl) (EO.regionQ (by kernel_rfl) (by kernel_rfl) ?_)
       refine EQ.val (fun _ hw => (Z7 rfl (ZC hw (q4.at (j := 0) rfl)))) rfl ?_
       refine EQ.val (fun _ hw => (QFC rfl)) rfl ?_
       refine EQ.mv rfl rfl (EQ.mg rfl rfl rfl rfl ?_);refine EQ.valg rfl rfl (fun _ hw => (ZH rfl)) rfl ?_
       refine EQ.valg rfl rfl (fun _ hw => (Ze rfl)) rfl ?_
       refine EQ.valg rfl rfl (fun _ hw => (ZN rfl)) rfl ?_
       refine EQ.valg rfl rfl (fun _ hw => (ZW rfl)) rfl ?_
       refine EQ.valg rfl rfl (fun _ hw => (Zf rfl)) rfl ?_
       refine EQ.valg rfl rfl (fun _ hw => (Y8 rfl)) rfl ?_
       refine EQ.valg rfl rfl (fun _ hw => (ld_3 rfl (ZC hw (qD.at (j := 6) rfl)))) rfl ?_
       refine EQ.valg rfl rfl (fun _ hw => (Z7 rfl (ZC hw (q4.at (j := 0) rfl)))) rfl ?_
       refine EQ.valg rfl rfl (fun _ hw => (ZH rfl)) rfl ?_
       refine EQ.valg rfl rfl (fun _ hw => (Ze rfl)) rfl ?_
       refine EQ.valg rfl rfl (fun _ hw => (ZN rfl)) rfl ?_
       refine EQ.valg rfl rfl (fun _ hw => (ZW rfl)) rfl ?_
       refine EQ.valg rfl rfl (fun _ hw => (Zf rfl)) rfl ?_
       refine EQ.valg rfl rfl (fun _ hw => (Y8 rfl)) rfl ?_
       refine EQ.valg rfl rfl (fun _ hw => (ld_3 rfl (ZC hw (qE.at (j := 6) rfl)))) rfl ?_
       refine EQ.valg rfl rfl (fun _ hw => (Zw (r := true) rfl rfl (decide_eq_true (by omega)))) rfl ?_
       refine EQ.val (fun _ hw => (Zz rfl rfl)) rfl ?_
       refine EQ.fin (fun w12 hw_ => ?_)
       refine EX.toI ?_;replace q2 := q2.bl hw_;replace q4 := q4.bl hw_;replace qD := qD.bl hw_;replace qE := qE.bl hw_;replace hfr := hfr.trans (Zu.below hw_) hkp.size;replace hkp := hkp.trans (Kp.of_below hw_ (Nat.le_trans hsz (Nat.le_trans hXV hkp.size)));replace hkf := hkf.trans (ZT.below hw_);replace hbv := hbv.below hw_;replace hdx0 := hdx0.below hw_;replace hbw := bo_ hbw hw_;clear hw_;refine EXI.seq (ECI.yes rfl ?_);refine ECI.regionL (by repeat (first | exact Yk | exact YU | refine Zs ?_ | refine YR ?_)) (by kernel_rfl) ?_
       refine EL.mv rfl rfl (EL.store rfl rfl q4 QFH rfl rfl rfl rfl ?_);intro w13 hq13 hg13;replace q2 := q2.gr hg13 n2_4;replace qD := qD.gr hg13 n4_6.symm;replace hfr := hfr.trans (Zu.grown hg13 fun k e => by injection e with e; subst e; omega) hkp.size
       replace hkp := hkp.trans (Kp.grown q4 rfl bhbw_4 hg13);replace hkf := hkf.trans (.of (YJ q4 hg13))
       skip
       replace hdx0 := hdx0.turn (TurnsS.turn (p := fun _ => True) (U := [122]) .refl hg13 trivial rfl q4) rfl rfl
       replace hbw := ZE hbw hg13 bhbw_4;replace q4 := hq13;clear hg13 hq13;refine EL.nil (EX.toI (EXI.blk ?_));have hup : updB (some ee) dd = some dd := if_pos hup_
       exact fun a0 ha0 => ⟨hkf, hkp, hfr, .inl ⟨rfl, by rw [List.length_append]; exact hkn, _, q2, q4, by rw [List.length_append]; show QA1 _ _ _ (thrB (List.take (pre.length + 1) _)); rw [hst, hb9, hup]; exact hdx0, hbw⟩⟩
      ·
       refine ECI.regionO (by repeat (first | exact Yk | exact YU | refine Zs ?_ | refine YR ?_)) (by kernel_rfl) (EO.regionQ (by kernel_rfl) (by kernel_rfl) ?_)
       refine EQ.val (fun _ hw => (Z7 rfl (ZC hw (q4.at (j := 0) rfl)))) rfl ?_
       refine EQ.val (fun _ hw => (QFC rfl)) rfl ?_
       refine EQ.mv rfl rfl (EQ.mg rfl rfl rfl rfl ?_);refine EQ.valg rfl rfl (fun _ hw => (ZH rfl)) rfl ?_
       refine EQ.valg rfl rfl (fun _ hw => (Ze rfl)) rfl ?_
       refine EQ.valg rfl rfl (fun _ hw => (ZN rfl)) rfl ?_
       refine EQ.valg rfl rfl (fun _ hw => (ZW rfl)) rfl ?_
       refine EQ.valg rfl rfl (fun _ hw => (Zf rfl)) rfl ?_
       refine EQ.valg rfl rfl (fun _ hw => (Y8 rfl)) rfl ?_
       refine EQ.valg rfl rfl (fun _ hw => (ld_3 rfl (ZC hw (qD.at (j := 6) rfl)))) rfl ?_
       refine EQ.valg rfl rfl (fun _ hw => (Z7 rfl (ZC hw (q4.at (j := 0) rfl)))) rfl ?_
       refine EQ.valg rfl rfl (fun _ hw => (ZH rfl)) rfl ?_
       refine EQ.valg rfl rfl (fun _ hw => (Ze rfl)) rfl ?_
       refine EQ.valg rfl rfl (fun _ hw => (ZN rfl)) rfl ?_
       refine EQ.valg rfl rfl (fun _ hw => (ZW rfl)) rfl ?_
       refine EQ.valg rfl rfl (fun _ hw => (Zf rfl)) rfl ?_
       refine EQ.valg rfl rfl (fun _ hw => (Y8 rfl)) rfl ?_
       refine EQ.valg rfl rfl (fun _ hw => (ld_3 rfl (ZC hw (qE.at (j := 6) rfl)))) rfl ?_
       refine EQ.valg rfl rfl (fun _ hw => (Zw (r := false) rfl rfl (decide_eq_false (by omega)))) rfl ?_
       refine EQ.val (fun _ hw => (Zz rfl rfl)) rfl ?_
       refine EQ.fin (fun w14 hw_ => ?_)
       refine EX.toI ?_;replace q2 := q2.bl hw_;replace q4 := q4.bl hw_;replace qD := qD.bl hw_;replace qE := qE.bl hw_;replace hfr := hfr.trans (Zu.below hw_) hkp.size;replace hkp := hkp.trans (Kp.of_below hw_ (Nat.le_trans hsz (Nat.le_trans hXV hkp.size)));replace hkf := hkf.trans (ZT.below hw_);replace hbv := hbv.below hw_;replace hdx0 := hdx0.below hw_;replace hbw := bo_ hbw hw_;clear hw_;refine EXI.seq (ECI.no rfl (ECI.skip (EXI.blk ?_)));have hup : updB (some ee) dd = some ee := if_neg hup_
       exact fun a0 ha0 => ⟨hkf, hkp, hfr, .inl ⟨rfl, by rw [List.length_append]; exact hkn, _, q2, q4, by rw [List.length_append]; show QA1 _ _ _ (thrB (List.take (pre.length + 1) _)); rw [hst, hb9, hup]; rw [hb9] at hbv; exact hbv, hbw⟩⟩
  ·
   clear hsoft hsofx q2 q4 hbw qn2 qn3
   rintro Dm zs X hDm hall9 ⟨hkl, vb, q2, q4, hbv, hbw⟩ hkp9 hdef
   have hzl : zs.length = (allD l (qL ts)).length := by have := congrArg List.length hall9; rwa [List.length_map, QBd] at this
   have hze : zs.length = (thrL most (allD l (qL ts))).length := by have := QHU (most := most) (l := (allD l (qL ts))); omega
   rw [hze, List.take_length] at hbv;clear hkl;refine EXI.blk (EXI.seq (ECI.seq (ECI.seq (ECI.regionLD (EL.val (Z7 rfl (q4.at (j := 0) rfl)) rfl ?_)))))
   cases hb9 : thrB (thrL most (allD l (qL ts))) with
   | none =>
     have hvb : vb = .pointer none := by rw [hb9] at hbv; exact hbv
     subst hvb;refine EL.val (QGw rfl) rfl (EL.nil (EX.ofD (EXI.seq (ECI.yes rfl (ECI.seq (ECI.regionLD (EL.as rfl rfl (EL.as rfl rfl (EL.as rfl rfl ?_)))))))));refine EL.nil (EX.ofD (EXI.seq (ECI.ret (EXI.seq_ret ?_))));have hmk : Z4 w.heap.size [({ target := .collected Dm, args := #[] } : Deferred)] X := fun d hd => ⟨Dm, Nat.le_trans hsz hDm, List.mem_singleton.1 hd, hdef⟩
     exact EXI.doneO hmk (by simp) (fun w' ht_ => (res3 rfl rfl rfl rfl)) (fun w' ht_ => ⟨_, by rw [QCO ht hb9], by rw [QCO ht hb9]; exact QAp (Yv _ _ _ _) ht_.took, hbw.trans ht_.took.below⟩)
   | some ee =>
     rw [hb9] at hbv;obtain ⟨be, sle, rfl, hbe, qE, hple⟩ := OwnDr.at_ hbv;replace hple := YI hple hsz;obtain ⟨Ae, ce, rfl, _⟩ := (Rd.of_own hple).shape;refine EL.val (QFC rfl) rfl (EL.nil (EX.ofD (EXI.seq (ECI.no rfl (ECI.skip (EXI.seq (ECI.seq ?_)))))));refine ECI.regionD (EO.regionQ (by kernel_rfl) (by kernel_rfl) ?_)
     refine EQ.val (fun _ hw => (Z7 rfl (ZC hw (q4.at (j := 0) rfl)))) rfl ?_
     refine EQ.val (fun _ hw => (ZH rfl)) rfl ?_
     refine EQ.val (fun _ hw => (QAW rfl)) rfl ?_
     refine EQ.val (fun _ hw => (QED rfl (ZC hw (qE.at (j := 15) rfl)))) rfl ?_
     refine EQ.val (fun _ hw => (Z7 rfl (ZC hw (q4.at (j := 0) rfl)))) rfl ?_
     refine EQ.val (fun _ hw => (ZH rfl)) rfl ?_
     refine EQ.val (fun _ hw => (Ze rfl)) rfl ?_
     refine EQ.val (fun _ hw => (YS rfl)) rfl ?_
     refine EQ.val (fun _ hw => (ld_3 rfl (ZC hw (qE.at (j := 14) rfl)))) rfl ?_
     refine EQ.val (fun _ hw => (ZZ rfl)) rfl ?_
     refine EQ.val (fun _ hw => (ZZ rfl)) rfl ?_
     refine EQ.val (fun _ hw => (ZZ rfl)) rfl ?_
     refine EQ.finD (fun w16 hw_ => ?_)
     replace q2 := q2.bl hw_;replace q4 := q4.bl hw_;replace qE := qE.bl hw_;replace hdef := (hw_.block Dm (Array.getElem?_eq_some_iff.1 hdef).1).trans hdef;replace hple := ZB hple hw_ (Nat.le_refl _);replace hbw := bo_ hbw hw_;clear hw_;refine EXI.seq (ECI.ret ?_);have hmk : Z4 w.heap.size [({ target := .collected Dm, args := #[] } : Deferred)] w16 := fun d hd => ⟨Dm, Nat.le_trans hsz hDm, List.mem_singleton.1 hd, hdef⟩
     exact EXI.doneO hmk (by simp) (fun w' ht_ => (res3 rfl rfl rfl rfl)) (fun w' ht_ => ⟨_, by rw [QCN ht hb9], by rw [QCN ht hb9]; exact QAp hple ht_.took, hbw.trans ht_.took.below⟩)
  ·
   clear hsoft hsofx q2 q4 hbw qn2 qn3
   rintro Dm pre X hDm hne9 hall9 ⟨vb, q2, q4, hbv, hbw⟩ hkp9 hdef
   refine EXI.blk_here (EXI.seq (ECI.seq (ECI.seq (ECI.regionLD (EL.val (Z7 rfl (q4.at (j := 0) rfl)) rfl ?_)))))
   cases hb9 : thrB (thrL most (allD l (qL ts))) with
   | none =>
     have hvb : vb = .pointer none := by rw [hb9] at hbv; exact hbv
     subst hvb;refine EL.val (QGw rfl) rfl (EL.nil (EX.ofD (EXI.seq (ECI.yes rfl (ECI.seq (ECI.regionLD (EL.as rfl rfl (EL.as rfl rfl (EL.as rfl rfl ?_)))))))));refine EL.nil (EX.ofD (EXI.seq (ECI.ret (EXI.seq_ret ?_))));have hmk : Z4 w.heap.size [({ target := .collected Dm, args := #[] } : Deferred)] X := fun d hd => ⟨Dm, Nat.le_trans hsz hDm, List.mem_singleton.1 hd, hdef⟩
     exact EXI.doneO hmk (by simp) (fun w' ht_ => (res3 rfl rfl rfl rfl)) (fun w' ht_ => ⟨_, by rw [QCO ht hb9], by rw [QCO ht hb9]; exact QAp (Yv _ _ _ _) ht_.took, hbw.trans ht_.took.below⟩)
   | some ee =>
     rw [hb9] at hbv;obtain ⟨be, sle, rfl, hbe, qE, hple⟩ := OwnDr.at_ hbv;replace hple := YI hple hsz;obtain ⟨Ae, ce, rfl, _⟩ := (Rd.of_own hple).shape;refine EL.val (QFC rfl) rfl (EL.nil (EX.ofD (EXI.seq (ECI.no rfl (ECI.skip (EXI.seq (ECI.seq ?_)))))));refine ECI.regionD (EO.regionQ (by kernel_rfl) (by kernel_rfl) ?_)
     refine EQ.val (fun _ hw => (Z7 rfl (ZC hw (q4.at (j := 0) rfl)))) rfl ?_
     refine EQ.val (fun _ hw => (ZH rfl)) rfl ?_
     refine EQ.val (fun _ hw => (QAW rfl)) rfl ?_
     refine EQ.val (fun _ hw => (QED rfl (ZC hw (qE.at (j := 15) rfl)))) rfl ?_
     refine EQ.val (fun _ hw => (Z7 rfl (ZC hw (q4.at (j := 0) rfl)))) rfl ?_
     refine EQ.val (fun _ hw => (ZH rfl)) rfl ?_
     refine EQ.val (fun _ hw => (Ze rfl)) rfl ?_
     refine EQ.val (fun _ hw => (YS rfl)) rfl ?_
     refine EQ.val (fun _ hw => (ld_3 rfl (ZC hw (qE.at (j := 14) rfl)))) rfl ?_
     refine EQ.val (fun _ hw => (ZZ rfl)) rfl ?_
     refine EQ.val (fun _ hw => (ZZ rfl)) rfl ?_
     refine EQ.val (fun _ hw => (ZZ rfl)) rfl ?_
     refine EQ.finD (fun w18 hw_ => ?_)
     replace q2 := q2.bl hw_;replace q4 := q4.bl hw_;replace qE := qE.bl hw_;replace hdef := (hw_.block Dm (Array.getElem?_eq_some_iff.1 hdef).1).trans hdef;replace hple := ZB hple hw_ (Nat.le_refl _);replace hbw := bo_ hbw hw_;clear hw_;refine EXI.seq (ECI.ret ?_);have hmk : Z4 w.heap.size [({ target := .collected Dm, args := #[] } : Deferred)] w18 := fun d hd => ⟨Dm, Nat.le_trans hsz hDm, List.mem_singleton.1 hd, hdef⟩
     exact EXI.doneO hmk (by simp) (fun w' ht_ => (res3 rfl rfl rfl rfl)) (fun w' ht_ => ⟨_, by rw [QCN ht hb9], by rw [QCN ht hb9]; exact QAp hple ht_.took, hbw.trans ht_.took.below⟩)
 ·
  refine EL.val (Zn (r := true) rfl rfl (decide_eq_true (by omega))) rfl ?_
  refine EL.nil (EX.ofD (EXI.seq (ECI.yes rfl (ECI.seq (ECI.regionLD (EL.mv rfl rfl (EL.as rfl rfl (EL.as rfl rfl (EL.as rfl rfl ?_)))))))));refine EL.nil (EX.ofD (EXI.seq (ECI.ret (EXI.seq_ret ?_))))
  exact EXI.doneD (res3 rfl rfl rfl rfl) ⟨_, by rw [QHV ht], by rw [QHV ht]; exact Yv _ _ _ _, hbw⟩
section
variable {n : Nat} {σ : Sg} {w : World} {dst : Option Tmp} {ty : TypeId} {pos : String} {af : Array Edge} {g : Option (Nat × Bool)} {x y z : Operand} {at' : Array TypeId}
theorem QHK {x0 x1 : Operand} {z0 : Int} {z1 : Int} (h0 : evS σ x0 = some (.int .i64 z0)) (h1 : evS σ x1 = some (.int .i64 z1)) : ZI Try.prog n σ w ⟨dst, .build 112 #[(0, x0), (1, x1)], ty, pos, af, g⟩ (.agg #[.int .i64 z0, .int .i64 z1]) := fun a ha => by
 simp only [execOp, List.map_toArray, List.map_cons, List.map_nil, ha.eval h0, ha.eval h1]
 go_simp
theorem QMt (a : Act) (_ : Env n σ a) : (execOp a.eval ⟨dst, .alloc 112, ty, pos, af, g⟩).run Try.prog w = .ok (.value (.pointer (some ⟨w.heap.size, 0, none⟩))) (w.alloc (.cells #[.int .i64 0, .int .i64 0] 112)) := by
 simp only [execOp]
 simp [go_sem]
theorem QMG : (Try.prog.info? 112).map (·.size) = some 2 := by kernel_rfl
theorem QMg {b o : Nat} {v0 v1 : Value} (hx : evS σ x = some (.pointer (some ⟨b, o, none⟩))) (c0 : w.cell? ⟨b, o, none⟩ = some v0) (c1 : w.cell? ⟨b, o + 1, none⟩ = some v1) : ZI Try.prog n σ w ⟨dst, .load 112 x, ty, pos, af, g⟩ (.agg #[v0, v1]) := fun a ha => by
 simp only [execOp, ha.eval hx]
 simp [go_sem, c0, c1]
theorem QLl    : ZI Try.prog n σ w ⟨dst, .build 112 #[], ty, pos, af, g⟩ (.agg #[.int .i64 0, .int .i64 0]) := fun a _ => by
 simp only [execOp, List.map_toArray, List.map_nil]
 go_simp
theorem QHa {b o m c lo hi r : Nat} (hx : evS σ x = some (.slice (some ⟨b, o, none⟩) m c)) (hl : evS σ y = some (.int .i64 (lo : Int))) (hh : evS σ z = some (.int .i64 (hi : Int))) (h1 : lo ≤ hi) (h2 : hi ≤ c) (hr : (if c = lo then o else o + lo * 5) = r) : ZI Try.prog n σ w ⟨dst, .slice 24 x (some y) (some z) none, ty, pos, af, g⟩ (.slice (some ⟨b, r, none⟩) (hi - lo) (c - lo)) := fun a ha => by
 have k0 : (0 : Int) ≤ (lo : Int) := Int.natCast_nonneg _;have k1 : (0 : Int) ≤ (hi : Int) := Int.natCast_nonneg _;have k2 : (lo : Int) ≤ (hi : Int) := by omega
 have k3 : (hi : Int) ≤ (c : Int) := by omega
 subst hr
 simp only [execOp, Option.map_some, Option.map_none, ha.eval hx, ha.eval hl, ha.eval hh]
 by_cases e : c = lo
 ·subst e; simp [go_sem, k0, k1, k2, k3, h1, h2]
 ·simp [go_sem, k0, k1, k2, k3, h1, h2, e]
theorem QIH {x0 : Operand} {v0_0 v0_1 : Value} (h0 : evS σ x0 = some (.agg #[v0_0, v0_1]))  (a : Act) (ha : Env n σ a) : (execOp a.eval ⟨dst, .buildSlice 31 1 #[(0, x0)], ty, pos, af, g⟩).run Try.prog w = .ok (.value (.slice (some ⟨w.heap.size, 0, none⟩) 1 1)) (w.alloc (.cells #[v0_0, v0_1] 49)) := by
 simp only [execOp, List.map_toArray, List.map_cons, List.map_nil, ha.eval h0]
 go_simp
end
end Go.Proofs.Ytlbfnimilcnihaa
