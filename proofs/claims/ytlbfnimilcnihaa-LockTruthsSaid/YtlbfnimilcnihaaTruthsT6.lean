/- X39, ExX40, X40: what LockTruthsProof needs of them (merged by trimpack.py). -/
import Derived.Test.YtlbfnimilcnihaaTruthsT5
set_option linter.unusedVariables false
set_option linter.unusedSimpArgs false
namespace Go.Proofs.Ytlbfnimilcnihaa
open Go Go.RowKit
theorem QK0 (w : World) (g : Nat) : w.grownBy w (some g) := ⟨rfl, rfl, rfl, Nat.le_refl _, fun _ _ _ => rfl⟩
theorem QGL {w W W' : World} {g : Nat} (h : w.grownBy W (some g)) (hb : Below W.heap.size W W') : w.grownBy W' (some g) := YX h hb
set_option maxRecDepth 100000 in
theorem QGM {b : Bd} {low : Bool} {l : List Int} {nn way gn gw gp B cp : Nat} {Ap : Option Addr} {w : World} (hb : 0 ≤ b.lo ∧ b.lo ≤ b.hi ∧ b.hi ≤ 1000000000000) (hnn : nn ≤ 100000) (hway : way ≤ 2) (qn : Blk w gn 3 #[.int .i64 (nn : Nat)]) (qw : Blk w gw 3 #[.int .i64 (way : Nat)]) (qp : Blk w gp 99 #[.slice Ap l.length cp]) (n1000_1001 : gn ≠ gw) (n1000_1002 : gn ≠ gp) (n1001_1002 : gw ≠ gp) (hp : Rd w B 1 (.slice Ap l.length cp) l.length (u8s l)) (hbs : ∀ x ∈ l, byte x) (hBw : B ≤ w.heap.size) (hBg : B ≤ gn) :
  Calls Try.prog 35 #[.agg #[.int .i64 b.lo, .int .i64 b.hi], .bool low, .pointer (some ⟨gn, 0, none⟩), .pointer (some ⟨gw, 0, none⟩), .pointer (some ⟨gp, 0, none⟩)] w fun e w' => (∃ r, e = .returned (.int .i64 r) ∧ Pick way low b r) ∧ Blk w' gn 3 #[.int .i64 ((nn + 1 : Nat) : Int)] ∧ w.grownBy w' (some gn) := by
 have hgw := QK0 w gn;refine EC.enter 43 Try.func35 rfl rfl rfl (EC.seq (EC.region (EL.newP (QGo rfl) rfl ?_)));intro g1 w1 q1 hb1 hg1 hl1;have n1000_1 := qn.na hg1;have n1001_1 := qw.na hg1;have n1002_1 := qp.na hg1;have bw1 : w.heap.size ≤ g1 := Nat.le_trans hgw.size hg1;replace qn := qn.bl hb1;replace qw := qw.bl hb1;replace qp := qp.bl hb1;replace hp := hp.below (hb1.mono (Nat.le_trans hBw hgw.size));replace hgw := QGL hgw hb1;clear hb1 hg1 hl1;refine EL.as rfl rfl (EL.nil (EX.seq (EC.seq (EC.region (EL.val (ld_3 rfl (qn.at (j := 0) rfl)) rfl ?_)))));refine EL.val (x_add rfl rfl (c := ((nn + 1 : Nat) : Int)) ((IntWalk.i64_in _ ⟨by omega, by omega⟩).trans (by omega))) rfl ?_
 refine EL.store rfl rfl qn sz_3 rfl rfl rfl rfl ?_;intro w2 hq2 hg2;replace qw := qw.gr hg2 n1000_1001.symm;replace qp := qp.gr hg2 n1000_1002.symm;replace q1 := q1.gr hg2 n1000_1.symm;replace hp := hp.grown hg2 (Nat.le_trans hBw hgw.size) (fun g_ e_ => by injection e_ with e_; omega)
 replace hgw := YB hgw hg2;replace qn := hq2;clear hg2 hq2;refine EL.nil (EX.seq (EC.seq (EC.seq (EC.region (EL.val (ld_3 rfl (qw.at (j := 0) rfl)) rfl ?_)))))
 by_cases h2 : way = 2
 ·
  refine EL.val (Zx (r := true) rfl rfl (decide_eq_true (by omega))) rfl ?_
  refine EL.mv rfl rfl (EL.valg rfl rfl (QJz rfl (qp.at (j := 0) rfl)) rfl (EL.valg rfl rfl (QLy rfl) rfl ?_))
  by_cases hl : 0 < l.length
  ·
   refine EL.valg rfl rfl (Zw (r := true) rfl rfl (decide_eq_true (by omega))) rfl ?_
   refine EL.pt rfl rfl rfl (EL.nil (EX.seq (EC.yes rfl (EC.seq ?_))));obtain ⟨kk, hkk⟩ : ∃ z, z = (nn + 1) % l.length := ⟨_, rfl⟩;have hkl : kk < l.length := by rw [hkk]; exact Nat.mod_lt _ hl
   obtain ⟨bx, ox, ebx, _, x0⟩ := QIU l kk hkl _ _ _ _ _ hp;have hby := hbs _ (Zo hkl 0);have hm := QBi hby (n := b.hi - b.lo + 1) (by omega)
   generalize l.getD kk 0 = z at *
   refine EC.regionQ (by kernel_rfl) (by kernel_rfl) ?_
   refine EQ.val (fun _ hw => (YE rfl)) rfl ?_
   refine EQ.val (fun _ hw => (ld_3 rfl (ZC hw (q1.at (j := 0) rfl)))) rfl ?_
   refine EQ.val (fun _ hw => (QJz rfl (ZC hw (qp.at (j := 0) rfl)))) rfl ?_
   refine EQ.val (fun _ hw => (ld_3 rfl (ZC hw (qn.at (j := 0) rfl)))) rfl ?_
   refine EQ.val (fun _ hw => (QJz rfl (ZC hw (qp.at (j := 0) rfl)))) rfl ?_
   refine EQ.val (fun _ hw => (QLy rfl)) rfl ?_
   refine EQ.val (fun _ hw => (QCI rfl rfl (by omega) (c := ((kk : Nat) : Int)) (by rw [hkk]; rfl))) rfl ?_
   refine EQ.val (fun _ hw => (QM_ (by show some (Value.slice Ap _ _) = _; rw [ebx]) rfl hkl)) rfl ?_
   refine EQ.val (fun _ hw => (ld_5 rfl (ZC hw x0))) rfl ?_
   refine EQ.val (fun _ hw => (Yl rfl (Zv hby))) rfl ?_
   refine EQ.val (fun _ hw => (YP rfl)) rfl ?_
   refine EQ.val (fun _ hw => (ld_3 rfl (ZC hw (q1.at (j := 1) rfl)))) rfl ?_
   refine EQ.val (fun _ hw => (YE rfl)) rfl ?_
   refine EQ.val (fun _ hw => (ld_3 rfl (ZC hw (q1.at (j := 0) rfl)))) rfl ?_
   refine EQ.val (fun _ hw => (Z_ rfl rfl (c := b.hi - b.lo) (IntWalk.i64_in (b.hi - b.lo) ⟨by omega, by omega⟩))) rfl ?_
   refine EQ.val (fun _ hw => (x_add rfl rfl (c := b.hi - b.lo + 1) (IntWalk.i64_in (b.hi - b.lo + 1) ⟨by omega, by omega⟩))) rfl ?_
   refine EQ.val (fun _ hw => (QCI rfl rfl (by omega) rfl)) rfl ?_
   refine EQ.val (fun _ hw => (x_add rfl rfl (c := b.lo + z.tmod (b.hi - b.lo + 1)) (IntWalk.i64_in (b.lo + z.tmod (b.hi - b.lo + 1)) ⟨by omega, by omega⟩))) rfl ?_
   refine EQ.val (fun _ hw => (ZZ rfl)) rfl ?_
   refine EQ.fin (fun w3 hw_ => ?_)
   replace qn := qn.bl hw_;replace qw := qw.bl hw_;replace qp := qp.bl hw_;replace q1 := q1.bl hw_;replace hp := hp.below (hw_.mono (Nat.le_trans hBw hgw.size));replace hgw := QGL hgw hw_;clear hw_;refine EX.seq (EC.ret (EX.seq_ret ?_))
   exact EX.done (res1 rfl rfl) ⟨⟨_, rfl, ⟨by omega, by omega, fun h => by omega, fun h => by omega⟩⟩, qn, hgw⟩
  ·
   refine EL.valg rfl rfl (Zw (r := false) rfl rfl (decide_eq_false (by omega))) rfl ?_
   refine EL.pt rfl rfl rfl (EL.nil (EX.seq (EC.no rfl (EC.skip (EX.seq (EC.seq (EC.seq (EC.region (EL.mv rfl rfl ?_)))))))));refine EL.val (ld_3 rfl (qw.at (j := 0) rfl)) rfl ?_
   by_cases h0 : way = 0
   ·
    refine EL.val (Zx (r := true) rfl rfl (decide_eq_true (by omega))) rfl ?_
    cases low
    ·
     refine EL.val (Y1 (r := false) rfl rfl (by decide)) rfl ?_
     refine EL.nil (EX.seq (EC.no rfl (EC.skip (EX.seq (EC.seq (EC.region (EL.val (YP rfl) rfl (EL.val (ld_3 rfl (q1.at (j := 1) rfl)) rfl (EL.as rfl rfl ?_)))))))));refine EL.nil (EX.seq (EC.ret ?_))
     exact EX.done (res1 rfl rfl) ⟨⟨_, rfl, ⟨by omega, by omega, fun h => by simp; try omega, fun h => by simp; try omega⟩⟩, qn, hgw⟩
    ·
     refine EL.val (Y1 (r := true) rfl rfl (by decide)) rfl ?_
     refine EL.nil (EX.seq (EC.yes rfl (EC.seq (EC.region (EL.val (YE rfl) rfl (EL.val (ld_3 rfl (q1.at (j := 0) rfl)) rfl (EL.as rfl rfl (EL.nil (EX.seq ?_)))))))));refine EC.ret (EX.seq_ret ?_)
     exact EX.done (res1 rfl rfl) ⟨⟨_, rfl, ⟨by omega, by omega, fun h => by simp; try omega, fun h => by simp; try omega⟩⟩, qn, hgw⟩
   ·
    refine EL.val (Zx (r := false) rfl rfl (decide_eq_false (by omega))) rfl ?_
    cases low
    ·
     refine EL.val (Y1 (r := true) rfl rfl (by decide)) rfl ?_
     refine EL.nil (EX.seq (EC.yes rfl (EC.seq (EC.region (EL.val (YE rfl) rfl (EL.val (ld_3 rfl (q1.at (j := 0) rfl)) rfl (EL.as rfl rfl (EL.nil (EX.seq ?_)))))))));refine EC.ret (EX.seq_ret ?_)
     exact EX.done (res1 rfl rfl) ⟨⟨_, rfl, ⟨by omega, by omega, fun h => by simp; try omega, fun h => by simp; try omega⟩⟩, qn, hgw⟩
    ·
     refine EL.val (Y1 (r := false) rfl rfl (by decide)) rfl ?_
     refine EL.nil (EX.seq (EC.no rfl (EC.skip (EX.seq (EC.seq (EC.region (EL.val (YP rfl) rfl (EL.val (ld_3 rfl (q1.at (j := 1) rfl)) rfl (EL.as rfl rfl ?_)))))))));refine EL.nil (EX.seq (EC.ret ?_))
     exact EX.done (res1 rfl rfl) ⟨⟨_, rfl, ⟨by omega, by omega, fun h => by simp; try omega, fun h => by simp; try omega⟩⟩, qn, hgw⟩
 ·
  refine EL.val (Zx (r := false) rfl rfl (decide_eq_false (by omega))) rfl ?_
  refine EL.mv rfl rfl (EL.skip rfl rfl rfl rfl (EL.skip rfl rfl rfl rfl (EL.skip rfl rfl rfl rfl (EL.pf rfl rfl rfl (EL.nil (EX.seq (EC.no rfl (EC.skip (EX.seq ?_)))))))));refine EC.seq (EC.seq (EC.region (EL.mv rfl rfl (EL.val (ld_3 rfl (qw.at (j := 0) rfl)) rfl ?_))))
  by_cases h0 : way = 0
  ·
   refine EL.val (Zx (r := true) rfl rfl (decide_eq_true (by omega))) rfl ?_
   cases low
   ·
    refine EL.val (Y1 (r := false) rfl rfl (by decide)) rfl ?_
    refine EL.nil (EX.seq (EC.no rfl (EC.skip (EX.seq (EC.seq (EC.region (EL.val (YP rfl) rfl (EL.val (ld_3 rfl (q1.at (j := 1) rfl)) rfl (EL.as rfl rfl ?_)))))))));refine EL.nil (EX.seq (EC.ret ?_))
    exact EX.done (res1 rfl rfl) ⟨⟨_, rfl, ⟨by omega, by omega, fun h => by simp; try omega, fun h => by simp; try omega⟩⟩, qn, hgw⟩
   ·
    refine EL.val (Y1 (r := true) rfl rfl (by decide)) rfl ?_
    refine EL.nil (EX.seq (EC.yes rfl (EC.seq (EC.region (EL.val (YE rfl) rfl (EL.val (ld_3 rfl (q1.at (j := 0) rfl)) rfl (EL.as rfl rfl (EL.nil (EX.seq ?_)))))))));refine EC.ret (EX.seq_ret ?_)
    exact EX.done (res1 rfl rfl) ⟨⟨_, rfl, ⟨by omega, by omega, fun h => by simp; try omega, fun h => by simp; try omega⟩⟩, qn, hgw⟩
  ·
   refine EL.val (Zx (r := false) rfl rfl (decide_eq_false (by omega))) rfl ?_
   cases low
   ·
    refine EL.val (Y1 (r := true) rfl rfl (by decide)) rfl ?_
    refine EL.nil (EX.seq (EC.yes rfl (EC.seq (EC.region (EL.val (YE rfl) rfl (EL.val (ld_3 rfl (q1.at (j := 0) rfl)) rfl (EL.as rfl rfl (EL.nil (EX.seq ?_)))))))));refine EC.ret (EX.seq_ret ?_)
    exact EX.done (res1 rfl rfl) ⟨⟨_, rfl, ⟨by omega, by omega, fun h => by simp; try omega, fun h => by simp; try omega⟩⟩, qn, hgw⟩
   ·
    refine EL.val (Y1 (r := false) rfl rfl (by decide)) rfl ?_
    refine EL.nil (EX.seq (EC.no rfl (EC.skip (EX.seq (EC.seq (EC.region (EL.val (YP rfl) rfl (EL.val (ld_3 rfl (q1.at (j := 1) rfl)) rfl (EL.as rfl rfl ?_)))))))));refine EL.nil (EX.seq (EC.ret ?_))
    exact EX.done (res1 rfl rfl) ⟨⟨_, rfl, ⟨by omega, by omega, fun h => by simp; try omega, fun h => by simp; try omega⟩⟩, qn, hgw⟩
section
variable {n : Nat} {σ : Sg} {w : World} {dst : Option Tmp} {ty : TypeId} {pos : String} {af : Array Edge} {g : Option (Nat × Bool)} {x y z : Operand} {at' : Array TypeId}
theorem QNK {v0 v1 v2 : Value} (hx : evS σ x = some (.agg #[v0, v1, v2])) (a : Act) (ha : Env n σ a) : (execOp a.eval ⟨dst, .box 98 x, ty, pos, af, g⟩).run Try.prog w = .ok (.value (.pointer (some ⟨w.heap.size, 0, none⟩))) (w.alloc (.cells #[v0, v1, v2] 98)) := by
 simp only [execOp, ha.eval hx]
 simp [go_sem]
theorem QNJ {v0 : Value} (hx : evS σ x = some (v0)) (h1 : v0.oneCell' = true) (a : Act) (ha : Env n σ a) : (execOp a.eval ⟨dst, .box 99 x, ty, pos, af, g⟩).run Try.prog w = .ok (.value (.pointer (some ⟨w.heap.size, 0, none⟩))) (w.alloc (.cells #[v0] 99)) := by
 simp only [execOp, ha.eval hx]
 cases v0 <;> first | (simp [Value.oneCell'] at h1; done) | simp [go_sem, Value.cells]
theorem QNB {b o m c k : Nat} (hx : evS σ x = some (.slice (some ⟨b, o, none⟩) m c)) (hy : evS σ y = some (.int .i64 (k : Int))) (hk : k < m) : ZI Try.prog n σ w ⟨dst, .indexAddr 95 x y, ty, pos, af, g⟩ (.pointer (some ⟨b, o + k * 4, none⟩)) := fun a ha => by
 have k0 : (0 : Int) ≤ (k : Int) := Int.natCast_nonneg _;have k1 : (k : Int) < (m : Int) := by omega
 simp only [execOp, ha.eval hx, ha.eval hy]
 simp [go_sem, k0, k1]
theorem QDe {b o : Nat} (hx : evS σ x = some (.pointer (some ⟨b, o, none⟩))) : ZI Try.prog n σ w ⟨dst, .fieldAddr 98 x 0, ty, pos, af, g⟩ (.pointer (some ⟨b, o, none⟩)) := fun a ha => by
 simp only [execOp, ha.eval hx]
 simp [go_sem]
theorem QH1 {b o : Nat} {v0 : Value} (hx : evS σ x = some (.pointer (some ⟨b, o, none⟩))) (c0 : w.cell? ⟨b, o, none⟩ = some v0) : ZI Try.prog n σ w ⟨dst, .load 95 x, ty, pos, af, g⟩ (v0) := fun a ha => by
 simp only [execOp, ha.eval hx]
 simp [go_sem, c0]
theorem QJt {A : Option Addr} {m c : Nat} (hx : evS σ x = some (.slice A m c)) : ZI Try.prog n σ w ⟨dst, .call { callee := .builtin .len, args := #[x], argTypes := #[95] }, ty, pos, af, g⟩ (.int .i64 (m : Int)) := fun a ha => by
 simp only [execOp, resolve, List.map_toArray, List.map_cons, List.map_nil, ha.eval hx]
 simp [go_sem]
theorem QMh {b o : Nat} {v0 v1 v2 v3 : Value} (hx : evS σ x = some (.pointer (some ⟨b, o, none⟩))) (c0 : w.cell? ⟨b, o, none⟩ = some v0) (c1 : w.cell? ⟨b, o + 1, none⟩ = some v1) (c2 : w.cell? ⟨b, o + 2, none⟩ = some v2) (c3 : w.cell? ⟨b, o + 3, none⟩ = some v3) : ZI Try.prog n σ w ⟨dst, .load 100 x, ty, pos, af, g⟩ (.agg #[v0, v1, v2, v3]) := fun a ha => by
 simp only [execOp, ha.eval hx]
 simp [go_sem, c0, c1, c2, c3]
theorem QMu (a : Act) (_ : Env n σ a) : (execOp a.eval ⟨dst, .alloc 100, ty, pos, af, g⟩).run Try.prog w = .ok (.value (.pointer (some ⟨w.heap.size, 0, none⟩))) (w.alloc (.cells #[.int .u8 0, .int .u8 0, .int .u8 0, .int .u8 0] 100)) := by
 simp only [execOp]
 simp [go_sem]
theorem QMH : (Try.prog.info? 100).map (·.size) = some 4 := by kernel_rfl
theorem QCi {b o k : Nat} (hx : evS σ x = some (.pointer (some ⟨b, o, none⟩))) (hy : evS σ y = some (.int .i64 (k : Int))) (hk : k < 4) : ZI Try.prog n σ w ⟨dst, .indexAddr 100 x y, ty, pos, af, g⟩ (.pointer (some ⟨b, o + k, none⟩)) := fun a ha => by
 have k0 : (0 : Int) ≤ (k : Int) := Int.natCast_nonneg _;have k1 : (k : Int) < 4 := by omega
 simp only [execOp, ha.eval hx, ha.eval hy]
 simp [go_sem, k0, k1]
theorem QLd {x0 : Operand} {v0_0 v0_1 v0_2 v0_3 : Value} (h0 : evS σ x0 = some (.agg #[v0_0, v0_1, v0_2, v0_3]))  (a : Act) (ha : Env n σ a) : (execOp a.eval ⟨dst, .buildSlice 59 1 #[(0, x0)], ty, pos, af, g⟩).run Try.prog w = .ok (.value (.slice (some ⟨w.heap.size, 0, none⟩) 1 1)) (w.alloc (.cells #[v0_0, v0_1, v0_2, v0_3] 69)) := by
 simp only [execOp, List.map_toArray, List.map_cons, List.map_nil, ha.eval h0]
 go_simp
theorem QMq    : ZI Try.prog n σ w ⟨dst, .build 93 #[], ty, pos, af, g⟩ (.agg #[.int .u8 0, .int .u8 0, .int .u8 0]) := fun a _ => by
 simp only [execOp, List.map_toArray, List.map_nil]
 go_simp
theorem QNN (a : Act) (_ : Env n σ a) : (execOp a.eval ⟨dst, .alloc 93, ty, pos, af, g⟩).run Try.prog w = .ok (.value (.pointer (some ⟨w.heap.size, 0, none⟩))) (w.alloc (.cells #[.int .u8 0, .int .u8 0, .int .u8 0] 93)) := by
 simp only [execOp]
 simp [go_sem]
theorem QLr : (Try.prog.info? 93).map (·.size) = some 3 := by kernel_rfl
theorem QH8 {b o : Nat} (hx : evS σ x = some (.pointer (some ⟨b, o, none⟩))) : ZI Try.prog n σ w ⟨dst, .fieldAddr 98 x 1, ty, pos, af, g⟩ (.pointer (some ⟨b, o + 1, none⟩)) := fun a ha => by
 simp only [execOp, ha.eval hx]
 simp [go_sem]
theorem QLz {b o : Nat} {v0 : Value} (hx : evS σ x = some (.pointer (some ⟨b, o, none⟩))) (c0 : w.cell? ⟨b, o, none⟩ = some v0) : ZI Try.prog n σ w ⟨dst, .load 96 x, ty, pos, af, g⟩ (v0) := fun a ha => by
 simp only [execOp, ha.eval hx]
 simp [go_sem, c0]
theorem QM5 {A : Option Addr} {m c : Nat} (hx : evS σ x = some (.slice A m c)) : ZI Try.prog n σ w ⟨dst, .call { callee := .builtin .len, args := #[x], argTypes := #[96] }, ty, pos, af, g⟩ (.int .i64 (m : Int)) := fun a ha => by
 simp only [execOp, resolve, List.map_toArray, List.map_cons, List.map_nil, ha.eval hx]
 simp [go_sem]
theorem QNA {b o m c k : Nat} (hx : evS σ x = some (.slice (some ⟨b, o, none⟩) m c)) (hy : evS σ y = some (.int .i64 (k : Int))) (hk : k < m) : ZI Try.prog n σ w ⟨dst, .indexAddr 96 x y, ty, pos, af, g⟩ (.pointer (some ⟨b, o + k * 3, none⟩)) := fun a ha => by
 have k0 : (0 : Int) ≤ (k : Int) := Int.natCast_nonneg _;have k1 : (k : Int) < (m : Int) := by omega
 simp only [execOp, ha.eval hx, ha.eval hy]
 simp [go_sem, k0, k1]
theorem QM7 {b o : Nat} {v0 v1 v2 : Value} (hx : evS σ x = some (.pointer (some ⟨b, o, none⟩))) (c0 : w.cell? ⟨b, o, none⟩ = some v0) (c1 : w.cell? ⟨b, o + 1, none⟩ = some v1) (c2 : w.cell? ⟨b, o + 2, none⟩ = some v2) : ZI Try.prog n σ w ⟨dst, .load 93 x, ty, pos, af, g⟩ (.agg #[v0, v1, v2]) := fun a ha => by
 simp only [execOp, ha.eval hx]
 simp [go_sem, c0, c1, c2]
theorem QLO {b o : Nat} (hx : evS σ x = some (.pointer (some ⟨b, o, none⟩))) : ZI Try.prog n σ w ⟨dst, .fieldAddr 98 x 2, ty, pos, af, g⟩ (.pointer (some ⟨b, o + 2, none⟩)) := fun a ha => by
 simp only [execOp, ha.eval hx]
 simp [go_sem]
theorem QKX (a : Act) (_ : Env n σ a) : (execOp a.eval ⟨dst, .buildSlice 101 0 #[], ty, pos, af, g⟩).run Try.prog w = .ok (.value (.slice (some ⟨w.heap.size, 0, none⟩) 0 0)) (w.alloc (.cells #[] 3)) := by
 simp only [execOp]
 go_simp
theorem QIm {x0 x1 x2 : Operand} {v0 v1 v2 : Value} (h0 : evS σ x0 = some v0) (h1 : evS σ x1 = some v1) (h2 : evS σ x2 = some v2) : ZI Try.prog n σ w ⟨dst, .makeFunc (.func 35) #[] #[x0, x1, x2], ty, pos, af, g⟩ (.func (.func 35) #[] #[v0, v1, v2]) := fun a ha => by
 simp only [execOp, List.map_toArray, List.map_cons, List.map_nil, ha.eval h0, ha.eval h1, ha.eval h2]
 simp [go_sem]
theorem QCt {xf x0 x1 : Operand} {v0 v1 p0 p1 p2 : Value} (hf : evS σ xf = some (.func (.func 35) #[] #[p0, p1, p2])) (h0 : evS σ x0 = some v0) (h1 : evS σ x1 = some v1) (a : Act) (ha : Env n σ a) : (execOp a.eval ⟨dst, .call { callee := .value xf, args := #[x0, x1], argTypes := at' }, ty, pos, af, g⟩).run Try.prog w = .ok (.enter 35 #[v0, v1, p0, p1, p2]) w := by
 simp only [execOp, resolve, List.map_toArray, List.map_cons, List.map_nil, ha.eval hf, ha.eval h0, ha.eval h1]
 simp [go_sem, Deferred.ofValue]
end
theorem QKj {P : Program} {n : Nat} {L : List Oper} {Q : Exit → Act → World → Prop} {i : Nat} {σ : Sg} {a : Act} {w1 : World} {K : Act → World → Prop} {o : Oper} {f : FuncId} {args : Array Value} {R : Ending → World → Prop} (ha : Env n σ a) (ho : nthO L i = some o) (hg : o.guard = none) (hr : ∀ a, Env n σ a → (execOp a.eval o).run P w1 = .ok (.enter f args) w1) (hc : Calls P f args w1 R) (hret : ∀ e w', R e w' → ∃ v, e = .returned v)
  (next : ∀ v w', R (.returned v) w' → K (a.put (ZS L i) v) w') : wpOp P L.toArray Q i K a w1 := by
 obtain ⟨h1, h2⟩ := opL ho
 unfold wpOp
 simp only [h1]
 rw [if_pos (ZU hg _)]
 left
 unfold Oper.wp
 rw [hr a ha, Oper.upon_enter];refine hc.mono fun e w' he => ?_
 obtain ⟨v, rfl⟩ := hret e w' he;have := next v w' he;rw [h2] at this
 exact this
theorem QLD {k : LT} (h : ltB k = true) : 0 ≤ k.fill ∧ k.fill ≤ 1000000 := by
 unfold ltB at h
 simp only [Bool.and_eq_true, Zy] at h
 exact h.1
theorem QMZ {k : LT} (h : ltB k = true) : 0 ≤ k.cyc.lo ∧ k.cyc.lo ≤ k.cyc.hi ∧ k.cyc.hi ≤ 1000000000000 := by
 unfold ltB bdB at h
 simp only [Bool.and_eq_true, Zy, decide_eq_true_iff] at h
 omega
section
variable {w : World} {B n c i b o : Nat} {A : Option Addr} {Y : List LT} {y : LT}
theorem QJp (h : Rd w B 3 (.slice A n c) n (ltsC Y)) (hi : i < Y.length) (e : A = some ⟨b, o, none⟩) (ex : Y.getD i lt0 = y) : w.cell? ⟨b, o + i * 3, none⟩ = some (.int .i64 y.fill) := by
 obtain ⟨b2, o2, e2, _, cc⟩ := QAO Y i hi _ _ _ _ _ h;rw [e] at e2; injection e2 with e2; injection e2 with e3 e4; subst e3 e4; rw [ex] at cc; exact cc.c0
theorem QJo (h : Rd w B 3 (.slice A n c) n (ltsC Y)) (hi : i < Y.length) (e : A = some ⟨b, o, none⟩) (ex : Y.getD i lt0 = y) : w.cell? ⟨b, o + i * 3 + 1, none⟩ = some (.int .i64 y.cyc.lo) := by
 obtain ⟨b2, o2, e2, _, cc⟩ := QAO Y i hi _ _ _ _ _ h;rw [e] at e2; injection e2 with e2; injection e2 with e3 e4; subst e3 e4; rw [ex] at cc; exact cc.c1
theorem QJn (h : Rd w B 3 (.slice A n c) n (ltsC Y)) (hi : i < Y.length) (e : A = some ⟨b, o, none⟩) (ex : Y.getD i lt0 = y) : w.cell? ⟨b, o + i * 3 + 2, none⟩ = some (.int .i64 y.cyc.hi) := by
 obtain ⟨b2, o2, e2, _, cc⟩ := QAO Y i hi _ _ _ _ _ h;rw [e] at e2; injection e2 with e2; injection e2 with e3 e4; subst e3 e4; rw [ex] at cc; exact cc.c2
end
theorem QG9 {k : LT} {z : Int} (hf : 0 ≤ k.fill ∧ k.fill ≤ 1000000) (hc : 0 ≤ k.cyc.lo ∧ k.cyc.lo ≤ k.cyc.hi ∧ k.cyc.hi ≤ 1000000000000) (h1 : k.cyc.lo ≤ z) (h2 : z ≤ k.cyc.hi) : 0 ≤ k.fill * z ∧ k.fill * z ≤ 1000000 * 1000000000000 := ⟨Int.mul_nonneg hf.1 (by omega), Int.mul_le_mul hf.2 (by omega) (by omega) (by omega)⟩
theorem QMT {k : LT} {z : Int} (hf : 0 ≤ k.fill ∧ k.fill ≤ 1000000) (hc : 0 ≤ k.cyc.lo ∧ k.cyc.lo ≤ k.cyc.hi ∧ k.cyc.hi ≤ 1000000000000) (h1 : k.cyc.lo ≤ z) (h2 : z ≤ k.cyc.hi) : IntKind.i64.wrap (k.fill * z) = k.fill * z := IntWalk.i64_in _ ⟨by have := QG9 hf hc h1 h2; omega, by have := QG9 hf hc h1 h2; omega⟩
theorem QHw {x : List LR} {y : List LT} {days : Int} {way d k i : Nat} {v : List Int} (h : ChOk x y days) (hd : d ≤ 60) (hv : InB way v (lockL x y d k)) (hi : i < x.length) : -200000000000000 ≤ v.getD i 0 ∧ v.getD i 0 ≤ 200000000000000 := by
 have hm := QD8 (y := y) h k hi hd;rw [← QBU hi] at hm;obtain ⟨⟨a1, a2⟩, a3, a4⟩ := hm;have := hv.at_ i (by rw [YA]; exact hi)
 omega
theorem QMB {way : Nat} {x : List LR} {y : List LT} {d i : Nat} {v : List Int} (h : InB way v (volL x y d)) (hi : i < x.length) : (volD x y i d).lo ≤ v.getD i 0 ∧ v.getD i 0 ≤ (volD x y i d).hi := by
 have := h.at_ i (by rw [Zc]; exact hi)
 rw [show (volL x y d).getD i bd0 = volD x y i d from YC _ hi] at this
 exact this
theorem QHu {x : List LR} {y : List LT} {N dd : Nat} (h : ChOk x y (N : Int)) (hN : N ≤ 30) (hd : dd < N) : ∀ i, i < x.length → Mid 100000000000000 (volD x y i (dd + 1)) := fun i hi => QCe h hi (by omega)
theorem QKl {x : List LR} {y : List LT} {v : List Int} {d : Nat} (h8 : x.length ≤ 8) (hl : v.length = x.length) (ha : ∀ i, i < x.length → (volD x y i d).lo ≤ v.getD i 0 ∧ v.getD i 0 ≤ (volD x y i d).hi) (hm : ∀ i, i < x.length → Mid 100000000000000 (volD x y i d)) (i : Nat) : -1600000000000000 ≤ sumI (v.take i) ∧ sumI (v.take i) ≤ 1600000000000000 := by
 have h1 : ∀ z ∈ v.take i, -200000000000000 ≤ z ∧ z ≤ 200000000000000 := fun z hz => by
  obtain ⟨j, hj, rfl⟩ := List.getElem_of_mem (List.mem_of_mem_take hz);obtain ⟨⟨a1, a2⟩, a3, a4⟩ := hm j (by omega)
  have := ha j (by omega)
  rw [Zg hj] at this
  omega
 have key : ∀ l : List Int, (∀ z ∈ l, -200000000000000 ≤ z ∧ z ≤ 200000000000000) → -200000000000000 * (l.length : Int) ≤ sumI l ∧ sumI l ≤ 200000000000000 * (l.length : Int) := by
  intro l
  induction l with
  | nil => intro _; simp [sumI]
  | cons z l ih =>
   intro hz;have h1 := hz z (List.mem_cons_self ..);have h2 := ih fun y hy => hz y (List.mem_cons_of_mem _ hy)
   simp only [sumI, List.sum_cons, List.length_cons] at h2 ⊢
   omega
 have h2 := key _ h1;have h3 : (v.take i).length ≤ 8 := by rw [List.length_take]; omega
 omega
theorem QCR : ∀ {l : List Int} {i : Nat} {z : Int}, i < l.length → spl (ints l) i [.int .i64 z] = ints (l.set i z)
 | [], i, z, h => by cases h
 | x :: l, 0, z, _ => by cases l <;> rfl
 | x :: l, i + 1, z, h => by
  have ih := QCR (l := l) (i := i) (z := z) (by simpa using h)
  show _ :: spl (ints l) i _ = _
  rw [ih]
  rfl
theorem QMb {x : LR} (h : lrB x = true) : 0 ≤ x.inf.lo ∧ x.inf.lo ≤ x.inf.hi ∧ x.inf.hi ≤ 1000000000000 := by
 unfold lrB bdB at h
 simp only [Bool.and_eq_true, Zy, decide_eq_true_iff] at h
 omega
theorem QK_ {x : List LR} {y : List LT} {days : Int} (h : ChOk x y days) {i d k : Nat} (hi : i < x.length) (hd : d ≤ 60) : Mid 200000000000000 ((infL x y d k).getD i bd0) := by
 unfold infL
 rw [YC _ hi]
 split
 ·have a := QCe (y := y) h hi hd
  have b := (QD_ (h.lr _ (Zo hi lr0))).2
  exact (a.plus b).mono (by omega)
 ·exact (QCe h hi hd).mono (by omega)
theorem QJ8 {x : List LR} {y : List LT} {days : Int} {way d k i : Nat} {v : List Int} (h : ChOk x y days) (hd : d ≤ 60) (hv : InB way v (infL x y d k)) (hi : i < x.length) : -200000000000000 ≤ v.getD i 0 ∧ v.getD i 0 ≤ 200000000000000 := by
 obtain ⟨⟨a1, a2⟩, a3, a4⟩ := QK_ (y := y) (k := k) h hi hd;have := hv.at_ i (by rw [QAU]; exact hi)
 omega
theorem QLK {x : List LR} {y : List LT} {days : Int} {way d k : Nat} {v : List Int} (h : ChOk x y days) (hd : d ≤ 60) (hv : InB way v (infL x y d k)) : v.length = x.length ∧ ∀ z ∈ v, -200000000000000 ≤ z ∧ z ≤ 200000000000000 := by
 have hl : v.length = x.length := by rw [hv.len, QAU]
 refine ⟨hl, fun z hz => ?_⟩
 obtain ⟨i, hi, rfl⟩ := List.getElem_of_mem hz;have := QJ8 h hd hv (i := i) (by omega)
 rw [Zg hi] at this
 exact this
theorem QKo {x : List LR} {v : List Int} (h8 : x.length ≤ 8) (h : v.length = x.length ∧ ∀ z ∈ v, -200000000000000 ≤ z ∧ z ≤ 200000000000000) : -1600000000000000 ≤ sumI v ∧ sumI v ≤ 1600000000000000 := by
 obtain ⟨hl, hz⟩ := h;have key : ∀ l : List Int, (∀ z ∈ l, -200000000000000 ≤ z ∧ z ≤ 200000000000000) → -200000000000000 * (l.length : Int) ≤ sumI l ∧ sumI l ≤ 200000000000000 * (l.length : Int) := by
  intro l
  induction l with
  | nil => intro _; simp [sumI]
  | cons z l ih =>
   intro hz;have h1 := hz z (List.mem_cons_self ..);have h2 := ih fun y hy => hz y (List.mem_cons_of_mem _ hy)
   simp only [sumI, List.sum_cons, List.length_cons] at h2 ⊢
   omega
 have := key v hz
 omega
theorem QIa {w : World} {v v' : Value} {a c : Nat} (h : ∀ b, v.ownBlock = some b → b ≠ a ∧ b ≠ c) (hat : v'.ownBlock = v.ownBlock ∨ v'.ownBlock = some w.heap.size) (ha : a < w.heap.size) (hc : c < w.heap.size) : ∀ b, v'.ownBlock = some b → b ≠ a ∧ b ≠ c := fun b hb => by
 rcases hat with h1 | h1
 ·exact h b (h1 ▸ hb)
 ·rw [h1] at hb
  injection hb with hb
  omega
theorem OwnLL.rowg {w w' : World} {base e z n b2 : Nat} {sl u : Value} {us ys : List Value} {ls : List (List Bd)} (h : OwnLL w base sl us ls) (hu : w.ownsRow b2 e z u n ys) (h1 : Nat.beq e 73 = false) (h2 : Nat.beq e 67 = false) (hg : w.grownBy w' u.ownBlock) : OwnLL w' base sl us ls := ⟨h.len, Zl h.rd hu h1 hg, fun i hi => Zl (h.row i hi) hu h2 hg⟩
theorem QJr {x : LR} (h : lrB x = true) : 0 ≤ x.vol ∧ x.vol ≤ 1000000000000 := by
 unfold lrB at h
 simp only [Bool.and_eq_true, Zy] at h
 exact h.1.1
theorem QMI {X : List LR} (h : ∀ r ∈ X, lrB r = true) (h8 : X.length ≤ 8) (i : Nat) : 0 ≤ sumI ((X.map (·.vol)).take i) ∧ sumI ((X.map (·.vol)).take i) ≤ 1000000000000 * 8 := by
 have key : ∀ l : List Int, (∀ z ∈ l, 0 ≤ z ∧ z ≤ 1000000000000) → 0 ≤ sumI l ∧ sumI l ≤ 1000000000000 * l.length := by
  intro l
  induction l with
  | nil => intro _; simp [sumI]
  | cons z l ih =>
   intro hz;have h1 := hz z (List.mem_cons_self ..);have h2 := ih fun y hy => hz y (List.mem_cons_of_mem _ hy)
   simp only [sumI, List.sum_cons, List.length_cons] at h2 ⊢
   omega
 have h1 := key ((X.map (·.vol)).take i) fun z hz => by
  obtain ⟨r, hr, rfl⟩ := List.mem_map.1 (List.mem_of_mem_take hz)
  exact QJr (h r hr)
 have h2 : ((X.map (·.vol)).take i).length ≤ 8 := by rw [List.length_take, List.length_map]; omega
 omega
theorem QJ6 : (Try.prog.info? 3).map (fun i => (i.zero, i.size, i.bytes)) = some (some (.int .i64 0), 1, 8) := by kernel_rfl
theorem QJ7 : Elem Try.prog 101 3 1 8 := Elem.mk' Try.underlying101 QJ6 rfl (by omega)
theorem QJs {w : World} {B n c i b o : Nat} {A : Option Addr} {X : List LR} {x : LR} (h : Rd w B 4 (.slice A n c) n (lrsC X)) (hi : i < X.length) (e : A = some ⟨b, o, none⟩) (ex : X.getD i lr0 = x) : w.cell? ⟨b, o + i * 4, none⟩ = some (.int .i64 x.vol) := by
 obtain ⟨b2, o2, e2, _, cc⟩ := Yp X i hi _ _ _ _ _ h;rw [e] at e2
 injection e2 with e2
 injection e2 with e3 e4
 subst e3 e4;rw [ex] at cc
 exact cc.c0
theorem QJ5 (a b : List Int) : ints (a ++ b) = ints a ++ ints b := by simp [ints]
theorem QIG {x : Chn} {X : List LR} {W : World} {base i : Nat} {v : Value} (hX : X = rsS x) (hx : i = min x.rs.length 8) (h : W.ownsRow base 69 4 v i (lrsC ((x.rs.take i).map lrS))) : W.ownsRow base 69 4 v X.length (lrsC X) := by
 have e1 : x.rs.take i = x.rs.take 8 := by
  subst hx
  rcases Nat.le_total x.rs.length 8 with h1 | h1
  ·rw [Nat.min_eq_left h1, List.take_length, List.take_of_length_le h1]
  ·rw [Nat.min_eq_right h1]
 have e2 : X.length = i := by rw [hX]; unfold rsS; rw [List.length_map, List.length_take]; omega
 rw [e2, hX, rsS, ← e1]
 exact h
theorem QIF {x : Chn} {X : List LR} {Y : List LT} {W : World} {base i : Nat} {v : Value} (hX : X = rsS x) (hY : Y = lsN x (X.length - 1)) (hx : i = min x.rs.length 8) (h : W.ownsRow base 71 3 v (i - 1) (ltsC (lsN x (i - 1)))) : W.ownsRow base 71 3 v Y.length (ltsC Y) := by
 have e2 : X.length = i := by rw [hX]; unfold rsS; rw [List.length_map, List.length_take]; omega
 rw [hY, QFX, e2]
 exact h
set_option maxHeartbeats 4000000 in
set_option maxRecDepth 100000 in
theorem truths_law {x : Chn} {ps : List Int} (hc : ChnOk x) (hps : ∀ p ∈ ps, byte p) {Ar Al : Option Addr} {cr cl : Nat} {vp : Value} {w : World} {B : Nat} (hr : Rd w B 4 (.slice Ar x.rs.length cr) x.rs.length (e4s x.rs)) (hl : Rd w B 3 (.slice Al x.ls.length cl) x.ls.length (e3s x.ls)) (hp : Rd w B 1 vp ps.length (u8s ps)) (hB : B ≤ w.heap.size) :
  Calls Try.prog 11 #[.agg #[.slice Ar x.rs.length cr, .slice Al x.ls.length cl, .int .u8 x.dy], vp] w fun e w' => e = .returned (.bool true) ∧ Below w.heap.size w w' := by
 obtain ⟨Ap, cp, rfl, _⟩ := hp.shape;obtain ⟨X, hX⟩ : ∃ z, z = rsS x := ⟨_, rfl⟩;obtain ⟨Y, hY⟩ : ∃ z, z = lsN x (X.length - 1) := ⟨_, rfl⟩;have hX8 : X.length ≤ 8 := by rw [hX]; unfold rsS; rw [List.length_map, List.length_take]; omega
 have hYl : Y.length ≤ 8 := by rw [hY, QFX]; omega
 obtain ⟨N, hN, hN30⟩ : ∃ N : Nat, x.dy.tmod 31 = (N : Int) ∧ N ≤ 30 := ⟨(x.dy.tmod 31).toNat, by have := QBi hc.d (n := 31) (by decide); omega⟩
 have hbw := Below.refl w.heap.size w;refine EC.enter 409 Try.func11 rfl rfl rfl (EC.seq (EC.region (EL.newP (QNK rfl) rfl ?_)));intro g1 w1 q1 hb1 hg1 hl1;have bhbw_1 := Nat.le_trans hbw.size hg1;have hbg1 : w.heap.size ≤ g1 := Nat.le_trans hbw.size hg1;replace hbw := bo_ hbw hb1;clear hb1 hg1 hl1;refine EL.newP (QNJ rfl rfl) rfl ?_;intro g2 w2 q2 hb2 hg2 hl2;have n1_2 := q1.na hg2;have bhbw_2 := Nat.le_trans hbw.size hg2;have hbg2 : w.heap.size ≤ g2 := Nat.le_trans hbw.size hg2;replace q1 := q1.bl hb2;replace hbw := bo_ hbw hb2;clear hb2 hg2 hl2;refine EL.as rfl rfl (EL.nil (EX.seq (EC.seq (EC.region (EL.newS (QFw) rfl ?_)))));intro g3 w3 q3 hb3 hg3 hl3;have n1_3 := q1.na hg3;have n2_3 := q2.na hg3;have bhbw_3 := Nat.le_trans hbw.size hg3;have hbg3 : w.heap.size ≤ g3 := Nat.le_trans hbw.size hg3;replace q1 := q1.bl hb3;replace q2 := q2.bl hb3;replace hbw := bo_ hbw hb3;clear hb3 hg3 hl3;have hx : w3.ownsRow w.heap.size 69 4 (.slice (some ⟨g3, 0, none⟩) 0 0) 0 [] := QBn 4 q3 hbg3;refine EL.newS (QFv) rfl ?_;intro g4 w4 q4 hb4 hg4 hl4;have n1_4 := q1.na hg4;have n2_4 := q2.na hg4;have bhbw_4 := Nat.le_trans hbw.size hg4;have hbg4 : w.heap.size ≤ g4 := Nat.le_trans hbw.size hg4;replace q1 := q1.bl hb4;replace q2 := q2.bl hb4;replace hx := ZB hx hb4 (Nat.le_refl _);replace hbw := bo_ hbw hb4;clear hb4 hg4 hl4;have hy : w4.ownsRow w.heap.size 71 3 (.slice (some ⟨g4, 0, none⟩) 0 0) 0 [] := QBn 3 q4 hbg4;refine EL.as rfl rfl (EL.as rfl rfl (EL.nil (EX.seq ?_)));refine EC.cutD [5, 6, 7, 8, 9, 34, 35, 36, 37, 38, 39, 40, 41, 42, 43, 44, 45, 46, 47, 48, 49, 50, 51, 52, 53, 54, 55, 56, 57, 58, 59, 60, 61, 62, 63, 64, 65, 66, 67, 68, 69, 70, 71, 72, 73, 74, 75, 76, 77, 78, 79, 80, 81, 82, 83, 84, 85, 86, 87, 88, 89, 90, 91, 92, 93, 94, 95, 96, 97, 98, 99, 100, 101, 102, 103, 104, 105, 106, 107] (fun y : Value × Value => [(5, y.1), (6, y.2)]) (fun y W => W.ownsRow w.heap.size 69 4 y.1 X.length (lrsC (X)) ∧ W.ownsRow w.heap.size 71 3 y.2 Y.length (ltsC (Y)) ∧ Blk W g1 98 #[.slice Ar x.rs.length cr, .slice Al x.ls.length cl, .int .u8 x.dy] ∧ Blk W g2 99 #[.slice Ap ps.length cp] ∧ Below w.heap.size w W) ?_ ?_
 ·
  refine EC.seq (EC.region (EL.as rfl rfl (EL.nil (EX.seq (EC.block ?_)))));refine EC.loopD [5, 6, 7, 8, 9, 34, 35, 36, 37, 38, 39, 40, 41, 42, 43, 44, 45, 46, 47, 48, 49, 50, 51, 52, 53, 54, 55, 56, 57, 58, 59, 60, 61, 62, 63, 64, 65, 66, 67, 68, 69, 70, 71, 72, 73, 74, 75, 76, 77, 78, 79, 80, 81, 82, 83, 84, 85, 86, 87, 88, 89, 90, 91, 92, 93, 94, 95, 96, 97, 98, 99, 100, 101, 102, 103, 104, 105, 106, 107] (fun y : Nat × Value × Value => [(7, .int .i64 (y.1 : Nat)), (5, y.2.1), (6, y.2.2)]) (fun y W => (y.1 ≤ x.rs.length ∧ y.1 ≤ 8) ∧ W.ownsRow w.heap.size 69 4 y.2.1 y.1 (lrsC ((x.rs.take y.1).map lrS)) ∧ W.ownsRow w.heap.size 71 3 y.2.2 (y.1 - 1) (ltsC (lsN x (y.1 - 1))) ∧ Blk W g1 98 #[.slice Ar x.rs.length cr, .slice Al x.ls.length cl, .int .u8 x.dy] ∧ Blk W g2 99 #[.slice Ap ps.length cp] ∧ Below w.heap.size w W) (fun y => x.rs.length - y.1) (0, .slice (some ⟨g3, 0, none⟩) 0 0, .slice (some ⟨g4, 0, none⟩) 0 0) ⟨⟨Nat.zero_le _, Nat.zero_le _⟩, hx, hy, q1, q2, hbw⟩ ⟨rfl, rfl, rfl, trivial⟩ ?_
  clear hx hy q1 q2 hbw
  rintro ⟨i, v5, v6⟩ wx ⟨⟨hi, hi2⟩, hx, hy, q1, q2, hbw⟩
  dsimp only at hi hi2 hx hy
  by_cases hlt : i < x.rs.length
  ·
   by_cases hlm : i < 8
   ·
    obtain ⟨bx, ox, ebx, _, c0, c1, c2, c3⟩ := QIs x.rs i hlt wx B _ _ _ (hr.below (hbw.mono hB));have hv := hc.r _ (Zo hlt z4);have hsu := QEc lrS x.rs z4 hlt
    generalize x.rs.getD i z4 = v at *
    obtain ⟨p0, p1, p2, p3⟩ := hv;have P0 := p0;have P1 := p1;have P2 := p2;have P3 := p3
    unfold byte at P0 P1 P2 P3
    refine EC.seq (EC.seq (EC.region (EL.mv rfl rfl (EL.val (QDe rfl) rfl (EL.val (QH1 rfl (q1.at (j := 0) rfl)) rfl (EL.val (QJt rfl) rfl ?_))))));refine EL.val (ZO rfl rfl (decide_eq_true (show (((i : Nat) : Int) < ((x.rs.length : Nat) : Int)) by omega))) rfl ?_
    refine EL.mv rfl rfl (EL.mg rfl rfl rfl rfl ?_);refine EL.valg rfl rfl (ZO rfl rfl (decide_eq_true (show (((i : Nat) : Int) < ((8 : Nat) : Int)) by omega))) rfl ?_
    refine EL.pt rfl rfl rfl (EL.nil (EX.seq (EC.yes rfl (EC.skip (EX.seq (EC.seq (EC.block (EC.seq (EC.region ?_)))))))));refine EL.val (QDe rfl) rfl (EL.val (QH1 rfl (q1.at (j := 0) rfl)) rfl (EL.mv rfl rfl ?_));refine EL.val (QNB (by show some (Value.slice Ar _ _) = _; rw [ebx]) rfl hlt) rfl ?_
    refine EL.val (QMh rfl c0 c1 c2 c3) rfl (EL.newP QMu rfl ?_);intro g5 w5 q5 hb5 hg5 hl5;have n1_5 := q1.na hg5;have n2_5 := q2.na hg5;have bhbw_5 := Nat.le_trans hbw.size hg5;have hbg5 : w.heap.size ≤ g5 := Nat.le_trans hbw.size hg5;replace q1 := q1.bl hb5;replace q2 := q2.bl hb5;replace hx := ZB hx hb5 (Nat.le_refl _);replace hy := ZB hy hb5 (Nat.le_refl _);replace hbw := bo_ hbw hb5;clear hb5 hg5 hl5;refine EL.store rfl rfl q5 QMH rfl rfl rfl rfl ?_;intro w6 hq6 hg6;replace q1 := q1.gr hg6 n1_5;replace q2 := q2.gr hg6 n2_5;replace hx := ZG hx q5 rfl hg6;replace hy := ZG hy q5 rfl hg6;replace hbw := ZE hbw hg6 bhbw_5;replace q5 := hq6;clear hg6 hq6;refine EL.nil (EX.seq (EC.seq (EC.region (EL.mv rfl rfl ?_))));refine EL.val (QCi (k := 0) rfl rfl (by omega)) rfl ?_
    refine EL.val (ld_5 rfl (q5.at (j := 0) rfl)) rfl (EL.val (Yl rfl (Zv p0)) rfl ?_);refine EL.val (QAY rfl rfl (c := 100 * v.1) (IntWalk.i64_in (100 * v.1) ⟨by omega, by omega⟩)) rfl ?_
    refine EL.val (QCi (k := 1) rfl rfl (by omega)) rfl ?_
    refine EL.val (ld_5 rfl (q5.at (j := 1) rfl)) rfl (EL.val (Yl rfl (Zv p1)) rfl ?_);refine EL.val (QAY rfl rfl (c := 60 * v.2.1) (IntWalk.i64_in (60 * v.2.1) ⟨by omega, by omega⟩)) rfl ?_
    refine EL.val (QCi (k := 2) rfl rfl (by omega)) rfl ?_
    refine EL.val (ld_5 rfl (q5.at (j := 2) rfl)) rfl (EL.val (Yl rfl (Zv p2)) rfl ?_);refine EL.val (QCi (k := 2) rfl rfl (by omega)) rfl ?_
    refine EL.val (ld_5 rfl (q5.at (j := 2) rfl)) rfl (EL.val (Yl rfl (Zv p2)) rfl ?_);refine EL.val (QCi (k := 3) rfl rfl (by omega)) rfl ?_
    refine EL.val (ld_5 rfl (q5.at (j := 3) rfl)) rfl (EL.val (Yl rfl (Zv p3)) rfl ?_);refine EL.val (x_add rfl rfl (c := v.2.2.1 + v.2.2.2) (IntWalk.i64_in (v.2.2.1 + v.2.2.2) ⟨by omega, by omega⟩)) rfl ?_
    refine EL.val (YM rfl rfl) rfl (EL.val (QDO rfl rfl rfl) rfl (EL.newS (QLd rfl) rfl ?_));intro g7 w7 q7 hb7 hg7 hl7;have n1_7 := q1.na hg7;have n2_7 := q2.na hg7;have n5_7 := q5.na hg7;have bhbw_7 := Nat.le_trans hbw.size hg7;have hbg7 : w.heap.size ≤ g7 := Nat.le_trans hbw.size hg7;replace q1 := q1.bl hb7;replace q2 := q2.bl hb7;replace q5 := q5.bl hb7;replace hx := ZB hx hb7 (Nat.le_refl _);replace hy := ZB hy hb7 (Nat.le_refl _);replace hbw := bo_ hbw hb7;clear hb7 hg7 hl7;refine EL.push QFY rfl rfl hx (QAE (l := lrC (lrS v)) q7 rfl) (lrsC_one [lrS v]) (by omega) rfl hbw.size rfl ?_
    intro v8 w8 ho8 hgr hb_ hat;replace hbw := hbw.trans hb_;replace q1 := ZK q1 hx rfl hgr;replace q2 := ZK q2 hx rfl hgr;replace q5 := ZK q5 hx rfl hgr;replace hy := Zl hy hx rfl hgr;clear hgr hb_ hat;have hx_ := ho8;clear hx ho8;have hx := hx_;clear hx_;refine EL.as rfl rfl (EL.nil (EX.seq (EC.seq (EC.region (EL.mv rfl rfl ?_)))))
    by_cases hi0 : 0 < i
    ·
     obtain ⟨j, hj⟩ : ∃ j, i = j + 1 := ⟨i - 1, by omega⟩
     have ej : i - 1 = j := by omega
     rw [ej] at hy;have hlb := QHv hc j;have hls := QJq x j
     generalize ekv : x.ls.getD j z3 = kv at *
     obtain ⟨r0, r1, r2⟩ := hlb;have t1 := QBi r1 (n := 20) (by decide)
     have t2 := QBi r2 (n := 20) (by decide)
     refine EL.val (Zw (r := true) rfl rfl (decide_eq_true (by omega))) rfl ?_
     refine EL.nil (EX.seq (EC.yes rfl (EC.seq (EC.region (EL.val (QMq) rfl (EL.newP QNN rfl ?_))))));intro g9 w9 q9 hb9 hg9 hl9;have n1_9 := q1.na hg9;have n2_9 := q2.na hg9;have n5_9 := q5.na hg9;have bhbw_9 := Nat.le_trans hbw.size hg9;have hbg9 : w.heap.size ≤ g9 := Nat.le_trans hbw.size hg9;replace q1 := q1.bl hb9;replace q2 := q2.bl hb9;replace q5 := q5.bl hb9;replace hx := ZB hx hb9 (Nat.le_refl _);replace hy := ZB hy hb9 (Nat.le_refl _);replace hbw := bo_ hbw hb9;clear hb9 hg9 hl9;refine EL.store rfl rfl q9 QLr rfl rfl rfl rfl ?_;intro w10 hq10 hg10;replace q1 := q1.gr hg10 n1_9;replace q2 := q2.gr hg10 n2_9;replace q5 := q5.gr hg10 n5_9;replace hx := ZG hx q9 rfl hg10;replace hy := ZG hy q9 rfl hg10;replace hbw := ZE hbw hg10 bhbw_9;replace q9 := hq10;clear hg10 hq10;refine EL.nil (EX.seq (EC.seq (EC.seq (EC.region (EL.mv rfl rfl (EL.val (QH8 rfl) rfl (EL.val (QLz rfl (q1.at (j := 1) rfl)) rfl (EL.val (QM5 rfl) rfl ?_))))))))
     by_cases hjl : j + 1 ≤ x.ls.length
     ·
      obtain ⟨by_, oy, eby, _, d0, d1, d2⟩ := QIt x.ls j (by omega) w10 B _ _ _ (hl.below (hbw.mono hB))
      rw [ekv] at d0 d1 d2;refine EL.val (QF1 (r := true) rfl rfl (decide_eq_true (by omega))) rfl ?_
      refine EL.nil (EX.seq (EC.yes rfl (EC.region (EL.val (QH8 rfl) rfl (EL.val (QLz rfl (q1.at (j := 1) rfl)) rfl (EL.mv rfl rfl ?_))))));refine EL.val (Z_ rfl rfl (c := ((j : Nat) : Int)) ((IntWalk.i64_in _ ⟨by omega, by omega⟩).trans (by omega))) rfl ?_
      refine EL.val (QNA (by show some (Value.slice Al _ _) = _; rw [eby]) rfl (show j < x.ls.length by omega)) rfl ?_
      refine EL.val (QM7 rfl d0 d1 d2) rfl (EL.store rfl rfl q9 QLr rfl rfl rfl rfl ?_);intro w11 hq11 hg11;replace q1 := q1.gr hg11 n1_9;replace q2 := q2.gr hg11 n2_9;replace q5 := q5.gr hg11 n5_9;replace hx := ZG hx q9 rfl hg11;replace hy := ZG hy q9 rfl hg11;replace hbw := ZE hbw hg11 bhbw_9;replace q9 := hq11;clear hg11 hq11;refine EL.nil (EX.seq (EC.region (EL.mv rfl rfl ?_)));refine EL.val (QBW (k := 0) rfl rfl (by omega)) rfl ?_
      refine EL.val (ld_5 rfl (q9.at (j := 0) rfl)) rfl (EL.val (Yl rfl (Zv r0)) rfl ?_);refine EL.val (QBW (k := 1) rfl rfl (by omega)) rfl ?_
      refine EL.val (ld_5 rfl (q9.at (j := 1) rfl)) rfl (EL.val (Yl rfl (Zv r1)) rfl ?_);refine EL.val (QCI rfl rfl (by decide) rfl) rfl ?_
      refine EL.val (QBW (k := 1) rfl rfl (by omega)) rfl ?_
      refine EL.val (ld_5 rfl (q9.at (j := 1) rfl)) rfl (EL.val (Yl rfl (Zv r1)) rfl ?_);refine EL.val (QCI rfl rfl (by decide) rfl) rfl ?_
      refine EL.val (QBW (k := 2) rfl rfl (by omega)) rfl ?_
      refine EL.val (ld_5 rfl (q9.at (j := 2) rfl)) rfl (EL.val (Yl rfl (Zv r2)) rfl ?_);refine EL.val (QCI rfl rfl (by decide) rfl) rfl ?_
      refine EL.val (x_add rfl rfl (c := kv.2.1.tmod 20 + kv.2.2.tmod 20) (IntWalk.i64_in (kv.2.1.tmod 20 + kv.2.2.tmod 20) ⟨by omega, by omega⟩)) rfl ?_
      refine EL.val (YM rfl rfl) rfl (EL.val (QC_ rfl rfl) rfl (EL.newS (QFu rfl) rfl ?_));intro g12 w12 q12 hb12 hg12 hl12;have n1_12 := q1.na hg12;have n2_12 := q2.na hg12;have n5_12 := q5.na hg12;have n9_12 := q9.na hg12;have bhbw_12 := Nat.le_trans hbw.size hg12;have hbg12 : w.heap.size ≤ g12 := Nat.le_trans hbw.size hg12;replace q1 := q1.bl hb12;replace q2 := q2.bl hb12;replace q5 := q5.bl hb12;replace q9 := q9.bl hb12;replace hx := ZB hx hb12 (Nat.le_refl _);replace hy := ZB hy hb12 (Nat.le_refl _);replace hbw := bo_ hbw hb12;clear hb12 hg12 hl12;refine EL.push QDb rfl rfl hy (QAE (l := ltC (ltS kv)) q12 rfl) (ltsC_one [ltS kv]) (by omega) rfl hbw.size rfl ?_
      intro v13 w13 ho13 hgr hb_ hat;replace hbw := hbw.trans hb_;replace q1 := ZK q1 hy rfl hgr;replace q2 := ZK q2 hy rfl hgr;replace q5 := ZK q5 hy rfl hgr;replace q9 := ZK q9 hy rfl hgr;replace hx := Zl hx hy rfl hgr;clear hgr hb_ hat;have hy_ := ho13;clear hy ho13;have hy := hy_;clear hy_;refine EL.as rfl rfl (EL.nil (EX.blk (EX.seq (EC.region (EL.mv rfl rfl ?_)))));refine EL.val (x_add rfl rfl (c := ((i + 1 : Nat) : Int)) ((IntWalk.i64_in _ ⟨by first | omega | (simp only; omega), by first | omega | (simp only; omega)⟩).trans (by first | omega | (simp only; omega)))) rfl ?_
      refine EL.as rfl rfl (EL.nil ?_);refine EX.roundD ((i + 1), v8, v13) ⟨rfl, rfl, rfl, trivial⟩ (by repeat first | with_reducible exact .refl _ | refine sp_ rfl ?_ | exact .refl _ | refine sd_ rfl ?_ | refine sn_ ?_) ⟨⟨hlt, hlm⟩, by simp only; rw [hsu, QD9]; exact hx, by simp only; rw [show i + 1 - 1 = j + 1 by omega, hls, QGZ]; exact hy, q1, q2, hbw⟩ (by simp only; omega)
     ·
      have ekz : kv = z3 := by rw [← ekv]; simp [List.getD, List.getElem?_eq_none (show x.ls.length ≤ j by omega)]
      have hq9 : Blk w10 g9 93 #[.int .u8 kv.1, .int .u8 kv.2.1, .int .u8 kv.2.2] := by rw [ekz]; exact q9
      clear q9;have q9 := hq9;clear hq9;refine EL.val (QF1 (r := false) rfl rfl (decide_eq_false (by omega))) rfl ?_
      refine EL.nil (EX.seq (EC.no rfl (EC.skip (EX.seq (EC.region (EL.mv rfl rfl ?_))))));refine EL.val (QBW (k := 0) rfl rfl (by omega)) rfl ?_
      refine EL.val (ld_5 rfl (q9.at (j := 0) rfl)) rfl (EL.val (Yl rfl (Zv r0)) rfl ?_);refine EL.val (QBW (k := 1) rfl rfl (by omega)) rfl ?_
      refine EL.val (ld_5 rfl (q9.at (j := 1) rfl)) rfl (EL.val (Yl rfl (Zv r1)) rfl ?_);refine EL.val (QCI rfl rfl (by decide) rfl) rfl ?_
      refine EL.val (QBW (k := 1) rfl rfl (by omega)) rfl ?_
      refine EL.val (ld_5 rfl (q9.at (j := 1) rfl)) rfl (EL.val (Yl rfl (Zv r1)) rfl ?_);refine EL.val (QCI rfl rfl (by decide) rfl) rfl ?_
      refine EL.val (QBW (k := 2) rfl rfl (by omega)) rfl ?_
      refine EL.val (ld_5 rfl (q9.at (j := 2) rfl)) rfl (EL.val (Yl rfl (Zv r2)) rfl ?_);refine EL.val (QCI rfl rfl (by decide) rfl) rfl ?_
      refine EL.val (x_add rfl rfl (c := kv.2.1.tmod 20 + kv.2.2.tmod 20) (IntWalk.i64_in (kv.2.1.tmod 20 + kv.2.2.tmod 20) ⟨by omega, by omega⟩)) rfl ?_
      refine EL.val (YM rfl rfl) rfl (EL.val (QC_ rfl rfl) rfl (EL.newS (QFu rfl) rfl ?_));intro g14 w14 q14 hb14 hg14 hl14;have n1_14 := q1.na hg14;have n2_14 := q2.na hg14;have n5_14 := q5.na hg14;have n9_14 := q9.na hg14;have bhbw_14 := Nat.le_trans hbw.size hg14;have hbg14 : w.heap.size ≤ g14 := Nat.le_trans hbw.size hg14;replace q1 := q1.bl hb14;replace q2 := q2.bl hb14;replace q5 := q5.bl hb14;replace q9 := q9.bl hb14;replace hx := ZB hx hb14 (Nat.le_refl _);replace hy := ZB hy hb14 (Nat.le_refl _);replace hbw := bo_ hbw hb14;clear hb14 hg14 hl14;refine EL.push QDb rfl rfl hy (QAE (l := ltC (ltS kv)) q14 rfl) (ltsC_one [ltS kv]) (by omega) rfl hbw.size rfl ?_
      intro v15 w15 ho15 hgr hb_ hat;replace hbw := hbw.trans hb_;replace q1 := ZK q1 hy rfl hgr;replace q2 := ZK q2 hy rfl hgr;replace q5 := ZK q5 hy rfl hgr;replace q9 := ZK q9 hy rfl hgr;replace hx := Zl hx hy rfl hgr;clear hgr hb_ hat;have hy_ := ho15;clear hy ho15;have hy := hy_;clear hy_;refine EL.as rfl rfl (EL.nil (EX.blk (EX.seq (EC.region (EL.mv rfl rfl ?_)))));refine EL.val (x_add rfl rfl (c := ((i + 1 : Nat) : Int)) ((IntWalk.i64_in _ ⟨by first | omega | (simp only; omega), by first | omega | (simp only; omega)⟩).trans (by first | omega | (simp only; omega)))) rfl ?_
      refine EL.as rfl rfl (EL.nil ?_);refine EX.roundD ((i + 1), v8, v15) ⟨rfl, rfl, rfl, trivial⟩ (by repeat first | with_reducible exact .refl _ | refine sp_ rfl ?_ | exact .refl _ | refine sd_ rfl ?_ | refine sn_ ?_) ⟨⟨hlt, hlm⟩, by simp only; rw [hsu, QD9]; exact hx, by simp only; rw [show i + 1 - 1 = j + 1 by omega, hls, QGZ]; exact hy, q1, q2, hbw⟩ (by simp only; omega)
    ·
     refine EL.val (Zw (r := false) rfl rfl (decide_eq_false (by omega))) rfl ?_
     refine EL.nil (EX.seq (EC.no rfl (EC.skip (EX.blk (EX.seq (EC.region (EL.mv rfl rfl ?_)))))));refine EL.val (x_add rfl rfl (c := ((i + 1 : Nat) : Int)) ((IntWalk.i64_in _ ⟨by first | omega | (simp only; omega), by first | omega | (simp only; omega)⟩).trans (by first | omega | (simp only; omega)))) rfl ?_
     refine EL.as rfl rfl (EL.nil ?_);refine EX.roundD ((i + 1), v8, v6) ⟨rfl, rfl, rfl, trivial⟩ (by repeat first | with_reducible exact .refl _ | refine sp_ rfl ?_ | exact .refl _ | refine sd_ rfl ?_ | refine sn_ ?_) ⟨⟨hlt, hlm⟩, by simp only; rw [hsu, QD9]; exact hx, by simp only; rw [show i + 1 - 1 = i - 1 by omega]; exact hy, q1, q2, hbw⟩ (by simp only; omega)
   ·
    have hxe : i = min x.rs.length 8 := by omega
    refine EC.seq (EC.seq (EC.region (EL.mv rfl rfl (EL.val (QDe rfl) rfl (EL.val (QH1 rfl (q1.at (j := 0) rfl)) rfl (EL.val (QJt rfl) rfl ?_))))));refine EL.val (ZO rfl rfl (decide_eq_true (show (((i : Nat) : Int) < ((x.rs.length : Nat) : Int)) by omega))) rfl ?_
    refine EL.mv rfl rfl (EL.mg rfl rfl rfl rfl ?_);refine EL.valg rfl rfl (ZO rfl rfl (decide_eq_false (show ¬(((i : Nat) : Int) < ((8 : Nat) : Int)) by omega))) rfl ?_
    refine EL.pt rfl rfl rfl (EL.nil (EX.seq (EC.no rfl (EC.exit (EX.seq_exit (EX.seq_exit (EX.blk_here ?_)))))))
    exact EX.cutE (v5, v6) ⟨rfl, rfl, trivial⟩ (by repeat first | with_reducible exact (Sub.refl _).del _ | refine sp_ rfl ?_ | exact (Sub.refl _).del _ | refine sd_ rfl ?_ | refine sn_ ?_) ⟨QIG hX hxe hx, QIF hX hY hxe hy, q1, q2, hbw⟩
  ·
   have hxe : i = min x.rs.length 8 := by omega
   refine EC.seq (EC.seq (EC.region (EL.mv rfl rfl (EL.val (QDe rfl) rfl (EL.val (QH1 rfl (q1.at (j := 0) rfl)) rfl (EL.val (QJt rfl) rfl ?_))))));refine EL.val (ZO rfl rfl (decide_eq_false (show ¬(((i : Nat) : Int) < ((x.rs.length : Nat) : Int)) by omega))) rfl ?_
   refine EL.mv rfl rfl (EL.skip rfl rfl rfl rfl (EL.skip rfl rfl rfl rfl (EL.pf rfl rfl rfl (EL.nil (EX.seq (EC.no rfl (EC.exit (EX.seq_exit (EX.seq_exit ?_)))))))));refine EX.blk_here ?_
   exact EX.cutE (v5, v6) ⟨rfl, rfl, trivial⟩ (by repeat first | with_reducible exact (Sub.refl _).del _ | refine sp_ rfl ?_ | exact (Sub.refl _).del _ | refine sd_ rfl ?_ | refine sn_ ?_) ⟨QIG hX hxe hx, QIF hX hY hxe hy, q1, q2, hbw⟩
 ·
  clear hx hy q1 q2 hbw
  rintro ⟨vx, vy⟩ W2 ⟨hx, hy, q1, q2, hbw⟩
  dsimp only at hx hy
  obtain ⟨Ax, cx, rfl, _⟩ := (Rd.of_own hx).shape;obtain ⟨Ay, cy, rfl, _⟩ := (Rd.of_own hy).shape;refine EC.seq (EC.region (EL.val (QLO rfl) rfl (EL.val (ld_5 rfl (q1.at (j := 2) rfl)) rfl (EL.val (Yl rfl (Zv hc.d)) rfl ?_))));refine EL.val (QCI rfl rfl (by decide) (c := ((N : Nat) : Int)) hN) rfl ?_
  refine EL.as rfl rfl (EL.nil (EX.seq (EC.seq (EC.region ?_))));have hsz := hbw.size;refine EL.newS QFw rfl ?_;intro g16 w16 q16 hb16 hg16 hl16;have n1_16 := q1.na hg16;have n2_16 := q2.na hg16;have bhbw_16 := Nat.le_trans hbw.size hg16;have hbg16 : w.heap.size ≤ g16 := Nat.le_trans hbw.size hg16;replace q1 := q1.bl hb16;replace q2 := q2.bl hb16;replace hx := ZB hx hb16 (Nat.le_refl _);replace hy := ZB hy hb16 (Nat.le_refl _);replace hbw := bo_ hbw hb16;clear hb16 hl16;refine EL.mv rfl rfl ?_;refine EL.copy QFY rfl rfl (base := w.heap.size) q16 (Nat.le_trans hsz hg16) (Rd.of_own hx) (lrsC_one X) (by omega) (by omega) hbw.size rfl ?_
  intro v17 w17 hcx hb17;replace q1 := q1.bl hb17;replace q2 := q2.bl hb17;replace hx := ZB hx hb17 (Nat.le_refl _);replace hy := ZB hy hb17 (Nat.le_refl _);replace hbw := bo_ hbw hb17;clear hb17 hg16;obtain ⟨Ahcx, chcx, rfl, _⟩ := (Rd.of_own hcx).shape;have hsz := hbw.size;refine EL.newS QFv rfl ?_;intro g18 w18 q18 hb18 hg18 hl18;have n1_18 := q1.na hg18;have n2_18 := q2.na hg18;have bhbw_18 := Nat.le_trans hbw.size hg18;have hbg18 : w.heap.size ≤ g18 := Nat.le_trans hbw.size hg18;replace q1 := q1.bl hb18;replace q2 := q2.bl hb18;replace hx := ZB hx hb18 (Nat.le_refl _);replace hy := ZB hy hb18 (Nat.le_refl _);replace hcx := ZB hcx hb18 (Nat.le_refl _);replace hbw := bo_ hbw hb18;clear hb18 hl18;refine EL.mv rfl rfl ?_;refine EL.copy QDb rfl rfl (base := w.heap.size) q18 (Nat.le_trans hsz hg18) (Rd.of_own hy) (ltsC_one Y) (by omega) (by omega) hbw.size rfl ?_
  intro v19 w19 hcy hb19;replace q1 := q1.bl hb19;replace q2 := q2.bl hb19;replace hx := ZB hx hb19 (Nat.le_refl _);replace hy := ZB hy hb19 (Nat.le_refl _);replace hcx := ZB hcx hb19 (Nat.le_refl _);replace hbw := bo_ hbw hb19;clear hb19 hg18;obtain ⟨Ahcy, chcy, rfl, _⟩ := (Rd.of_own hcy).shape;refine EL.mv rfl rfl ?_;refine EL.call (cA3 cF26 rfl rfl rfl) rfl (QEa (Rd.of_own hcx) (Rd.of_own hcy) (Nat.le_refl _) (by omega)) ?_
  rintro e w20 ⟨sl, us, rfl, hout, hsl, hc20⟩
  refine ⟨_, rfl, ?_⟩;have hout := fun he => (hout he).mono hbw.size
  replace q1 := q1.bl hc20;replace q2 := q2.bl hc20;replace hx := ZB hx hc20 (Nat.le_refl _);replace hy := ZB hy hc20 (Nat.le_refl _);replace hcx := ZB hcx hc20 (Nat.le_refl _);replace hcy := ZB hcy hc20 (Nat.le_refl _);replace hbw := bo_ hbw hc20;clear hc20 hcx hcy;refine EL.mv rfl rfl (EL.val (ZP (v := sl) rfl rfl) rfl (EL.val (ZP (v := .int .i64 (chE X Y N)) rfl rfl) rfl (EL.as rfl rfl (EL.as rfl rfl (EL.nil (EX.seq (EC.seq (EC.region ?_))))))));have hsz := hbw.size;refine EL.newS QFw rfl ?_;intro g21 w21 q21 hb21 hg21 hl21;have n1_21 := q1.na hg21;have n2_21 := q2.na hg21;have bhbw_21 := Nat.le_trans hbw.size hg21;have hbg21 : w.heap.size ≤ g21 := Nat.le_trans hbw.size hg21;replace q1 := q1.bl hb21;replace q2 := q2.bl hb21;replace hx := ZB hx hb21 (Nat.le_refl _);replace hy := ZB hy hb21 (Nat.le_refl _);replace hout := fun he => (hout he).below hb21
  replace hbw := bo_ hbw hb21;clear hb21 hl21;refine EL.mv rfl rfl ?_;refine EL.copy QFY rfl rfl (base := w.heap.size) q21 (Nat.le_trans hsz hg21) (Rd.of_own hx) (lrsC_one X) (by omega) (by omega) hbw.size rfl ?_
  intro v22 w22 hcx hb22;replace q1 := q1.bl hb22;replace q2 := q2.bl hb22;replace hx := ZB hx hb22 (Nat.le_refl _);replace hy := ZB hy hb22 (Nat.le_refl _);replace hout := fun he => (hout he).below hb22
  replace hbw := bo_ hbw hb22;clear hb22 hg21;obtain ⟨Ahcx, chcx, rfl, _⟩ := (Rd.of_own hcx).shape;have hsz := hbw.size;refine EL.newS QFv rfl ?_;intro g23 w23 q23 hb23 hg23 hl23;have n1_23 := q1.na hg23;have n2_23 := q2.na hg23;have bhbw_23 := Nat.le_trans hbw.size hg23;have hbg23 : w.heap.size ≤ g23 := Nat.le_trans hbw.size hg23;replace q1 := q1.bl hb23;replace q2 := q2.bl hb23;replace hx := ZB hx hb23 (Nat.le_refl _);replace hy := ZB hy hb23 (Nat.le_refl _);replace hout := fun he => (hout he).below hb23
  replace hcx := ZB hcx hb23 (Nat.le_refl _);replace hbw := bo_ hbw hb23;clear hb23 hl23;refine EL.mv rfl rfl ?_;refine EL.copy QDb rfl rfl (base := w.heap.size) q23 (Nat.le_trans hsz hg23) (Rd.of_own hy) (ltsC_one Y) (by omega) (by omega) hbw.size rfl ?_
  intro v24 w24 hcy hb24;replace q1 := q1.bl hb24;replace q2 := q2.bl hb24;replace hx := ZB hx hb24 (Nat.le_refl _);replace hy := ZB hy hb24 (Nat.le_refl _);replace hout := fun he => (hout he).below hb24
  replace hcx := ZB hcx hb24 (Nat.le_refl _);replace hbw := bo_ hbw hb24;clear hb24 hg23;obtain ⟨Ahcy, chcy, rfl, _⟩ := (Rd.of_own hcy).shape;refine EL.mv rfl rfl ?_;refine EL.call (cA3 cF27 rfl rfl rfl) rfl (QE_ (Rd.of_own hcx) (Rd.of_own hcy) (Nat.le_refl _) (by omega)) ?_
  rintro e w25 ⟨day, reach, sure, rfl, hsh, hsz_, hc25⟩
  refine ⟨_, rfl, ?_⟩;replace q1 := q1.bl hc25;replace q2 := q2.bl hc25;replace hx := ZB hx hc25 (Nat.le_refl _);replace hy := ZB hy hc25 (Nat.le_refl _);replace hout := fun he => (hout he).below hc25
  replace hcx := ZB hcx hc25 (Nat.le_refl _);replace hcy := ZB hcy hc25 (Nat.le_refl _);replace hbw := bo_ hbw hc25;clear hc25 hcx hcy;refine EL.mv rfl rfl (EL.val (ZP (v := .int .i64 day) rfl rfl) rfl (EL.val (ZP (v := .int .i64 reach) rfl rfl) rfl (EL.val (ZP (v := .bool sure) rfl rfl) rfl (EL.val (ZP (v := .int .i64 (chE X Y N)) rfl rfl) rfl (EL.as rfl rfl (EL.as rfl rfl (EL.as rfl rfl (EL.as rfl rfl (EL.nil ?_)))))))));refine EX.seq (EC.seq (EC.seq (EC.region (EL.mv rfl rfl (EL.val (QAB rfl) rfl ?_)))))
  by_cases h0 : X.length = 0
  ·
   have he4 : chE X Y N = 4 := by rw [List.length_eq_zero_iff.1 h0]; exact QKQ
   obtain rfl := hsl (by rw [he4]; decide)
   clear hout;refine EL.val (Zx (r := true) rfl rfl (decide_eq_true (by omega))) rfl ?_
   refine EL.nil (EX.seq (EC.yes rfl (EC.seq (EC.region (EL.mv rfl rfl (EL.val (Zx (r := true) rfl rfl (decide_eq_true he4)) rfl (EL.mv rfl rfl (EL.mg rfl rfl rfl rfl (EL.mg rfl rfl rfl rfl ?_)))))))));refine EL.valg rfl rfl (Zx (r := true) rfl rfl (decide_eq_true rfl)) rfl (EL.pt rfl rfl rfl (EL.mv rfl rfl (EL.mg rfl rfl rfl rfl (EL.valg rfl rfl (QHy rfl) rfl ?_))));refine EL.valg rfl rfl (Zx (r := true) rfl rfl (decide_eq_true (by decide))) rfl ?_
   refine EL.pt rfl rfl rfl (EL.mv rfl rfl (EL.callg rfl rfl (cA0 cF12) rfl (QC5 _) ?_))
   rintro e w26 ⟨rfl, hc26⟩
   refine ⟨_, rfl, ?_⟩;replace q1 := q1.bl hc26;replace q2 := q2.bl hc26;replace hx := ZB hx hc26 (Nat.le_refl _);replace hy := ZB hy hc26 (Nat.le_refl _);replace hbw := bo_ hbw hc26;clear hc26;refine EL.pt rfl rfl rfl (EL.as rfl rfl (EL.nil (EX.seq (EC.ret (EX.seq_ret ?_)))))
   exact EX.done (res1 rfl rfl) ⟨rfl, hbw⟩
  ·
   have he : chE X Y N = 0 := by rw [hX, hY, hX]; exact QKP hc (by rw [← hX]; omega) (by omega)
   replace hout := hout he;change OwnLL _ _ sl us (YK X Y N) at hout;have hrd0 := hout.rd;rw [Zt] at hrd0;obtain ⟨As, cs, rfl, _⟩ := (Rd.of_own hrd0).shape;have hsi : QC0 X Y N day reach sure := hsh he;have hch := QEP he;have hyl := hch.yl;clear hrd0 hsh hsz_ hsl;refine EL.val (Zx (r := false) rfl rfl (decide_eq_false (by omega))) rfl ?_
   refine EL.nil (EX.seq (EC.no rfl (EC.skip (EX.seq (EC.seq (EC.seq (EC.region (EL.mv rfl rfl ?_))))))));refine EL.val (Zn (r := false) rfl rfl (decide_eq_false (fun h => h he))) rfl ?_
   refine EL.mv rfl rfl (EL.mg rfl rfl rfl rfl ?_);refine EL.valg rfl rfl (Zn (r := false) rfl rfl (decide_eq_false (fun h => h he))) rfl ?_
   refine EL.pf rfl rfl rfl (EL.mv rfl rfl (EL.mg rfl rfl rfl rfl (EL.valg rfl rfl (QHy rfl) rfl (EL.mg rfl rfl rfl rfl ?_))));refine EL.valg rfl rfl (Zn (r := false) rfl rfl (decide_eq_false (fun h => h rfl))) rfl ?_
   refine EL.pf rfl rfl rfl (EL.nil (EX.seq (EC.no rfl (EC.skip (EX.seq (EC.seq (EC.seq (EC.region (EL.newP al_3 rfl ?_)))))))));intro g27 w27 q27 hb27 hg27 hl27;have n1_27 := q1.na hg27;have n2_27 := q2.na hg27;have bhbw_27 := Nat.le_trans hbw.size hg27;have hbg27 : w.heap.size ≤ g27 := Nat.le_trans hbw.size hg27;replace q1 := q1.bl hb27;replace q2 := q2.bl hb27;replace hx := ZB hx hb27 (Nat.le_refl _);replace hy := ZB hy hb27 (Nat.le_refl _);replace hout := hout.below hb27;replace hbw := bo_ hbw hb27;clear hb27 hg27 hl27;refine EL.store rfl rfl q27 sz_3 rfl rfl rfl rfl ?_;intro w28 hq28 hg28;replace q1 := q1.gr hg28 n1_27;replace q2 := q2.gr hg28 n2_27;replace hx := ZG hx q27 rfl hg28;replace hy := ZG hy q27 rfl hg28;replace hout := hout.box q27 rfl rfl hg28;replace hbw := ZE hbw hg28 bhbw_27;replace q27 := hq28;clear hg28 hq28;refine EL.nil (EX.seq (EC.block ?_));have hgp : g2 ≠ g27 := n2_27;have hgq : w.heap.size ≤ g27 := hbg27;refine EC.loopD [4, 17, 18, 19, 20, 21, 22, 23, 24, 25, 26, 27, 28, 29, 166, 167, 168, 169, 170, 171, 172, 173, 174, 175, 176, 177, 178, 179, 180, 181, 182, 183, 184, 185, 186, 187, 188, 189, 190, 191, 192, 193, 194, 195, 196, 197, 198, 199, 200, 201, 202, 203, 204, 205, 206, 207, 208, 209, 210, 211, 212, 213, 214, 215, 216, 217, 218, 219, 220, 221, 222, 223, 224, 225, 226, 227, 228, 229, 230, 231, 232, 233, 234, 235, 236, 237, 238, 239, 240, 241, 242, 243, 244, 245, 246, 247, 248, 249, 250, 251, 252, 253, 254, 255, 256, 257, 258, 259, 260, 261, 262, 263, 264, 265, 266, 267, 268, 269, 270, 271, 272, 273, 274, 275, 276, 277, 278, 279, 280, 281, 282, 283, 284, 285, 286, 287, 288, 289, 290, 291, 292, 293, 294, 295, 296, 297, 298, 299, 300, 301, 302, 303, 304, 305, 306, 307, 308, 309, 310, 311, 312, 313, 314, 315, 316, 317, 318, 319, 320, 321, 322, 323, 324, 325, 326, 327, 328, 329, 330, 331, 332, 333, 334, 335, 336, 337, 338, 339, 340] (fun y : Nat × Nat => [(17, .pointer (some ⟨y.2, 0, none⟩))]) (fun y W => y.1 ≤ 3 ∧ g2 ≠ y.2 ∧ w.heap.size ≤ y.2 ∧ Blk W y.2 3 #[.int .i64 (y.1 : Nat)] ∧ Blk W g2 99 #[.slice Ap ps.length cp] ∧ W.ownsRow w.heap.size 69 4 (.slice Ax X.length cx) X.length (lrsC (X)) ∧ W.ownsRow w.heap.size 71 3 (.slice Ay Y.length cy) Y.length (ltsC (Y)) ∧ OwnLL W w.heap.size (.slice As N cs) us (YK X Y N) ∧ Below w.heap.size w W) (fun y => 3 - y.1) (0, g27) ⟨by omega, hgp, hgq, q27, q2, hx, hy, hout, hbw⟩ ⟨rfl, trivial⟩ ?_
   clear hgp hgq q27 q2 hx hy hout hbw
   rintro ⟨way, gw⟩ wa ⟨hway, hgp, hgq, qw, q2, hx, hy, hout, hbw⟩
   dsimp only at hway hgp hgq qw
   by_cases hlw : way < 3
   ·
    have n2000_2 : gw ≠ g2 := hgp.symm;refine EC.seq (EC.seq (EC.region (EL.val (ld_3 rfl (qw.at (j := 0) rfl)) rfl ?_)));refine EL.val (ZO (r := true) rfl rfl (decide_eq_true (by omega))) rfl ?_
    refine EL.nil (EX.seq (EC.yes rfl (EC.skip (EX.seq (EC.seq (EC.block (EC.seq (EC.region (EL.newS (QKX) rfl ?_)))))))));intro g29 w29 q29 hb29 hg29 hl29;have n2000_29 := qw.na hg29;have n2_29 := q2.na hg29;have bhbw_29 := Nat.le_trans hbw.size hg29;have hbg29 : w.heap.size ≤ g29 := Nat.le_trans hbw.size hg29;replace qw := qw.bl hb29;replace q2 := q2.bl hb29;replace hx := ZB hx hb29 (Nat.le_refl _);replace hy := ZB hy hb29 (Nat.le_refl _);replace hout := hout.below hb29;replace hbw := bo_ hbw hb29;clear hb29 hg29 hl29;refine EL.newP al_3 rfl ?_;intro g30 w30 q30 hb30 hg30 hl30;have n2000_30 := qw.na hg30;have n2_30 := q2.na hg30;have n29_30 := q29.na hg30;have bhbw_30 := Nat.le_trans hbw.size hg30;have hbg30 : w.heap.size ≤ g30 := Nat.le_trans hbw.size hg30;replace qw := qw.bl hb30;replace q2 := q2.bl hb30;replace q29 := q29.bl hb30;replace hx := ZB hx hb30 (Nat.le_refl _);replace hy := ZB hy hb30 (Nat.le_refl _);replace hout := hout.below hb30;replace hbw := bo_ hbw hb30;clear hb30 hg30 hl30;refine EL.as rfl rfl (EL.as rfl rfl (EL.store rfl rfl q30 sz_3 rfl rfl rfl rfl ?_));intro w31 hq31 hg31;replace qw := qw.gr hg31 n2000_30;replace q2 := q2.gr hg31 n2_30;replace q29 := q29.gr hg31 n29_30;replace hx := ZG hx q30 rfl hg31;replace hy := ZG hy q30 rfl hg31;replace hout := hout.box q30 rfl rfl hg31;replace hbw := ZE hbw hg31 bhbw_30;replace q30 := hq31;clear hg31 hq31;refine EL.nil (EX.seq ?_);have hv : w31.ownsRow w.heap.size 3 1 (.slice (some ⟨g29, 0, none⟩) 0 0) 0 [] := QBn 1 q29 hbg29;have hva : g29 ≠ gw ∧ g29 ≠ g30 := ⟨n2000_29.symm, n29_30⟩;refine EC.cutD [18, 19, 21, 171, 172, 173, 174, 175, 176, 177, 178, 179, 180, 181, 182, 183, 184, 185, 186, 187, 188, 189, 190, 191] (fun v : Value => [(18, v), (19, .int .i64 (sumI (X.map (·.vol))))]) (fun v W => (∀ b, (v : Value).ownBlock = some b → b ≠ gw ∧ b ≠ g30) ∧ W.ownsRow w.heap.size 3 1 v X.length (ints (X.map (·.vol))) ∧ Blk W gw 3 #[.int .i64 (way : Nat)] ∧ Blk W g30 3 #[.int .i64 0] ∧ Blk W g2 99 #[.slice Ap ps.length cp] ∧ W.ownsRow w.heap.size 69 4 (.slice Ax X.length cx) X.length (lrsC (X)) ∧ W.ownsRow w.heap.size 71 3 (.slice Ay Y.length cy) Y.length (ltsC (Y)) ∧ OwnLL W w.heap.size (.slice As N cs) us (YK X Y N) ∧ Below w.heap.size w W) ?_ ?_
    ·
     refine EC.seq (EC.region (EL.as rfl rfl (EL.nil (EX.seq (EC.block ?_)))));refine EC.loopD [18, 19, 21, 171, 172, 173, 174, 175, 176, 177, 178, 179, 180, 181, 182, 183, 184, 185, 186, 187, 188, 189, 190, 191] (fun y : Nat × Value => [(21, .int .i64 (y.1 : Nat)), (18, y.2), (19, .int .i64 (sumI ((X.map (·.vol)).take y.1)))]) (fun y W => y.1 ≤ X.length ∧ (∀ b, (y.2 : Value).ownBlock = some b → b ≠ gw ∧ b ≠ g30) ∧ W.ownsRow w.heap.size 3 1 y.2 y.1 (ints ((X.map (·.vol)).take y.1)) ∧ Blk W gw 3 #[.int .i64 (way : Nat)] ∧ Blk W g30 3 #[.int .i64 0] ∧ Blk W g2 99 #[.slice Ap ps.length cp] ∧ W.ownsRow w.heap.size 69 4 (.slice Ax X.length cx) X.length (lrsC (X)) ∧ W.ownsRow w.heap.size 71 3 (.slice Ay Y.length cy) Y.length (ltsC (Y)) ∧ OwnLL W w.heap.size (.slice As N cs) us (YK X Y N) ∧ Below w.heap.size w W) (fun y => X.length - y.1) (0, .slice (some ⟨g29, 0, none⟩) 0 0) ⟨Nat.zero_le _, (fun b hb => by have e_ : g29 = b := (by simpa [Value.ownBlock] using hb); exact e_ ▸ hva), hv, qw, q30, q2, hx, hy, hout, hbw⟩ ⟨rfl, rfl, rfl, trivial⟩ ?_
     clear hv qw q30 q2 hx hy hout hbw
     rintro ⟨i, v3⟩ wi ⟨hi, hva2, hv, qw, q30, q2, hx, hy, hout, hbw⟩
     dsimp only at hi hva2 hv
     by_cases hlti : i < X.length
     ·
      have hst := QF9 (l := X.map (·.vol)) (k := i) (by rw [List.length_map]; exact hlti)
      have hmt := Z1 (l := X.map (·.vol)) (d := 0) (k := i) (by rw [List.length_map]; exact hlti)
      rw [QHC (a := lr0) hlti] at hst hmt;obtain ⟨b, o, eA_, _, cc⟩ := Yp X i hlti _ _ _ _ _ (Rd.of_own hx);have cv0 := cc.c0;clear cc;have hlr := hch.lr _ (Zo hlti lr0);have hsb := QMI (X := X) hch.lr hX8 i
      generalize exr : X.getD i lr0 = xr at *
      have hvb := QJr hlr;refine EC.seq (EC.seq (EC.region (EL.mv rfl rfl (EL.mv rfl rfl (EL.val (QAB rfl) rfl ?_)))));refine EL.val (ZO rfl rfl (decide_eq_true (show (((i : Nat) : Int) < ((X.length : Nat) : Int)) by omega))) rfl ?_
      refine EL.nil (EX.seq (EC.yes rfl (EC.skip (EX.seq (EC.seq (EC.block (EC.seq (EC.region (EL.mv rfl rfl ?_)))))))));refine EL.mv rfl rfl (EL.mv rfl rfl ?_);refine EL.val (QB3 (by show some (Value.slice Ax _ _) = _; rw [eA_]) rfl hlti) rfl ?_
      refine EL.val (QCl rfl) rfl (EL.val (ld_3 rfl cv0) rfl (EL.newS (YF rfl) rfl ?_));intro g32 w32 q32 hb32 hg32 hl32;have n2000_32 := qw.na hg32;have n30_32 := q30.na hg32;have n2_32 := q2.na hg32;have bhbw_32 := Nat.le_trans hbw.size hg32;have hbg32 : w.heap.size ≤ g32 := Nat.le_trans hbw.size hg32;replace qw := qw.bl hb32;replace q30 := q30.bl hb32;replace q2 := q2.bl hb32;replace hx := ZB hx hb32 (Nat.le_refl _);replace hy := ZB hy hb32 (Nat.le_refl _);replace hout := hout.below hb32;replace cv0 := ZC hb32 cv0;replace hv := ZB hv hb32 (Nat.le_refl _);replace hbw := bo_ hbw hb32;clear hb32 hg32 hl32;refine EL.push QJ7 rfl rfl hv (QAE (l := [.int .i64 xr.vol]) q32 rfl) (by intro u hu; rw [List.mem_singleton.1 hu]; rfl) (by omega) rfl hbw.size rfl ?_
      intro v9 w9 ho9 hgr hb_ hat;have hva9 : ∀ b, v9.ownBlock = some b → b ≠ gw ∧ b ≠ g30 := QIa hva2 hat qw.lt q30.lt;replace hbw := hbw.trans hb_;replace qw := qw.grown hgr (fun e => (hva2 _ e.symm).1 rfl)
      replace q30 := q30.grown hgr (fun e => (hva2 _ e.symm).2 rfl)
      replace q2 := ZK q2 hv rfl hgr;replace hx := Zl hx hv rfl hgr;replace hy := Zl hy hv rfl hgr;replace hout := OwnLL.rowg hout hv rfl rfl hgr;clear cv0 hv hgr hb_ hat;have cv0 := QJs (Rd.of_own hx) hlti eA_ exr;refine EL.as rfl rfl (EL.nil (EX.seq (EC.region (EL.mv rfl rfl (EL.mv rfl rfl (EL.mv rfl rfl ?_))))));refine EL.val (QB3 (by show some (Value.slice Ax _ _) = _; rw [eA_]) rfl hlti) rfl ?_
      refine EL.val (QCl rfl) rfl (EL.val (ld_3 rfl cv0) rfl ?_);refine EL.val (x_add rfl rfl (c := sumI ((X.map (·.vol)).take (i + 1))) ((IntWalk.i64_in _ ⟨by first | omega | (simp only; omega), by first | omega | (simp only; omega)⟩).trans hst.symm)) rfl ?_
      refine EL.as rfl rfl (EL.nil (EX.blk (EX.seq (EC.region (EL.mv rfl rfl ?_)))));refine EL.val (x_add rfl rfl (c := ((i + 1 : Nat) : Int)) ((IntWalk.i64_in _ ⟨by first | omega | (simp only; omega), by first | omega | (simp only; omega)⟩).trans (by first | omega | (simp only; omega)))) rfl ?_
      refine EL.as rfl rfl (EL.nil ?_);refine EX.roundD (i + 1, v9) ⟨rfl, rfl, rfl, trivial⟩ (by repeat first | with_reducible exact .refl _ | refine sp_ rfl ?_ | exact .refl _ | refine sd_ rfl ?_ | refine sn_ ?_) ⟨hlti, hva9, by simp only; rw [hmt, QJ5]; exact ho9, qw, q30, q2, hx, hy, hout, hbw⟩ (by simp only; omega)
     ·
      obtain rfl : i = X.length := by omega
      have hml : (X.map (·.vol)).take X.length = X.map (·.vol) := List.take_of_length_le (by rw [List.length_map]; exact Nat.le_refl _)
      rw [hml] at hv;rw [hml];refine EC.seq (EC.seq (EC.region (EL.mv rfl rfl (EL.mv rfl rfl (EL.val (QAB rfl) rfl ?_)))));refine EL.val (ZO rfl rfl (decide_eq_false (show ¬(((X.length : Nat) : Int) < ((X.length : Nat) : Int)) by omega))) rfl ?_
      refine EL.nil (EX.seq (EC.no rfl (EC.exit (EX.seq_exit (EX.seq_exit (EX.blk_here ?_))))))
      exact EX.cutE v3 ⟨rfl, rfl, trivial⟩ (by repeat first | with_reducible exact (Sub.refl _).del _ | refine sp_ rfl ?_ | exact (Sub.refl _).del _ | refine sd_ rfl ?_ | refine sn_ ?_) ⟨hva2, hv, qw, q30, q2, hx, hy, hout, hbw⟩
    ·
     clear hv hva qw q30 q2 hx hy hout hbw
     rintro vv wv ⟨hva2, hv, qw, q30, q2, hx, hy, hout, hbw⟩
     obtain ⟨Av, cv, rfl, _⟩ := (Rd.of_own hv).shape;obtain ⟨gv, rfl⟩ := QIe hv (by omega)
     have n2000_2001 : gw ≠ g30 := n2000_30;have n2001_2 : g30 ≠ g2 := n2_30.symm;have hwn : w.heap.size ≤ g30 := hbg30;have qn := q30;clear q30
     generalize g30 = gn at *
     refine EC.seq (EC.region (EL.val (QIm rfl rfl rfl) rfl (EL.as rfl rfl (EL.nil (EX.seq (EC.seq (EC.region (EL.as rfl rfl (EL.nil ?_)))))))));refine EX.seq (EC.block ?_);have hin0 := vols_start (way := way) (x := X) (y := Y);have hnn0 : 0 ≤ 16 * 0 := Nat.le_refl _;refine EC.loopD [4, 19, 23, 24, 25, 26, 27, 28, 29, 193, 194, 195, 196, 197, 198, 199, 200, 201, 202, 203, 204, 205, 206, 207, 208, 209, 210, 211, 212, 213, 214, 215, 216, 217, 218, 219, 220, 221, 222, 223, 224, 225, 226, 227, 228, 229, 230, 231, 232, 233, 234, 235, 236, 237, 238, 239, 240, 241, 242, 243, 244, 245, 246, 247, 248, 249, 250, 251, 252, 253, 254, 255, 256, 257, 258, 259, 260, 261, 262, 263, 264, 265, 266, 267, 268, 269, 270, 271, 272, 273, 274, 275, 276, 277, 278, 279, 280, 281, 282, 283, 284, 285, 286, 287, 288, 289, 290, 291, 292, 293, 294, 295, 296, 297, 298, 299, 300, 301, 302, 303, 304, 305, 306, 307, 308, 309, 310, 311, 312, 313, 314, 315, 316, 317, 318, 319, 320, 321, 322, 323, 324, 325, 326, 327, 328, 329, 330, 331, 332, 333, 334, 335, 336, 337, 338, 339] (fun y : Nat × Nat × List Int => [(23, .int .i64 (y.1 : Nat)), (19, .int .i64 (sumI y.2.2))]) (fun y W => y.1 ≤ N ∧ y.2.1 ≤ 16 * y.1 ∧ InB way y.2.2 (volL X Y y.1) ∧ Blk W gw 3 #[.int .i64 (way : Nat)] ∧ Blk W gn 3 #[.int .i64 (y.2.1 : Nat)] ∧ Blk W g2 99 #[.slice Ap ps.length cp] ∧ W.ownsRow w.heap.size 3 1 (.slice (some ⟨gv, 0, none⟩) X.length cv) X.length (ints y.2.2) ∧ W.ownsRow w.heap.size 69 4 (.slice Ax X.length cx) X.length (lrsC (X)) ∧ W.ownsRow w.heap.size 71 3 (.slice Ay Y.length cy) Y.length (ltsC (Y)) ∧ OwnLL W w.heap.size (.slice As N cs) us (YK X Y N) ∧ Below w.heap.size w W) (fun y => N - y.1) (0, 0, X.map (·.vol)) ⟨Nat.zero_le _, hnn0, hin0, qw, qn, q2, hv, hx, hy, hout, hbw⟩ ⟨rfl, rfl, trivial⟩ ?_
     clear qw qn q2 hv hx hy hout hbw hin0 hnn0
     rintro ⟨dd, nn, vs⟩ wd ⟨hdd, hnn, hin, qw, qn, q2, hv, hx, hy, hout, hbw⟩
     dsimp only at hdd hnn hin hv qn
     by_cases hltd : dd < N
     ·
      have hvl : vs.length = X.length := by rw [hin.len, Zc]
      refine EC.seq (EC.seq (EC.region (EL.mv rfl rfl (EL.mv rfl rfl ?_))));refine EL.val (ZO rfl rfl (decide_eq_true (show (((dd : Nat) : Int) < ((N : Nat) : Int)) by omega))) rfl ?_
      refine EL.nil (EX.seq (EC.yes rfl (EC.skip (EX.seq (EC.seq (EC.block ?_))))));refine EC.cutD [19, 24, 25, 198, 199, 200, 201, 202, 203, 204, 205, 206, 207, 208, 209, 210, 211, 212, 213, 214, 215, 216, 217, 218, 219, 220] (fun y : Nat × List Int => [(19, .int .i64 (sumI y.2))]) (fun y W => y.1 ≤ 16 * dd + X.length ∧ InB way y.2 (lockL X Y dd 0) ∧ Blk W gw 3 #[.int .i64 (way : Nat)] ∧ Blk W gn 3 #[.int .i64 (y.1 : Nat)] ∧ Blk W g2 99 #[.slice Ap ps.length cp] ∧ W.ownsRow w.heap.size 3 1 (.slice (some ⟨gv, 0, none⟩) X.length cv) X.length (ints y.2) ∧ W.ownsRow w.heap.size 69 4 (.slice Ax X.length cx) X.length (lrsC (X)) ∧ W.ownsRow w.heap.size 71 3 (.slice Ay Y.length cy) Y.length (ltsC (Y)) ∧ OwnLL W w.heap.size (.slice As N cs) us (YK X Y N) ∧ Below w.heap.size w W) ?_ ?_
      ·
       refine EC.seq (EC.region (EL.as rfl rfl (EL.nil (EX.seq (EC.block ?_)))));have hin1 : InB way vs (infL X Y dd 0) := by rw [QE1]; exact hin
       refine EC.loopD [19, 24, 25, 198, 199, 200, 201, 202, 203, 204, 205, 206, 207, 208, 209, 210, 211, 212, 213, 214, 215, 216, 217, 218, 219, 220] (fun y : Nat × Nat × List Int => [(24, .int .i64 (y.1 : Nat)), (19, .int .i64 (sumI y.2.2))]) (fun y W => y.1 ≤ X.length ∧ y.2.1 ≤ 16 * dd + y.1 ∧ InB way y.2.2 (infL X Y dd y.1) ∧ Blk W gw 3 #[.int .i64 (way : Nat)] ∧ Blk W gn 3 #[.int .i64 (y.2.1 : Nat)] ∧ Blk W g2 99 #[.slice Ap ps.length cp] ∧ W.ownsRow w.heap.size 3 1 (.slice (some ⟨gv, 0, none⟩) X.length cv) X.length (ints y.2.2) ∧ W.ownsRow w.heap.size 69 4 (.slice Ax X.length cx) X.length (lrsC (X)) ∧ W.ownsRow w.heap.size 71 3 (.slice Ay Y.length cy) Y.length (ltsC (Y)) ∧ OwnLL W w.heap.size (.slice As N cs) us (YK X Y N) ∧ Below w.heap.size w W) (fun y => X.length - y.1) (0, nn, vs) ⟨Nat.zero_le _, hnn, hin1, qw, qn, q2, hv, hx, hy, hout, hbw⟩ ⟨rfl, rfl, trivial⟩ ?_
       clear qw qn q2 hv hx hy hout hbw hin1
       rintro ⟨i, nn2, vs2⟩ wi ⟨hi, hnn2, hin2, qw, qn, q2, hv, hx, hy, hout, hbw⟩
       dsimp only at hi hnn2 hin2 hv qn
       have hvl2 : vs2.length = X.length := by rw [hin2.len, QAU]
       by_cases hlti : i < X.length
       ·
        obtain ⟨b, o, eA_, _, cc⟩ := Yp X i hlti _ _ _ _ _ (Rd.of_own hx);have kx2 := cc.c2;have kx3 := cc.c3;clear cc;have hbb := QMb (hch.lr _ (Zo hlti lr0));have hstp := fun z (h : Pick way true (X.getD i lr0).inf z) => hin2.inf hlti h
        have hvb := QJ8 hch (by omega) hin2 (i := i) hlti
        have hsb := QKo hX8 (QLK hch (by omega) hin2)
        generalize (X.getD i lr0).inf = bq at *
        refine EC.seq (EC.seq (EC.region (EL.mv rfl rfl (EL.mv rfl rfl (EL.val (QAB rfl) rfl ?_)))));refine EL.val (ZO rfl rfl (decide_eq_true (show (((i : Nat) : Int) < ((X.length : Nat) : Int)) by omega))) rfl ?_
        refine EL.nil (EX.seq (EC.yes rfl (EC.skip (EX.seq (EC.seq (EC.block (EC.seq (EC.region (EL.mv rfl rfl ?_)))))))));refine EL.mv rfl rfl (EL.mv rfl rfl ?_);refine EL.val (QB3 (by show some (Value.slice Ax _ _) = _; rw [eA_]) rfl hlti) rfl ?_
        refine EL.val (QFf rfl) rfl (EL.val (QBV rfl kx2 kx3) rfl ?_);refine EL.call (QCt rfl rfl rfl) rfl (QGM (b := bq) (low := true) (way := way) hbb (by omega) (by omega) qn qw q2 n2000_2001.symm n2001_2 n2000_2 (hp.below (hbw.mono hB)) hps (Nat.le_trans hB hbw.size) (Nat.le_trans hB hwn)) ?_
        rintro e wk_ ⟨⟨rr, rfl, hpk⟩, qn2, hgr⟩
        refine ⟨_, rfl, ?_⟩;replace qw := qw.grown hgr (fun e => n2000_2001 (Option.some.inj e))
        replace q2 := q2.grown hgr (fun e => n2001_2.symm (Option.some.inj e))
        replace hx := ZG hx qn rfl hgr;replace hy := ZG hy qn rfl hgr;replace hout := hout.box qn rfl rfl hgr;replace hv := Yd hv hgr (fun b hb e => (hva2 b hb).2 (Option.some.inj e).symm)
        replace hbw := ZE hbw hgr hwn;clear qn hgr;have qn := qn2;clear qn2;refine EL.as rfl rfl (EL.nil (EX.seq (EC.seq (EC.region ?_))));have hpk0 := hstp rr hpk;obtain ⟨hpk1, hpk2, _, _⟩ := hpk;obtain ⟨bv, ov, ev_, _, kv⟩ := YO vs2 i (by omega) _ _ _ _ _ (Rd.of_own hv)
        injection ev_ with ev_
        injection ev_ with ev1_ ev2_
        subst ev1_ ev2_;refine EL.mv rfl rfl (EL.mv rfl rfl (EL.val (Y4 rfl rfl hlti) rfl (EL.val (ld_3 rfl kv) rfl (EL.mv rfl rfl ?_))));refine EL.val (x_add rfl rfl (c := vs2.getD i 0 + rr) (IntWalk.i64_in (vs2.getD i 0 + rr) ⟨by omega, by omega⟩)) rfl ?_
        refine EL.val (Y4 rfl rfl hlti) rfl ?_;refine EL.storeRow (l' := [.int .i64 (vs2.getD i 0 + rr)]) rfl rfl hv sz_3 rfl rfl (by rw [ints_len]; omega) rfl ?_
        intro w33 hv2 hgr;rw [Nat.zero_add, QCR (by omega)] at hv2
        replace qw := qw.grown hgr (fun e => (hva2 gv rfl).1 (Option.some.inj e).symm)
        replace qn := qn.grown hgr (fun e => (hva2 gv rfl).2 (Option.some.inj e).symm)
        replace q2 := ZK q2 hv rfl hgr;replace hx := Zl hx hv rfl hgr;replace hy := Zl hy hv rfl hgr;replace hout := OwnLL.rowg hout hv rfl rfl hgr;replace hbw := hbw.trans (ZM hv hgr hbw.size);clear hv hgr;have hv := hv2;clear hv2;refine EL.nil (EX.seq (EC.region (EL.mv rfl rfl (EL.mv rfl rfl ?_))));refine EL.val (x_add rfl rfl (c := sumI (vs2.set i (vs2.getD i 0 + rr))) ((IntWalk.i64_in _ ⟨by first | omega | (simp only; omega), by first | omega | (simp only; omega)⟩).trans (by rw [QDU (by omega)]; simp only; omega))) rfl ?_
        refine EL.as rfl rfl (EL.nil (EX.blk (EX.seq (EC.region (EL.mv rfl rfl ?_)))));refine EL.val (x_add rfl rfl (c := ((i + 1 : Nat) : Int)) ((IntWalk.i64_in _ ⟨by first | omega | (simp only; omega), by first | omega | (simp only; omega)⟩).trans (by first | omega | (simp only; omega)))) rfl ?_
        refine EL.as rfl rfl (EL.nil ?_);refine EX.roundD (i + 1, nn2 + 1, vs2.set i (vs2.getD i 0 + rr)) ⟨rfl, rfl, trivial⟩ (by repeat first | with_reducible exact .refl _ | refine sp_ rfl ?_ | exact .refl _ | refine sd_ rfl ?_ | refine sn_ ?_) ⟨hlti, by simp only; omega, hpk0, qw, qn, q2, hv, hx, hy, hout, hbw⟩ (by simp only; omega)
       ·
        obtain rfl : i = X.length := by omega
        refine EC.seq (EC.seq (EC.region (EL.mv rfl rfl (EL.mv rfl rfl (EL.val (QAB rfl) rfl ?_)))));refine EL.val (ZO rfl rfl (decide_eq_false (show ¬(((X.length : Nat) : Int) < ((X.length : Nat) : Int)) by omega))) rfl ?_
        refine EL.nil (EX.seq (EC.no rfl (EC.exit (EX.seq_exit (EX.seq_exit (EX.blk_here ?_))))))
        exact EX.cutE (nn2, vs2) ⟨rfl, trivial⟩ (by repeat first | with_reducible exact (Sub.refl _).del _ | refine sp_ rfl ?_ | exact (Sub.refl _).del _ | refine sd_ rfl ?_ | refine sn_ ?_) ⟨hnn2, by rw [← QGe]; exact hin2, qw, qn, q2, hv, hx, hy, hout, hbw⟩
      ·
       clear qw qn q2 hv hx hy hout hbw hin hnn
       rintro ⟨n3, v3⟩ w3 ⟨hn3, hin3, qw, qn, q2, hv, hx, hy, hout, hbw⟩
       dsimp only at hn3 hin3 hv qn
       have hvl3 : v3.length = X.length := by rw [hin3.len, YA]
       refine EC.cutD [26, 27, 221, 222, 223, 224, 225, 226, 227, 228, 229, 230, 231, 232, 233, 234, 235, 236, 237, 238, 239, 240, 241, 242, 243, 244, 245, 246, 247, 248, 249, 250, 251, 252, 253, 254] (fun y : Nat × List Int => []) (fun y W => y.1 ≤ 16 * (dd + 1) ∧ InB way y.2 (volL X Y (dd + 1)) ∧ sumI y.2 = sumI v3 ∧ Blk W gw 3 #[.int .i64 (way : Nat)] ∧ Blk W gn 3 #[.int .i64 (y.1 : Nat)] ∧ Blk W g2 99 #[.slice Ap ps.length cp] ∧ W.ownsRow w.heap.size 3 1 (.slice (some ⟨gv, 0, none⟩) X.length cv) X.length (ints y.2) ∧ W.ownsRow w.heap.size 69 4 (.slice Ax X.length cx) X.length (lrsC (X)) ∧ W.ownsRow w.heap.size 71 3 (.slice Ay Y.length cy) Y.length (ltsC (Y)) ∧ OwnLL W w.heap.size (.slice As N cs) us (YK X Y N) ∧ Below w.heap.size w W) ?_ ?_
       ·
        refine EC.seq (EC.region (EL.as rfl rfl (EL.nil (EX.seq (EC.block ?_)))));refine EC.loopD [26, 27, 221, 222, 223, 224, 225, 226, 227, 228, 229, 230, 231, 232, 233, 234, 235, 236, 237, 238, 239, 240, 241, 242, 243, 244, 245, 246, 247, 248, 249, 250, 251, 252, 253, 254] (fun y : Nat × Nat × List Int => [(26, .int .i64 (y.1 : Nat))]) (fun y W => y.1 ≤ Y.length ∧ y.2.1 ≤ 16 * dd + X.length + y.1 ∧ InB way y.2.2 (lockL X Y dd y.1) ∧ sumI y.2.2 = sumI v3 ∧ Blk W gw 3 #[.int .i64 (way : Nat)] ∧ Blk W gn 3 #[.int .i64 (y.2.1 : Nat)] ∧ Blk W g2 99 #[.slice Ap ps.length cp] ∧ W.ownsRow w.heap.size 3 1 (.slice (some ⟨gv, 0, none⟩) X.length cv) X.length (ints y.2.2) ∧ W.ownsRow w.heap.size 69 4 (.slice Ax X.length cx) X.length (lrsC (X)) ∧ W.ownsRow w.heap.size 71 3 (.slice Ay Y.length cy) Y.length (ltsC (Y)) ∧ OwnLL W w.heap.size (.slice As N cs) us (YK X Y N) ∧ Below w.heap.size w W) (fun y => Y.length - y.1) (0, n3, v3) ⟨Nat.zero_le _, hn3, hin3, rfl, qw, qn, q2, hv, hx, hy, hout, hbw⟩ ⟨rfl, trivial⟩ ?_
        clear qw qn q2 hv hx hy hout hbw
        rintro ⟨j, n4, v4⟩ wj ⟨hj, hn4, hin4, hsm4, qw, qn, q2, hv, hx, hy, hout, hbw⟩
        dsimp only at hj hn4 hin4 hsm4 hv qn
        have hvl4 : v4.length = X.length := by rw [hin4.len, YA]
        by_cases hltj : j < Y.length
        ·
         obtain ⟨b, o, eA_, _, _⟩ := QAO Y j hltj _ _ _ _ _ (Rd.of_own hy);have hltb := hch.lt _ (Zo hltj lt0);have hfb := QLD hltb;have hbb := QMZ hltb;have hstp := fun z (h : Pick way false (Y.getD j lt0).cyc z) => hin4.lock (by omega) hfb.1 h
         have hsl := fun a => QJL (v := v4) (j := j) (a := a) (by omega)
         have hvb := QHw hch (by omega) hin4 (i := j) (by omega)
         have hvb1 := QHw hch (by omega) hin4 (i := j + 1) (by omega)
         generalize ekj : Y.getD j lt0 = kj at *
         refine EC.seq (EC.seq (EC.region (EL.mv rfl rfl (EL.mv rfl rfl (EL.val (QGa rfl) rfl ?_)))));refine EL.val (ZO rfl rfl (decide_eq_true (show (((j : Nat) : Int) < ((Y.length : Nat) : Int)) by omega))) rfl ?_
         refine EL.nil (EX.seq (EC.yes rfl (EC.skip (EX.seq (EC.seq (EC.block (EC.seq ?_)))))));refine EC.regionS [[], [], [0, 1], [0, 1, 2], [0, 1, 2, 3], [], [], [], [6, 7], [6, 7, 8], [6, 7, 8, 9], [5, 6, 7, 8, 9, 10], [0, 1, 2, 3, 4, 5, 6, 7, 8, 9, 10, 11], [0, 1, 2, 3, 4, 5, 6, 7, 8, 9, 10, 11, 12]] 12 [] [11] (fun fl w_ => wj.grownBy w_ (some gn) ∧ (fl 11 = false → Blk w_ gn 3 #[.int .i64 (n4 : Nat)])) (phiS (fun i_ r => match i_ with | 0 => r 0 = .slice Ay Y.length cy | 1 => r 1 = .int .i64 (j : Nat) | 2 => r 2 = .pointer (some ⟨b, o + j * 3, none⟩) | 3 => r 3 = .pointer (some ⟨b, o + j * 3, none⟩) | 4 => r 4 = .int .i64 kj.fill | 5 => r 5 = .func (.func 35) #[] #[.pointer (some ⟨gn, 0, none⟩), .pointer (some ⟨gw, 0, none⟩), .pointer (some ⟨g2, 0, none⟩)] | 6 => r 6 = .slice Ay Y.length cy | 7 => r 7 = .int .i64 (j : Nat) | 8 => r 8 = .pointer (some ⟨b, o + j * 3, none⟩) | 9 => r 9 = .pointer (some ⟨b, o + j * 3 + 1, none⟩) | 10 => r 10 = .agg #[.int .i64 kj.cyc.lo, .int .i64 kj.cyc.hi] | _ => True) [(11, fun _ r w_ => ∃ z_, r 11 = .int .i64 z_ ∧ Pick way false kj.cyc z_ ∧ Blk w_ gn 3 #[.int .i64 (n4 + 1 : Nat)])]) (by kernel_rfl) rfl rfl (by intro i hi; simp at hi; subst hi; exact ⟨by simp, by omega⟩) (Yy qn) (ZL (fun _ _ _ _ hb ⟨z, h1, h2, h3⟩ => ⟨z, h1, h2, h3.below hb h3.lt⟩) (Zd)) (fun i_ hi_ hs_ => ?_) (fun i_ hi_ => ?_) ?_
         ·match i_, hi_ with
          | 0, _ =>
           intro val fl w1 a hb ha hd hfl;obtain ⟨hgb, hz0_⟩ := hb;have ha := ha.s0 (d := 6) rfl
           exact ZD ha rfl rfl (x_move rfl) rfl rfl
          | 1, _ =>
           intro val fl w1 a hb ha hd hfl;obtain ⟨hgb, hz0_⟩ := hb;have ha := ha.s0 (d := 26) rfl
           exact ZD ha rfl rfl (x_move rfl) rfl rfl
          | 2, _ =>
           intro val fl w1 a hb ha hd hfl;obtain ⟨hgb, hz0_⟩ := hb;have e0 : val 0 = _ := hd 0 (ZA.1 rfl);have e1 : val 1 = _ := hd 1 (ZA.1 rfl);have ha := ha.s2 (d := 228) (e := 227) rfl e1 rfl e0
           exact ZD ha rfl rfl (QH3 (by show some (Value.slice Ay _ _) = _; rw [eA_]) rfl hltj) rfl rfl
          | 3, _ =>
           intro val fl w1 a hb ha hd hfl;obtain ⟨hgb, hz0_⟩ := hb;have e2 : val 2 = _ := hd 2 (ZA.1 rfl);have ha := ha.s1 (d := 229) rfl e2
           exact ZD ha rfl rfl (QDh rfl) rfl rfl
          | 4, _ =>
           intro val fl w1 a hb ha hd hfl;obtain ⟨hgb, hz0_⟩ := hb;have e3 : val 3 = _ := hd 3 (ZA.1 rfl);have ha := ha.s1 (d := 230) rfl e3
           exact ZD ha rfl rfl (ld_3 rfl (QJp (Rd.of_own (ZG hy qn rfl hgb)) hltj eA_ ekj)) rfl rfl
          | 5, _ =>
           intro val fl w1 a hb ha hd hfl;obtain ⟨hgb, hz0_⟩ := hb;have ha := ha.s0 (d := 22) rfl
           exact ZD ha rfl rfl (x_move rfl) rfl rfl
          | 6, _ =>
           intro val fl w1 a hb ha hd hfl;obtain ⟨hgb, hz0_⟩ := hb;have ha := ha.s0 (d := 6) rfl
           exact ZD ha rfl rfl (x_move rfl) rfl rfl
          | 7, _ =>
           intro val fl w1 a hb ha hd hfl;obtain ⟨hgb, hz0_⟩ := hb;have ha := ha.s0 (d := 26) rfl
           exact ZD ha rfl rfl (x_move rfl) rfl rfl
          | 8, _ =>
           intro val fl w1 a hb ha hd hfl;obtain ⟨hgb, hz0_⟩ := hb;have e6 : val 6 = _ := hd 6 (ZA.1 rfl);have e7 : val 7 = _ := hd 7 (ZA.1 rfl);have ha := ha.s2 (d := 234) (e := 233) rfl e7 rfl e6
           exact ZD ha rfl rfl (QH3 (by show some (Value.slice Ay _ _) = _; rw [eA_]) rfl hltj) rfl rfl
          | 9, _ =>
           intro val fl w1 a hb ha hd hfl;obtain ⟨hgb, hz0_⟩ := hb;have e8 : val 8 = _ := hd 8 (ZA.1 rfl);have ha := ha.s1 (d := 235) rfl e8
           exact ZD ha rfl rfl (QDg rfl) rfl rfl
          | 10, _ =>
           intro val fl w1 a hb ha hd hfl;obtain ⟨hgb, hz0_⟩ := hb;have e9 : val 9 = _ := hd 9 (ZA.1 rfl);have ha := ha.s1 (d := 236) rfl e9
           exact ZD ha rfl rfl (QBV rfl (QJo (Rd.of_own (ZG hy qn rfl hgb)) hltj eA_ ekj) (QJn (Rd.of_own (ZG hy qn rfl hgb)) hltj eA_ ekj)) rfl rfl
          | 11, _ =>
           exact absurd (by simp) hs_
          | k + 12, h => exact absurd h (by omega)
         ·simp only [List.mem_singleton] at hi_
          subst hi_;intro val fl w1 a hb hfi ha hd hfl;obtain ⟨hgb, hz0_⟩ := hb;have e5 : val 5 = _ := hd 5 (ZA.1 rfl);have e10 : val 10 = _ := hd 10 (ZA.1 rfl);have ha := ha.s2 (d := 237) (e := 232) rfl e10 rfl e5;refine QKj ha rfl rfl (QCt rfl rfl rfl) (QGM (b := kj.cyc) (low := false) (way := way) (nn := n4) hbb (by omega) (by omega) (hz0_ hfi) (qw.grown hgb (fun e => n2000_2001 (Option.some.inj e))) (q2.grown hgb (fun e => n2001_2.symm (Option.some.inj e))) n2000_2001.symm n2001_2 n2000_2 ((hp.below (hbw.mono hB)).grown hgb (Nat.le_trans hB hbw.size) (fun g_ e_ => by injection e_ with e_; omega)) hps (Nat.le_trans (Nat.le_trans hB hbw.size) hgb.size) (Nat.le_trans hB hwn)) (fun e w' h => by obtain ⟨⟨z, rfl, _⟩, _⟩ := h; exact ⟨_, rfl⟩) ?_
          rintro v w' ⟨⟨z, ez, hpz⟩, hqz, hgz⟩
          injection ez with ez
          subst ez;refine ⟨_, rfl, hgz.size, ⟨YB hgb hgz, fun h => by rw [ZR] at h; cases h⟩, ⟨z, rfl, hpz, hqz⟩, fun j _ hj hn hA => ?_⟩
          exact ZF (C := fun j => j ≠ 11 ∧ 11 ∉ clsAt [[], [], [0, 1], [0, 1, 2], [0, 1, 2, 3], [], [], [], [6, 7], [6, 7, 8], [6, 7, 8, 9], [5, 6, 7, 8, 9, 10], [0, 1, 2, 3, 4, 5, 6, 7, 8, 9, 10, 11], [0, 1, 2, 3, 4, 5, 6, 7, 8, 9, 10, 11, 12]] j) (fun hc => absurd rfl hc.1) (fun _ _ h => h) j ⟨hj, hn⟩
         ·intro val fl w' hfl hb halc hd
          obtain ⟨hgr, _⟩ := hb;obtain ⟨rr, e11, hpk, qn2⟩ := hd 11 (by omega)
          change val 11 = _ at e11;change Blk w' gn 3 #[.int .i64 (n4 + 1 : Nat)] at qn2;have e0 : val 0 = _ := hd 0 (by omega)
          have e1 : val 1 = _ := hd 1 (by omega)
          have e2 : val 2 = _ := hd 2 (by omega)
          have e3 : val 3 = _ := hd 3 (by omega)
          have e4 : val 4 = _ := hd 4 (by omega)
          have e5 : val 5 = _ := hd 5 (by omega)
          have e6 : val 6 = _ := hd 6 (by omega)
          have e7 : val 7 = _ := hd 7 (by omega)
          have e8 : val 8 = _ := hd 8 (by omega)
          have e9 : val 9 = _ := hd 9 (by omega)
          have e10 : val 10 = _ := hd 10 (by omega)
          refine EL.ends (cs := [_, _, _, _, _, _, _, _, _, _, _, _]) ⟨e0, e1, e2, e3, e4, e5, e6, e7, e8, e9, e10, e11, trivial⟩ rfl ?_;replace qw := qw.grown hgr (fun e => n2000_2001 (Option.some.inj e))
          replace q2 := q2.grown hgr (fun e => n2001_2.symm (Option.some.inj e))
          replace hx := ZG hx qn rfl hgr;replace hy := ZG hy qn rfl hgr;replace hout := hout.box qn rfl rfl hgr;replace hv := Yd hv hgr (fun b hb e => (hva2 b hb).2 (Option.some.inj e).symm)
          replace hbw := ZE hbw hgr hwn;clear qn hgr;have qn := qn2;clear qn2;refine EL.val (QAY rfl rfl (c := kj.fill * rr) (QMT hfb hbb hpk.1 hpk.2.1)) rfl (EL.as rfl rfl (EL.nil (EX.seq (EC.seq (EC.region ?_)))));have hpk0 := hstp rr hpk;obtain ⟨hpk1, hpk2, _, _⟩ := hpk;have hmb := QG9 hfb hbb hpk1 hpk2;obtain ⟨bv, ov, ev_, _, kv⟩ := YO v4 j (by omega) _ _ _ _ _ (Rd.of_own hv)
          injection ev_ with ev_
          injection ev_ with ev1_ ev2_
          subst ev1_ ev2_;refine EL.mv rfl rfl (EL.mv rfl rfl ?_);refine EL.val (Y4 rfl rfl (show j < X.length by omega)) rfl ?_
          refine EL.val (ld_3 rfl kv) rfl (EL.mv rfl rfl ?_);refine EL.val (Z_ rfl rfl (c := v4.getD j 0 - kj.fill * rr) (IntWalk.i64_in (v4.getD j 0 - kj.fill * rr) ⟨by omega, by omega⟩)) rfl ?_
          refine EL.val (Y4 rfl rfl (show j < X.length by omega)) rfl ?_
          refine EL.storeRow (l' := [.int .i64 (v4.getD j 0 - kj.fill * rr)]) rfl rfl hv sz_3 rfl rfl (by rw [ints_len]; omega) rfl ?_
          intro w34 hv2 hgr;rw [Nat.zero_add, QCR (by omega)] at hv2
          replace qw := qw.grown hgr (fun e => (hva2 gv rfl).1 (Option.some.inj e).symm)
          replace qn := qn.grown hgr (fun e => (hva2 gv rfl).2 (Option.some.inj e).symm)
          replace q2 := ZK q2 hv rfl hgr;replace hx := Zl hx hv rfl hgr;replace hy := Zl hy hv rfl hgr;replace hout := OwnLL.rowg hout hv rfl rfl hgr;replace hbw := hbw.trans (ZM hv hgr hbw.size);clear hv hgr;have hv := hv2;clear hv2;refine EL.nil (EX.seq (EC.region ?_));have hg1 : (v4.set j (v4.getD j 0 - kj.fill * rr)).getD (j + 1) 0 = v4.getD (j + 1) 0 := by rw [QBN (by omega), if_neg (by omega)]
          have hl1 : (v4.set j (v4.getD j 0 - kj.fill * rr)).length = X.length := by rw [List.length_set]; exact hvl4
          obtain ⟨bv, ov, ev_, _, kv⟩ := YO (v4.set j (v4.getD j 0 - kj.fill * rr)) (j + 1) (by omega) _ _ _ _ _ (Rd.of_own hv)
          injection ev_ with ev_
          injection ev_ with ev1_ ev2_
          subst ev1_ ev2_;refine EL.mv rfl rfl (EL.mv rfl rfl ?_);refine EL.val (x_add rfl rfl (c := ((j + 1 : Nat) : Int)) ((IntWalk.i64_in _ ⟨by first | omega | (simp only; omega), by first | omega | (simp only; omega)⟩).trans (by first | omega | (simp only; omega)))) rfl ?_
          refine EL.val (Y4 rfl rfl (show j + 1 < X.length by omega)) rfl ?_
          refine EL.val (ld_3 rfl kv) rfl (EL.mv rfl rfl ?_);refine EL.val (x_add rfl rfl (c := (v4.set j (v4.getD j 0 - kj.fill * rr)).getD (j + 1) 0 + kj.fill * rr) (IntWalk.i64_in _ ⟨by rw [hg1]; omega, by rw [hg1]; omega⟩)) rfl ?_
          refine EL.val (Y4 rfl rfl (show j + 1 < X.length by omega)) rfl ?_
          refine EL.storeRow (l' := [.int .i64 ((v4.set j (v4.getD j 0 - kj.fill * rr)).getD (j + 1) 0 + kj.fill * rr)]) rfl rfl hv sz_3 rfl rfl (by rw [ints_len, hl1]; omega) rfl ?_
          intro w35 hv2 hgr;rw [Nat.zero_add, QCR (by rw [hl1]; omega)] at hv2
          replace qw := qw.grown hgr (fun e => (hva2 gv rfl).1 (Option.some.inj e).symm)
          replace qn := qn.grown hgr (fun e => (hva2 gv rfl).2 (Option.some.inj e).symm)
          replace q2 := ZK q2 hv rfl hgr;replace hx := Zl hx hv rfl hgr;replace hy := Zl hy hv rfl hgr;replace hout := OwnLL.rowg hout hv rfl rfl hgr;replace hbw := hbw.trans (ZM hv hgr hbw.size);clear hv hgr;have hv := hv2;clear hv2;refine EL.nil (EX.blk (EX.seq (EC.region (EL.mv rfl rfl ?_))));refine EL.val (x_add rfl rfl (c := ((j + 1 : Nat) : Int)) ((IntWalk.i64_in _ ⟨by first | omega | (simp only; omega), by first | omega | (simp only; omega)⟩).trans (by first | omega | (simp only; omega)))) rfl ?_
          refine EL.as rfl rfl (EL.nil ?_);refine EX.roundD (j + 1, n4 + 1, (v4.set j (v4.getD j 0 - kj.fill * rr)).set (j + 1) ((v4.set j (v4.getD j 0 - kj.fill * rr)).getD (j + 1) 0 + kj.fill * rr)) ⟨rfl, trivial⟩ (by repeat first | with_reducible exact .refl _ | refine sp_ rfl ?_ | exact .refl _ | refine sd_ rfl ?_ | refine sn_ ?_) ⟨hltj, by simp only; omega, hpk0, by simp only; rw [hsl]; exact hsm4, qw, qn, q2, hv, hx, hy, hout, hbw⟩ (by simp only; omega)
        ·
         obtain rfl : j = Y.length := by omega
         refine EC.seq (EC.seq (EC.region (EL.mv rfl rfl (EL.mv rfl rfl (EL.val (QGa rfl) rfl ?_)))));refine EL.val (ZO rfl rfl (decide_eq_false (show ¬(((Y.length : Nat) : Int) < ((Y.length : Nat) : Int)) by omega))) rfl ?_
         refine EL.nil (EX.seq (EC.no rfl (EC.exit (EX.seq_exit (EX.seq_exit (EX.blk_here ?_))))))
         exact EX.cutE (n4, v4) trivial (by repeat first | with_reducible exact (Sub.refl _).del _ | refine sp_ rfl ?_ | exact (Sub.refl _).del _ | refine sd_ rfl ?_ | refine sn_ ?_) ⟨by simp only; omega, by rw [← lockL_all]; exact hin4, hsm4, qw, qn, q2, hv, hx, hy, hout, hbw⟩
       ·
        clear qw qn q2 hv hx hy hout hbw hin3
        rintro ⟨n5, v5⟩ w5 ⟨hn5, hin5, hsm5, qw, qn, q2, hv, hx, hy, hout, hbw⟩
        dsimp only at hn5 hin5 hsm5 hv qn
        rw [← hsm5];have hlD := Zt X Y N;have hvl5 : v5.length = X.length := by rw [hin5.len, Zc]
        have hat5 := fun i (hi : i < X.length) => QMB hin5 hi
        obtain ⟨bq, oq, eq_, _, cq⟩ := QBR (Rd.of_own (hlD ▸ hout.rd)) (k := dd) (by rw [hout.len, hlD]; exact hltd)
        have hrow := hout.row dd (by rw [hlD]; exact hltd)
        rw [YY hltd, Zc] at hrow;obtain ⟨gr, cr_, er⟩ := Z6 hrow (by omega)
        rw [er] at cq;clear hrow;refine EC.seq (EC.seq (EC.region (EL.mv rfl rfl (EL.mv rfl rfl ?_))));refine EL.val (QAu (by show some (Value.slice As _ _) = _; rw [eq_]) rfl hltd) rfl ?_
        refine EL.val (QAs rfl cq) rfl (EL.val (QHx rfl) rfl (EL.mv rfl rfl (EL.val (QAB rfl) rfl ?_)));refine EL.val (Zn (r := false) rfl rfl (decide_eq_false (fun h => h rfl))) rfl ?_
        refine EL.nil (EX.seq (EC.no rfl (EC.skip (EX.seq (EC.seq (EC.region (EL.as rfl rfl (EL.nil (EX.seq ?_)))))))));clear eq_ cq;refine EC.cutD [4, 28, 29, 263, 264, 265, 266, 267, 268, 269, 270, 271, 272, 273, 274, 275, 276, 277, 278, 279, 280, 281, 282, 283, 284, 285, 286, 287, 288, 289, 290, 291, 292, 293, 294, 295, 296, 297, 298, 299, 300, 301, 302] (fun _ : Unit => [(28, .int .i64 (sumI v5))]) (fun _ W => Blk W gw 3 #[.int .i64 (way : Nat)] ∧ Blk W gn 3 #[.int .i64 (n5 : Nat)] ∧ Blk W g2 99 #[.slice Ap ps.length cp] ∧ W.ownsRow w.heap.size 3 1 (.slice (some ⟨gv, 0, none⟩) X.length cv) X.length (ints v5) ∧ W.ownsRow w.heap.size 69 4 (.slice Ax X.length cx) X.length (lrsC (X)) ∧ W.ownsRow w.heap.size 71 3 (.slice Ay Y.length cy) Y.length (ltsC (Y)) ∧ OwnLL W w.heap.size (.slice As N cs) us (YK X Y N) ∧ Below w.heap.size w W) ?_ ?_
        ·
         refine EC.seq (EC.region (EL.as rfl rfl (EL.nil (EX.seq (EC.block ?_)))));refine EC.loopD [4, 28, 29, 263, 264, 265, 266, 267, 268, 269, 270, 271, 272, 273, 274, 275, 276, 277, 278, 279, 280, 281, 282, 283, 284, 285, 286, 287, 288, 289, 290, 291, 292, 293, 294, 295, 296, 297, 298, 299, 300, 301, 302] (fun i : Nat => [(29, .int .i64 (i : Nat)), (28, .int .i64 (sumI (v5.take i)))]) (fun i W => i ≤ X.length ∧ Blk W gw 3 #[.int .i64 (way : Nat)] ∧ Blk W gn 3 #[.int .i64 (n5 : Nat)] ∧ Blk W g2 99 #[.slice Ap ps.length cp] ∧ W.ownsRow w.heap.size 3 1 (.slice (some ⟨gv, 0, none⟩) X.length cv) X.length (ints v5) ∧ W.ownsRow w.heap.size 69 4 (.slice Ax X.length cx) X.length (lrsC (X)) ∧ W.ownsRow w.heap.size 71 3 (.slice Ay Y.length cy) Y.length (ltsC (Y)) ∧ OwnLL W w.heap.size (.slice As N cs) us (YK X Y N) ∧ Below w.heap.size w W) (fun i => X.length - i) 0 ⟨Nat.zero_le _, qw, qn, q2, hv, hx, hy, hout, hbw⟩ ⟨rfl, rfl, trivial⟩ ?_
         clear qw qn q2 hv hx hy hout hbw
         rintro i wi ⟨hi, qw, qn, q2, hv, hx, hy, hout, hbw⟩
         by_cases hlti : i < X.length
         ·
          have hst := QF9 (l := v5) (k := i) (by omega)
          have hsb := QKl hX8 hvl5 hat5 (QHu hch hN30 (dd := dd) hltd) i;have hvi := hat5 i hlti;obtain ⟨⟨mi1, mi2⟩, mi3, mi4⟩ := QHu hch hN30 (dd := dd) hltd i hlti;have hlD := Zt X Y N;obtain ⟨bq, oq, eq_, _, cq⟩ := QBR (Rd.of_own (hlD ▸ hout.rd)) (k := dd) (by rw [hout.len, hlD]; exact hltd)
          have hrow := hout.row dd (by rw [hlD]; exact hltd)
          rw [YY hltd, Zc] at hrow;rw [er] at cq hrow;obtain ⟨bn, on, eb_, _, cn⟩ := YL _ i (by rw [Zc]; exact hlti) _ _ _ _ _ (Rd.of_own hrow)
          injection eb_ with eb_
          injection eb_ with eb1_ eb2_
          subst eb1_ eb2_;rw [show (volL X Y (dd + 1)).getD i bd0 = volD X Y i (dd + 1) from YC _ hlti] at cn;clear hrow;obtain ⟨bv, ov, ev_, _, kv⟩ := YO v5 i (by omega) _ _ _ _ _ (Rd.of_own hv)
          injection ev_ with ev_
          injection ev_ with ev1_ ev2_
          subst ev1_ ev2_;refine EC.seq (EC.seq (EC.region (EL.mv rfl rfl (EL.mv rfl rfl (EL.val (QAB rfl) rfl ?_)))));refine EL.val (ZO rfl rfl (decide_eq_true (show (((i : Nat) : Int) < ((X.length : Nat) : Int)) by omega))) rfl ?_
          refine EL.nil (EX.seq (EC.yes rfl (EC.skip (EX.seq (EC.seq (EC.block (EC.seq (EC.region (EL.mv rfl rfl ?_)))))))));refine EL.mv rfl rfl (EL.mv rfl rfl (EL.val (Y4 rfl rfl hlti) rfl (EL.val (ld_3 rfl kv) rfl ?_)));refine EL.val (x_add rfl rfl (c := sumI (v5.take (i + 1))) ((IntWalk.i64_in _ ⟨by first | omega | (simp only; omega), by first | omega | (simp only; omega)⟩).trans hst.symm)) rfl ?_
          refine EL.as rfl rfl (EL.nil (EX.seq (EC.seq ?_)));refine EC.regionQ (by kernel_rfl) (by kernel_rfl) ?_
          refine EQ.mv rfl rfl (EQ.mv rfl rfl ?_);refine EQ.val (fun _ hw => (Y4 rfl rfl hlti)) rfl ?_
          refine EQ.val (fun _ hw => (ld_3 rfl (ZC hw kv))) rfl ?_
          refine EQ.mv rfl rfl (EQ.mv rfl rfl ?_);refine EQ.val (fun _ hw => (QAu (by show some (Value.slice As _ _) = _; rw [eq_]) rfl hltd)) rfl ?_
          refine EQ.val (fun _ hw => (QAs rfl (ZC hw cq))) rfl ?_
          refine EQ.mv rfl rfl ?_;refine EQ.val (fun _ hw => (QAC rfl rfl hlti)) rfl ?_
          refine EQ.val (fun _ hw => (YE rfl)) rfl ?_
          refine EQ.val (fun _ hw => (ld_3 rfl (ZC hw cn.c0))) rfl ?_
          refine EQ.val (fun _ hw => (ZO (r := false) rfl rfl (decide_eq_false (by omega)))) rfl ?_
          refine EQ.mv rfl rfl (EQ.mg rfl rfl rfl rfl (EQ.mg rfl rfl rfl rfl ?_));refine EQ.valg rfl rfl (fun _ hw => (Y4 rfl rfl hlti)) rfl ?_
          refine EQ.valg rfl rfl (fun _ hw => (ld_3 rfl (ZC hw kv))) rfl ?_
          refine EQ.mg rfl rfl rfl rfl (EQ.mg rfl rfl rfl rfl ?_);refine EQ.valg rfl rfl (fun _ hw => (QAu (by show some (Value.slice As _ _) = _; rw [eq_]) rfl hltd)) rfl ?_
          refine EQ.valg rfl rfl (fun _ hw => (QAs rfl (ZC hw cq))) rfl ?_
          refine EQ.mg rfl rfl rfl rfl ?_;refine EQ.valg rfl rfl (fun _ hw => (QAC rfl rfl hlti)) rfl ?_
          refine EQ.valg rfl rfl (fun _ hw => (YP rfl)) rfl ?_
          refine EQ.valg rfl rfl (fun _ hw => (ld_3 rfl (ZC hw cn.c1))) rfl ?_
          refine EQ.valg rfl rfl (fun _ hw => (Zw (r := false) rfl rfl (decide_eq_false (by omega)))) rfl ?_
          refine EQ.val (fun _ hw => (Zz rfl rfl)) rfl ?_
          refine EQ.fin (fun w36 hw_ => ?_)
          replace qw := qw.bl hw_;replace qn := qn.bl hw_;replace q2 := q2.bl hw_;replace hx := ZB hx hw_ (Nat.le_refl _);replace hy := ZB hy hw_ (Nat.le_refl _);replace hout := hout.below hw_;replace hv := ZB hv hw_ (Nat.le_refl _);replace kv := ZC hw_ kv;replace cq := ZC hw_ cq;replace hbw := bo_ hbw hw_;clear hw_;refine EX.seq (EC.no rfl (EC.skip (EX.blk (EX.seq (EC.region (EL.mv rfl rfl ?_))))));refine EL.val (x_add rfl rfl (c := ((i + 1 : Nat) : Int)) ((IntWalk.i64_in _ ⟨by first | omega | (simp only; omega), by first | omega | (simp only; omega)⟩).trans (by first | omega | (simp only; omega)))) rfl ?_
          refine EL.as rfl rfl (EL.nil ?_);refine EX.roundD (i + 1) ⟨rfl, rfl, trivial⟩ (by repeat first | with_reducible exact .refl _ | refine sp_ rfl ?_ | exact .refl _ | refine sd_ rfl ?_ | refine sn_ ?_) ⟨hlti, qw, qn, q2, hv, hx, hy, hout, hbw⟩ (by omega)
         ·
          obtain rfl : i = X.length := by omega
          have htk : v5.take X.length = v5 := List.take_of_length_le (by omega)
          rw [htk];refine EC.seq (EC.seq (EC.region (EL.mv rfl rfl (EL.mv rfl rfl (EL.val (QAB rfl) rfl ?_)))));refine EL.val (ZO rfl rfl (decide_eq_false (show ¬(((X.length : Nat) : Int) < ((X.length : Nat) : Int)) by omega))) rfl ?_
          refine EL.nil (EX.seq (EC.no rfl (EC.exit (EX.seq_exit (EX.seq_exit (EX.blk_here ?_))))))
          exact EX.cutE () ⟨rfl, trivial⟩ (by repeat first | with_reducible exact (Sub.refl _).del _ | refine sp_ rfl ?_ | exact (Sub.refl _).del _ | refine sd_ rfl ?_ | refine sn_ ?_) ⟨qw, qn, q2, hv, hx, hy, hout, hbw⟩
        ·
         clear qw qn q2 hv hx hy hout hbw
         rintro ⟨⟩ w6 ⟨qw, qn, q2, hv, hx, hy, hout, hbw⟩
         refine EC.seq ?_;have hw3 : way = 0 ∨ way = 1 ∨ way = 2 := by omega
         rcases hw3 with rfl | rfl | rfl
         ·
          have h0X : 0 < X.length := by omega
          have hlD := Zt X Y N;obtain ⟨bq, oq, eq_, _, cq⟩ := QBR (Rd.of_own (hlD ▸ hout.rd)) (k := dd) (by rw [hout.len, hlD]; exact hltd)
          have hrow := hout.row dd (by rw [hlD]; exact hltd)
          rw [YY hltd, Zc] at hrow;rw [er] at cq hrow;obtain ⟨bn, on, eb_, _, cn⟩ := YL _ 0 (by rw [Zc]; exact h0X) _ _ _ _ _ (Rd.of_own hrow)
          injection eb_ with eb_
          injection eb_ with eb1_ eb2_
          subst eb1_ eb2_;rw [show (volL X Y (dd + 1)).getD 0 bd0 = volD X Y 0 (dd + 1) from YC _ h0X] at cn;clear hrow;obtain ⟨bv, ov, ev_, _, kv⟩ := YO v5 0 (by omega) _ _ _ _ _ (Rd.of_own hv)
          injection ev_ with ev_
          injection ev_ with ev1_ ev2_
          subst ev1_ ev2_;have hex := hin5.lo rfl (by rw [Zc]; exact h0X)
          rw [show (volL X Y (dd + 1)).getD 0 bd0 = volD X Y 0 (dd + 1) from YC _ h0X] at hex;refine EC.regionQ (by kernel_rfl) (by kernel_rfl) ?_
          refine EQ.mv rfl rfl (EQ.mv rfl rfl ?_);refine EQ.val (fun _ hw => (Zn (r := false) rfl rfl (decide_eq_false (fun h => h rfl)))) rfl ?_
          refine EQ.mv rfl rfl ?_;refine EQ.valg rfl rfl (fun _ hw => (ld_3 rfl (ZC hw (qw.at (j := 0) rfl)))) rfl ?_
          refine EQ.valg rfl rfl (fun _ hw => (Zx (r := true) rfl rfl (decide_eq_true (by omega)))) rfl ?_
          refine EQ.mg rfl rfl rfl rfl (EQ.mg rfl rfl rfl rfl ?_);refine EQ.valg rfl rfl (fun _ hw => (Y4 (k := 0) rfl rfl h0X)) rfl ?_
          refine EQ.valg rfl rfl (fun _ hw => (ld_3 rfl (ZC hw kv))) rfl ?_
          refine EQ.mg rfl rfl rfl rfl (EQ.mg rfl rfl rfl rfl ?_);refine EQ.valg rfl rfl (fun _ hw => (QAu (by show some (Value.slice As _ _) = _; rw [eq_]) rfl hltd)) rfl ?_
          refine EQ.valg rfl rfl (fun _ hw => (QAs rfl (ZC hw cq))) rfl ?_
          refine EQ.valg rfl rfl (fun _ hw => (QAC (k := 0) rfl rfl h0X)) rfl ?_
          refine EQ.valg rfl rfl (fun _ hw => (YE rfl)) rfl ?_
          refine EQ.valg rfl rfl (fun _ hw => (ld_3 rfl (ZC hw cn.c0))) rfl ?_
          refine EQ.valg rfl rfl (fun _ hw => (Zn (r := false) rfl rfl (decide_eq_false (fun h => h hex)))) rfl ?_
          refine EQ.valg rfl rfl (fun _ hw => (YH rfl rfl)) rfl ?_
          refine EQ.val (fun _ hw => (Zz rfl rfl)) rfl ?_
          refine EQ.mv rfl rfl ?_;refine EQ.valg rfl rfl (fun _ hw => (ld_3 rfl (ZC hw (qw.at (j := 0) rfl)))) rfl ?_
          refine EQ.valg rfl rfl (fun _ hw => (Zx (r := false) rfl rfl (decide_eq_false (by omega)))) rfl ?_
          refine EQ.mg rfl rfl rfl rfl (EQ.skip rfl rfl rfl rfl (EQ.skip rfl rfl rfl rfl (EQ.skip rfl rfl rfl rfl (EQ.skip rfl rfl rfl rfl (EQ.skip rfl rfl rfl rfl (EQ.skip rfl rfl rfl rfl (EQ.skip rfl rfl rfl rfl (EQ.skip rfl rfl rfl rfl (EQ.skip rfl rfl rfl rfl ?_)))))))));refine EQ.skip rfl rfl rfl rfl (EQ.skip rfl rfl rfl rfl ?_);refine EQ.valg rfl rfl (fun _ hw => (Zz rfl rfl)) rfl ?_
          refine EQ.val (fun _ hw => (Zz rfl rfl)) rfl ?_
          refine EQ.fin (fun w37 hw_ => ?_)
          replace qw := qw.bl hw_;replace qn := qn.bl hw_;replace q2 := q2.bl hw_;replace hx := ZB hx hw_ (Nat.le_refl _);replace hy := ZB hy hw_ (Nat.le_refl _);replace hout := hout.below hw_;replace hv := ZB hv hw_ (Nat.le_refl _);replace hbw := bo_ hbw hw_;clear hw_;refine EX.seq (EC.no rfl (EC.skip (EX.blk (EX.seq (EC.region (EL.mv rfl rfl ?_))))));refine EL.val (x_add rfl rfl (c := ((dd + 1 : Nat) : Int)) ((IntWalk.i64_in _ ⟨by first | omega | (simp only; omega), by first | omega | (simp only; omega)⟩).trans (by first | omega | (simp only; omega)))) rfl ?_
          refine EL.as rfl rfl (EL.nil ?_);refine EX.roundD (dd + 1, n5, v5) ⟨rfl, rfl, trivial⟩ (by repeat first | with_reducible exact .refl _ | refine sp_ rfl ?_ | exact .refl _ | refine sd_ rfl ?_ | refine sn_ ?_) ⟨hltd, hn5, hin5, qw, qn, q2, hv, hx, hy, hout, hbw⟩ (by simp only; omega)
         ·
          have h0X : 0 < X.length := by omega
          have hlD := Zt X Y N;obtain ⟨bq, oq, eq_, _, cq⟩ := QBR (Rd.of_own (hlD ▸ hout.rd)) (k := dd) (by rw [hout.len, hlD]; exact hltd)
          have hrow := hout.row dd (by rw [hlD]; exact hltd)
          rw [YY hltd, Zc] at hrow;rw [er] at cq hrow;obtain ⟨bn, on, eb_, _, cn⟩ := YL _ 0 (by rw [Zc]; exact h0X) _ _ _ _ _ (Rd.of_own hrow)
          injection eb_ with eb_
          injection eb_ with eb1_ eb2_
          subst eb1_ eb2_;rw [show (volL X Y (dd + 1)).getD 0 bd0 = volD X Y 0 (dd + 1) from YC _ h0X] at cn;clear hrow;obtain ⟨bv, ov, ev_, _, kv⟩ := YO v5 0 (by omega) _ _ _ _ _ (Rd.of_own hv)
          injection ev_ with ev_
          injection ev_ with ev1_ ev2_
          subst ev1_ ev2_;have hex := hin5.hi rfl (by rw [Zc]; exact h0X)
          rw [show (volL X Y (dd + 1)).getD 0 bd0 = volD X Y 0 (dd + 1) from YC _ h0X] at hex;refine EC.regionQ (by kernel_rfl) (by kernel_rfl) ?_
          refine EQ.mv rfl rfl (EQ.mv rfl rfl ?_);refine EQ.val (fun _ hw => (Zn (r := false) rfl rfl (decide_eq_false (fun h => h rfl)))) rfl ?_
          refine EQ.mv rfl rfl ?_;refine EQ.valg rfl rfl (fun _ hw => (ld_3 rfl (ZC hw (qw.at (j := 0) rfl)))) rfl ?_
          refine EQ.valg rfl rfl (fun _ hw => (Zx (r := false) rfl rfl (decide_eq_false (by omega)))) rfl ?_
          refine EQ.mg rfl rfl rfl rfl (EQ.skip rfl rfl rfl rfl (EQ.skip rfl rfl rfl rfl (EQ.skip rfl rfl rfl rfl (EQ.skip rfl rfl rfl rfl (EQ.skip rfl rfl rfl rfl (EQ.skip rfl rfl rfl rfl (EQ.skip rfl rfl rfl rfl (EQ.skip rfl rfl rfl rfl (EQ.skip rfl rfl rfl rfl ?_)))))))));refine EQ.skip rfl rfl rfl rfl (EQ.skip rfl rfl rfl rfl ?_);refine EQ.valg rfl rfl (fun _ hw => (Zz rfl rfl)) rfl ?_
          refine EQ.val (fun _ hw => (Zz rfl rfl)) rfl ?_
          refine EQ.mv rfl rfl ?_;refine EQ.valg rfl rfl (fun _ hw => (ld_3 rfl (ZC hw (qw.at (j := 0) rfl)))) rfl ?_
          refine EQ.valg rfl rfl (fun _ hw => (Zx (r := true) rfl rfl (decide_eq_true (by omega)))) rfl ?_
          refine EQ.mg rfl rfl rfl rfl (EQ.mg rfl rfl rfl rfl ?_);refine EQ.valg rfl rfl (fun _ hw => (Y4 (k := 0) rfl rfl h0X)) rfl ?_
          refine EQ.valg rfl rfl (fun _ hw => (ld_3 rfl (ZC hw kv))) rfl ?_
          refine EQ.mg rfl rfl rfl rfl (EQ.mg rfl rfl rfl rfl ?_);refine EQ.valg rfl rfl (fun _ hw => (QAu (by show some (Value.slice As _ _) = _; rw [eq_]) rfl hltd)) rfl ?_
          refine EQ.valg rfl rfl (fun _ hw => (QAs rfl (ZC hw cq))) rfl ?_
          refine EQ.valg rfl rfl (fun _ hw => (QAC (k := 0) rfl rfl h0X)) rfl ?_
          refine EQ.valg rfl rfl (fun _ hw => (YP rfl)) rfl ?_
          refine EQ.valg rfl rfl (fun _ hw => (ld_3 rfl (ZC hw cn.c1))) rfl ?_
          refine EQ.valg rfl rfl (fun _ hw => (Zn (r := false) rfl rfl (decide_eq_false (fun h => h hex)))) rfl ?_
          refine EQ.valg rfl rfl (fun _ hw => (YH rfl rfl)) rfl ?_
          refine EQ.val (fun _ hw => (Zz rfl rfl)) rfl ?_
          refine EQ.fin (fun w38 hw_ => ?_)
          replace qw := qw.bl hw_;replace qn := qn.bl hw_;replace q2 := q2.bl hw_;replace hx := ZB hx hw_ (Nat.le_refl _);replace hy := ZB hy hw_ (Nat.le_refl _);replace hout := hout.below hw_;replace hv := ZB hv hw_ (Nat.le_refl _);replace hbw := bo_ hbw hw_;clear hw_;refine EX.seq (EC.no rfl (EC.skip (EX.blk (EX.seq (EC.region (EL.mv rfl rfl ?_))))));refine EL.val (x_add rfl rfl (c := ((dd + 1 : Nat) : Int)) ((IntWalk.i64_in _ ⟨by first | omega | (simp only; omega), by first | omega | (simp only; omega)⟩).trans (by first | omega | (simp only; omega)))) rfl ?_
          refine EL.as rfl rfl (EL.nil ?_);refine EX.roundD (dd + 1, n5, v5) ⟨rfl, rfl, trivial⟩ (by repeat first | with_reducible exact .refl _ | refine sp_ rfl ?_ | exact .refl _ | refine sd_ rfl ?_ | refine sn_ ?_) ⟨hltd, hn5, hin5, qw, qn, q2, hv, hx, hy, hout, hbw⟩ (by simp only; omega)
         ·
          have h0X : 0 < X.length := by omega
          have hlD := Zt X Y N;obtain ⟨bq, oq, eq_, _, cq⟩ := QBR (Rd.of_own (hlD ▸ hout.rd)) (k := dd) (by rw [hout.len, hlD]; exact hltd)
          have hrow := hout.row dd (by rw [hlD]; exact hltd)
          rw [YY hltd, Zc] at hrow;rw [er] at cq hrow;obtain ⟨bn, on, eb_, _, cn⟩ := YL _ 0 (by rw [Zc]; exact h0X) _ _ _ _ _ (Rd.of_own hrow)
          injection eb_ with eb_
          injection eb_ with eb1_ eb2_
          subst eb1_ eb2_;rw [show (volL X Y (dd + 1)).getD 0 bd0 = volD X Y 0 (dd + 1) from YC _ h0X] at cn;clear hrow;obtain ⟨bv, ov, ev_, _, kv⟩ := YO v5 0 (by omega) _ _ _ _ _ (Rd.of_own hv)
          injection ev_ with ev_
          injection ev_ with ev1_ ev2_
          subst ev1_ ev2_;have hex := hin5.len;refine EC.regionQ (by kernel_rfl) (by kernel_rfl) ?_
          refine EQ.mv rfl rfl (EQ.mv rfl rfl ?_);refine EQ.val (fun _ hw => (Zn (r := false) rfl rfl (decide_eq_false (fun h => h rfl)))) rfl ?_
          refine EQ.mv rfl rfl ?_;refine EQ.valg rfl rfl (fun _ hw => (ld_3 rfl (ZC hw (qw.at (j := 0) rfl)))) rfl ?_
          refine EQ.valg rfl rfl (fun _ hw => (Zx (r := false) rfl rfl (decide_eq_false (by omega)))) rfl ?_
          refine EQ.mg rfl rfl rfl rfl (EQ.skip rfl rfl rfl rfl (EQ.skip rfl rfl rfl rfl (EQ.skip rfl rfl rfl rfl (EQ.skip rfl rfl rfl rfl (EQ.skip rfl rfl rfl rfl (EQ.skip rfl rfl rfl rfl (EQ.skip rfl rfl rfl rfl (EQ.skip rfl rfl rfl rfl (EQ.skip rfl rfl rfl rfl ?_)))))))));refine EQ.skip rfl rfl rfl rfl (EQ.skip rfl rfl rfl rfl ?_);refine EQ.valg rfl rfl (fun _ hw => (Zz rfl rfl)) rfl ?_
          refine EQ.val (fun _ hw => (Zz rfl rfl)) rfl ?_
          refine EQ.mv rfl rfl ?_;refine EQ.valg rfl rfl (fun _ hw => (ld_3 rfl (ZC hw (qw.at (j := 0) rfl)))) rfl ?_
          refine EQ.valg rfl rfl (fun _ hw => (Zx (r := false) rfl rfl (decide_eq_false (by omega)))) rfl ?_
          refine EQ.mg rfl rfl rfl rfl (EQ.skip rfl rfl rfl rfl (EQ.skip rfl rfl rfl rfl (EQ.skip rfl rfl rfl rfl (EQ.skip rfl rfl rfl rfl (EQ.skip rfl rfl rfl rfl (EQ.skip rfl rfl rfl rfl (EQ.skip rfl rfl rfl rfl (EQ.skip rfl rfl rfl rfl (EQ.skip rfl rfl rfl rfl ?_)))))))));refine EQ.skip rfl rfl rfl rfl (EQ.skip rfl rfl rfl rfl ?_);refine EQ.valg rfl rfl (fun _ hw => (Zz rfl rfl)) rfl ?_
          refine EQ.val (fun _ hw => (Zz rfl rfl)) rfl ?_
          refine EQ.fin (fun w39 hw_ => ?_)
          replace qw := qw.bl hw_;replace qn := qn.bl hw_;replace q2 := q2.bl hw_;replace hx := ZB hx hw_ (Nat.le_refl _);replace hy := ZB hy hw_ (Nat.le_refl _);replace hout := hout.below hw_;replace hv := ZB hv hw_ (Nat.le_refl _);replace hbw := bo_ hbw hw_;clear hw_;refine EX.seq (EC.no rfl (EC.skip (EX.blk (EX.seq (EC.region (EL.mv rfl rfl ?_))))));refine EL.val (x_add rfl rfl (c := ((dd + 1 : Nat) : Int)) ((IntWalk.i64_in _ ⟨by first | omega | (simp only; omega), by first | omega | (simp only; omega)⟩).trans (by first | omega | (simp only; omega)))) rfl ?_
          refine EL.as rfl rfl (EL.nil ?_);refine EX.roundD (dd + 1, n5, v5) ⟨rfl, rfl, trivial⟩ (by repeat first | with_reducible exact .refl _ | refine sp_ rfl ?_ | exact .refl _ | refine sd_ rfl ?_ | refine sn_ ?_) ⟨hltd, hn5, hin5, qw, qn, q2, hv, hx, hy, hout, hbw⟩ (by simp only; omega)
     ·
      obtain rfl : N = dd := by omega
      refine EC.seq (EC.seq (EC.region (EL.mv rfl rfl (EL.mv rfl rfl ?_))));refine EL.val (ZO rfl rfl (decide_eq_false (show ¬(((N : Nat) : Int) < ((N : Nat) : Int)) by omega))) rfl ?_
      refine EL.nil (EX.seq (EC.no rfl (EC.exit (EX.seq_exit (EX.seq_exit (EX.blk_here (EX.blk (EX.seq (EC.seq ?_)))))))));refine EC.seq (EC.region (EL.val (ld_3 rfl (qw.at (j := 0) rfl)) rfl (EL.nil (EX.seq (EC.region (EL.newP al_3 rfl ?_))))));intro g40 w40 q40 hb40 hg40 hl40;have n2000_40 := qw.na hg40;have n2001_40 := qn.na hg40;have n2_40 := q2.na hg40;have bhbw_40 := Nat.le_trans hbw.size hg40;have hbg40 : w.heap.size ≤ g40 := Nat.le_trans hbw.size hg40;replace qw := qw.bl hb40;replace qn := qn.bl hb40;replace q2 := q2.bl hb40;replace hx := ZB hx hb40 (Nat.le_refl _);replace hy := ZB hy hb40 (Nat.le_refl _);replace hout := hout.below hb40;replace hbw := bo_ hbw hb40;clear hb40 hg40 hl40;refine EL.store rfl rfl q40 sz_3 rfl rfl rfl rfl ?_;intro w41 hq41 hg41;replace qw := qw.gr hg41 n2000_40;replace qn := qn.gr hg41 n2001_40;replace q2 := q2.gr hg41 n2_40;replace hx := ZG hx q40 rfl hg41;replace hy := ZG hy q40 rfl hg41;replace hout := hout.box q40 rfl rfl hg41;replace hbw := ZE hbw hg41 bhbw_40;replace q40 := hq41;clear hg41 hq41;refine EL.nil (EX.seq (EC.region (EL.val (ld_3 rfl (q40.at (j := 0) rfl)) rfl ?_)));refine EL.val (x_add rfl rfl (by first | assumption | exact IntWalk.i64_in _ ⟨by omega, by omega⟩)) rfl ?_
      refine EL.store rfl rfl q40 sz_3 rfl rfl rfl rfl ?_;intro w42 hq42 hg42;replace qw := qw.gr hg42 n2000_40;replace qn := qn.gr hg42 n2001_40;replace q2 := q2.gr hg42 n2_40;replace hx := ZG hx q40 rfl hg42;replace hy := ZG hy q40 rfl hg42;replace hout := hout.box q40 rfl rfl hg42;replace hbw := ZE hbw hg42 bhbw_40;replace q40 := hq42;clear hg42 hq42;refine EL.nil ?_;refine EX.roundD (way + 1, g40) ⟨rfl, trivial⟩ (by repeat first | with_reducible exact .refl _ | refine sp_ rfl ?_ | exact .refl _ | refine sd_ rfl ?_ | refine sn_ ?_) ⟨by simp only; omega, n2_40, hbg40, q40, q2, hx, hy, hout, hbw⟩ (by simp only; omega)
   ·
    obtain rfl : way = 3 := by omega
    have n2000_2 : gw ≠ g2 := hgp.symm;refine EC.seq (EC.seq (EC.region (EL.val (ld_3 rfl (qw.at (j := 0) rfl)) rfl ?_)));refine EL.val (ZO (r := false) rfl rfl (decide_eq_false (by decide))) rfl ?_
    refine EL.nil (EX.seq (EC.no rfl (EC.exit (EX.seq_exit (EX.seq_exit (EX.blk_here (EX.seq (EC.seq (EC.seq ?_)))))))));refine EC.region (EL.as rfl rfl (EL.nil (EX.seq (EC.block ?_))));refine EC.loopD [4, 30, 31, 341, 342, 343, 344, 345, 346, 347, 348, 349, 350, 351, 352, 353, 354, 355, 356, 357, 358, 359, 360, 361, 362, 363, 364, 365, 366, 367, 368, 369, 370, 371, 372, 373, 374, 375, 376, 377, 378, 379, 380, 381, 382, 383, 384, 385, 386, 387, 388, 389, 390, 391, 392, 393, 394, 395] (fun dd : Nat => [(30, .int .i64 (dd : Nat))]) (fun dd W => dd ≤ N ∧ Yj X Y dd 0 ∧ W.ownsRow w.heap.size 69 4 (.slice Ax X.length cx) X.length (lrsC (X)) ∧ W.ownsRow w.heap.size 71 3 (.slice Ay Y.length cy) Y.length (ltsC (Y)) ∧ OwnLL W w.heap.size (.slice As N cs) us (YK X Y N) ∧ Below w.heap.size w W) (fun dd => N - dd) 0 ⟨Nat.zero_le _, QGQ X Y, hx, hy, hout, hbw⟩ ⟨rfl, trivial⟩ ?_
    clear hx hy hout hbw
    rintro dd wd ⟨hdd, hno, hx, hy, hout, hbw⟩
    by_cases hltd : dd < N
    ·
     refine EC.seq (EC.seq (EC.region (EL.mv rfl rfl (EL.mv rfl rfl ?_))));refine EL.val (ZO rfl rfl (decide_eq_true (show (((dd : Nat) : Int) < ((N : Nat) : Int)) by omega))) rfl ?_
     refine EL.nil (EX.seq (EC.yes rfl (EC.skip (EX.seq (EC.seq (EC.block (EC.seq (EC.region (EL.as rfl rfl ?_)))))))));refine EL.nil (EX.seq (EC.block ?_));refine EC.loopD [4, 31, 346, 347, 348, 349, 350, 351, 352, 353, 354, 355, 356, 357, 358, 359, 360, 361, 362, 363, 364, 365, 366, 367, 368, 369, 370, 371, 372, 373, 374, 375, 376, 377, 378, 379, 380, 381, 382, 383, 384, 385, 386, 387, 388, 389, 390, 391, 392, 393, 394, 395] (fun i : Nat => [(31, .int .i64 (i : Nat))]) (fun i W => i ≤ X.length ∧ Yj X Y dd i ∧ W.ownsRow w.heap.size 69 4 (.slice Ax X.length cx) X.length (lrsC (X)) ∧ W.ownsRow w.heap.size 71 3 (.slice Ay Y.length cy) Y.length (ltsC (Y)) ∧ OwnLL W w.heap.size (.slice As N cs) us (YK X Y N) ∧ Below w.heap.size w W) (fun i => X.length - i) 0 ⟨Nat.zero_le _, hno, hx, hy, hout, hbw⟩ ⟨rfl, trivial⟩ ?_
     clear hno hx hy hout hbw
     rintro i wi ⟨hi, hno, hx, hy, hout, hbw⟩
     by_cases hlti : i < X.length
     ·
      have hlD := Zt X Y N;obtain ⟨bq, oq, eq_, _, cq⟩ := QBR (Rd.of_own (hlD ▸ hout.rd)) (k := dd) (by rw [hout.len, hlD]; exact hltd)
      have hrow := hout.row dd (by rw [hlD]; exact hltd)
      rw [YY hltd, Zc] at hrow;obtain ⟨gr, cr_, er⟩ := Z6 hrow (by omega)
      rw [er] at cq hrow;obtain ⟨bn, on, eb_, _, cn⟩ := YL _ i (by rw [Zc]; exact hlti) _ _ _ _ _ (Rd.of_own hrow)
      injection eb_ with eb_
      injection eb_ with eb1_ eb2_
      subst eb1_ eb2_;rw [show (volL X Y (dd + 1)).getD i bd0 = volD X Y i (dd + 1) from YC _ hlti] at cn;clear hrow;obtain ⟨b, o, eA_, _, cc⟩ := Yp X i hlti _ _ _ _ _ (Rd.of_own hx);have kl := cc.c1;have k0 := cn.c0;have k1 := cn.c1;clear cc cn;refine EC.seq (EC.seq (EC.region (EL.mv rfl rfl (EL.mv rfl rfl (EL.val (QAB rfl) rfl ?_)))));refine EL.val (ZO rfl rfl (decide_eq_true (show (((i : Nat) : Int) < ((X.length : Nat) : Int)) by omega))) rfl ?_
      refine EL.nil (EX.seq (EC.yes rfl (EC.skip (EX.seq (EC.seq (EC.block (EC.seq ?_)))))))
      by_cases hsh : (volD X Y i (dd + 1)).lo < (X.getD i lr0).least
      ·
       obtain ⟨rfl, rfl, rfl⟩ := QEq hsi (.inl ⟨dd, i, hltd, hlti, hno, decide_eq_true hsh, rfl, rfl, rfl⟩);refine EC.regionQ (by kernel_rfl) (by kernel_rfl) ?_
       refine EQ.mv rfl rfl (EQ.mv rfl rfl ?_);refine EQ.val (fun _ hw => (QAu (by show some (Value.slice As _ _) = _; rw [eq_]) rfl hltd)) rfl ?_
       refine EQ.val (fun _ hw => (QAs rfl (ZC hw cq))) rfl ?_
       refine EQ.mv rfl rfl ?_;refine EQ.val (fun _ hw => (QAC rfl rfl hlti)) rfl ?_
       refine EQ.val (fun _ hw => (YE rfl)) rfl ?_
       refine EQ.val (fun _ hw => (ld_3 rfl (ZC hw k0))) rfl ?_
       refine EQ.mv rfl rfl (EQ.mv rfl rfl ?_);refine EQ.val (fun _ hw => (QB3 (by show some (Value.slice Ax _ _) = _; rw [eA_]) rfl hlti)) rfl ?_
       refine EQ.val (fun _ hw => (QCk rfl)) rfl ?_
       refine EQ.val (fun _ hw => (ld_3 rfl (ZC hw kl))) rfl ?_
       refine EQ.val (fun _ hw => (ZO (r := true) rfl rfl (decide_eq_true hsh))) rfl ?_
       refine EQ.fin (fun w43 hw_ => ?_)
       replace hx := ZB hx hw_ (Nat.le_refl _);replace hy := ZB hy hw_ (Nat.le_refl _);replace hout := hout.below hw_;replace kl := ZC hw_ kl;replace k0 := ZC hw_ k0;replace k1 := ZC hw_ k1;replace cq := ZC hw_ cq;replace hbw := bo_ hbw hw_;clear hw_;refine EX.seq (EC.yes rfl (EC.seq ?_));refine EC.regionQ (by kernel_rfl) (by kernel_rfl) ?_
       refine EQ.mv rfl rfl (EQ.mv rfl rfl ?_);refine EQ.val (fun _ hw => (x_add rfl rfl (c := ((dd + 1 : Nat) : Int)) ((IntWalk.i64_in _ ⟨by first | omega | (simp only; omega), by first | omega | (simp only; omega)⟩).trans (by first | omega | (simp only; omega))))) rfl ?_
       refine EQ.val (fun _ hw => (Zx (r := true) rfl rfl (decide_eq_true rfl))) rfl ?_
       refine EQ.mv rfl rfl (EQ.mg rfl rfl rfl rfl (EQ.mg rfl rfl rfl rfl ?_));refine EQ.valg rfl rfl (fun _ hw => (Zx (r := true) rfl rfl (decide_eq_true rfl))) rfl ?_
       refine EQ.val (fun _ hw => (YH rfl rfl)) rfl ?_
       refine EQ.mv rfl rfl (EQ.mg rfl rfl rfl rfl (EQ.mg rfl rfl rfl rfl (EQ.mg rfl rfl rfl rfl ?_)));refine EQ.valg rfl rfl (fun _ hw => (QAu (by show some (Value.slice As _ _) = _; rw [eq_]) rfl hltd)) rfl ?_
       refine EQ.valg rfl rfl (fun _ hw => (QAs rfl (ZC hw cq))) rfl ?_
       refine EQ.mg rfl rfl rfl rfl ?_;refine EQ.valg rfl rfl (fun _ hw => (QAC rfl rfl hlti)) rfl ?_
       refine EQ.valg rfl rfl (fun _ hw => (YP rfl)) rfl ?_
       refine EQ.valg rfl rfl (fun _ hw => (ld_3 rfl (ZC hw k1))) rfl ?_
       refine EQ.mg rfl rfl rfl rfl (EQ.mg rfl rfl rfl rfl ?_);refine EQ.valg rfl rfl (fun _ hw => (QB3 (by show some (Value.slice Ax _ _) = _; rw [eA_]) rfl hlti)) rfl ?_
       refine EQ.valg rfl rfl (fun _ hw => (QCk rfl)) rfl ?_
       refine EQ.valg rfl rfl (fun _ hw => (ld_3 rfl (ZC hw kl))) rfl ?_
       refine EQ.valg rfl rfl (fun _ hw => (ZO (r := decide ((volD X Y i (dd + 1)).hi < (X.getD i lr0).least)) rfl rfl rfl)) rfl ?_
       refine EQ.valg rfl rfl (fun _ hw => (Y1 (r := true) rfl rfl (decide_eq_true rfl))) rfl ?_
       refine EQ.val (fun _ hw => (YH rfl rfl)) rfl ?_
       refine EQ.mv rfl rfl ?_;refine EQ.callg rfl rfl (fun _ _ _ ha => (cA0 cF12) _ ha) rfl (fun W hw => (QC5 _).mono fun e w' h => ⟨h.1, hw.trans (h.2.mono hw.size)⟩) ?_
       refine EQ.val (fun _ hw => (YH rfl rfl)) rfl ?_
       refine EQ.val (fun _ hw => (ZZ rfl)) rfl ?_
       refine EQ.fin (fun w44 hw_ => ?_)
       replace hx := ZB hx hw_ (Nat.le_refl _);replace hy := ZB hy hw_ (Nat.le_refl _);replace hout := hout.below hw_;replace kl := ZC hw_ kl;replace k0 := ZC hw_ k0;replace k1 := ZC hw_ k1;replace cq := ZC hw_ cq;replace hbw := bo_ hbw hw_;clear hw_;refine EX.seq (EC.ret (EX.blk_ret (EX.seq_ret (EX.seq_ret (EX.blk_ret (EX.blk_ret (EX.seq_ret (EX.seq_ret (EX.blk_ret ?_)))))))));refine EX.seq_ret ?_
       exact EX.done (res1 rfl rfl) ⟨rfl, hbw⟩
      ·
       refine EC.regionQ (by kernel_rfl) (by kernel_rfl) ?_
       refine EQ.mv rfl rfl (EQ.mv rfl rfl ?_);refine EQ.val (fun _ hw => (QAu (by show some (Value.slice As _ _) = _; rw [eq_]) rfl hltd)) rfl ?_
       refine EQ.val (fun _ hw => (QAs rfl (ZC hw cq))) rfl ?_
       refine EQ.mv rfl rfl ?_;refine EQ.val (fun _ hw => (QAC rfl rfl hlti)) rfl ?_
       refine EQ.val (fun _ hw => (YE rfl)) rfl ?_
       refine EQ.val (fun _ hw => (ld_3 rfl (ZC hw k0))) rfl ?_
       refine EQ.mv rfl rfl (EQ.mv rfl rfl ?_);refine EQ.val (fun _ hw => (QB3 (by show some (Value.slice Ax _ _) = _; rw [eA_]) rfl hlti)) rfl ?_
       refine EQ.val (fun _ hw => (QCk rfl)) rfl ?_
       refine EQ.val (fun _ hw => (ld_3 rfl (ZC hw kl))) rfl ?_
       refine EQ.val (fun _ hw => (ZO (r := false) rfl rfl (decide_eq_false hsh))) rfl ?_
       refine EQ.fin (fun w45 hw_ => ?_)
       replace hx := ZB hx hw_ (Nat.le_refl _);replace hy := ZB hy hw_ (Nat.le_refl _);replace hout := hout.below hw_;replace kl := ZC hw_ kl;replace k0 := ZC hw_ k0;replace k1 := ZC hw_ k1;replace cq := ZC hw_ cq;replace hbw := bo_ hbw hw_;clear hw_;refine EX.seq (EC.no rfl (EC.skip (EX.blk (EX.seq (EC.region (EL.mv rfl rfl ?_))))));refine EL.val (x_add rfl rfl (c := ((i + 1 : Nat) : Int)) ((IntWalk.i64_in _ ⟨by first | omega | (simp only; omega), by first | omega | (simp only; omega)⟩).trans (by first | omega | (simp only; omega)))) rfl ?_
       refine EL.as rfl rfl (EL.nil ?_);refine EX.roundD (i + 1) ⟨rfl, trivial⟩ (by repeat first | with_reducible exact .refl _ | refine sp_ rfl ?_ | exact .refl _ | refine sd_ rfl ?_ | refine sn_ ?_) ⟨hlti, QHl hno (decide_eq_false hsh), hx, hy, hout, hbw⟩ (by omega)
     ·
      obtain rfl : i = X.length := by omega
      refine EC.seq (EC.seq (EC.region (EL.mv rfl rfl (EL.mv rfl rfl (EL.val (QAB rfl) rfl ?_)))));refine EL.val (ZO rfl rfl (decide_eq_false (show ¬(((X.length : Nat) : Int) < ((X.length : Nat) : Int)) by omega))) rfl ?_
      refine EL.nil (EX.seq (EC.no rfl (EC.exit (EX.seq_exit (EX.seq_exit (EX.blk_here (EX.blk (EX.seq (EC.region ?_)))))))));refine EL.mv rfl rfl ?_;refine EL.val (x_add rfl rfl (c := ((dd + 1 : Nat) : Int)) ((IntWalk.i64_in _ ⟨by first | omega | (simp only; omega), by first | omega | (simp only; omega)⟩).trans (by first | omega | (simp only; omega)))) rfl ?_
      refine EL.as rfl rfl (EL.nil ?_);refine EX.roundD (dd + 1) ⟨rfl, trivial⟩ (by repeat first | with_reducible exact .refl _ | refine sp_ rfl ?_ | exact .refl _ | refine sd_ rfl ?_ | refine sn_ ?_) ⟨hltd, QJf hno, hx, hy, hout, hbw⟩ (by omega)
    ·
     obtain rfl : N = dd := by omega
     obtain ⟨rfl, rfl, rfl⟩ := QEq hsi (.inr ⟨hno, rfl, rfl, rfl⟩);refine EC.seq (EC.seq (EC.region (EL.mv rfl rfl (EL.mv rfl rfl ?_))));refine EL.val (ZO rfl rfl (decide_eq_false (show ¬(((N : Nat) : Int) < ((N : Nat) : Int)) by omega))) rfl ?_
     refine EL.nil (EX.seq (EC.no rfl (EC.exit (EX.seq_exit (EX.seq_exit (EX.blk_here (EX.seq (EC.seq (EC.region ?_)))))))));refine EL.mv rfl rfl (EL.val (Zx (r := true) rfl rfl (decide_eq_true rfl)) rfl (EL.mv rfl rfl (EL.mg rfl rfl rfl rfl (EL.valg rfl rfl (Zx (r := true) rfl rfl (decide_eq_true rfl)) rfl (EL.pt rfl rfl rfl (EL.mv rfl rfl (EL.mg rfl rfl rfl rfl (EL.valg rfl rfl (ZX rfl) rfl (EL.pt rfl rfl rfl ?_)))))))));refine EL.mv rfl rfl (EL.callg rfl rfl (cA0 cF12) rfl (QC5 _) ?_)
     rintro e w46 ⟨rfl, hc46⟩
     refine ⟨_, rfl, ?_⟩;replace hx := ZB hx hc46 (Nat.le_refl _);replace hy := ZB hy hc46 (Nat.le_refl _);replace hout := hout.below hc46;replace hbw := bo_ hbw hc46;clear hc46;refine EL.pt rfl rfl rfl (EL.as rfl rfl (EL.nil (EX.seq (EC.ret ?_))))
     exact EX.done (res1 rfl rfl) ⟨rfl, hbw⟩
end Go.Proofs.Ytlbfnimilcnihaa
