/- X23, ExX24, X24, ExX25, WsLift, ExX26, X26, X27, ExX28, X28: what WashAuditsProof needs of them (merged by trimpack.py). -/
import Derived.Test.YtdkedhcbdbpccaaAuditsT5
set_option linter.unusedVariables false
set_option linter.unusedSimpArgs false
namespace Go.Proofs.Ytdkedhcbdbpccaa
open Go Go.RowKit
set_option maxHeartbeats 1000000 in
theorem three_any (w : World) :
  Calls Try.prog 47 #[] w fun e w' => (∃ vl va vp vk ua up, e = .returned (rulesV vl va vp vk three) ∧ RdRules w' w'.heap.size vl va vp vk three ua up) ∧ Below w.heap.size w w' := by
 have hbw := Below.refl w.heap.size w;refine EC.enter 17 Try.func47 rfl rfl rfl (EC.seq (EC.region (EL.newP al_28 rfl ?_)));intro g1 w1 q1 hb1 hg1 hl1;have bhbw_1 := Nat.le_trans hbw.size hg1;replace hbw := bo_ hbw hb1;clear hb1 hg1 hl1;refine EL.nil (EX.seq (EC.seq (EC.region (EL.newS (bs_22_3 rfl rfl rfl) rfl ?_))));intro g2 w2 q2 hb2 hg2 hl2;have n1_2 := q1.na hg2;have bhbw_2 := Nat.le_trans hbw.size hg2;replace q1 := q1.bl hb2;replace hbw := bo_ hbw hb2;clear hb2 hg2 hl2;refine EL.val (bd_24_0_1 rfl rfl) rfl (EL.newS (bs_22_3 rfl rfl rfl) rfl ?_);intro g3 w3 q3 hb3 hg3 hl3;have n1_3 := q1.na hg3;have n2_3 := q2.na hg3;have bhbw_3 := Nat.le_trans hbw.size hg3;replace q1 := q1.bl hb3;replace q2 := q2.bl hb3;replace hbw := bo_ hbw hb3;clear hb3 hg3 hl3;refine EL.newS (bs_22_3 rfl rfl rfl) rfl ?_;intro g4 w4 q4 hb4 hg4 hl4;have n1_4 := q1.na hg4;have n2_4 := q2.na hg4;have n3_4 := q3.na hg4;have bhbw_4 := Nat.le_trans hbw.size hg4;replace q1 := q1.bl hb4;replace q2 := q2.bl hb4;replace q3 := q3.bl hb4;replace hbw := bo_ hbw hb4;clear hb4 hg4 hl4;refine EL.newS (bs_22_3 rfl rfl rfl) rfl ?_;intro g5 w5 q5 hb5 hg5 hl5;have n1_5 := q1.na hg5;have n2_5 := q2.na hg5;have n3_5 := q3.na hg5;have n4_5 := q4.na hg5;have bhbw_5 := Nat.le_trans hbw.size hg5;replace q1 := q1.bl hb5;replace q2 := q2.bl hb5;replace q3 := q3.bl hb5;replace q4 := q4.bl hb5;replace hbw := bo_ hbw hb5;clear hb5 hg5 hl5;refine EL.newS (bs_25_3 rfl rfl rfl) rfl ?_;intro g6 w6 q6 hb6 hg6 hl6;have n1_6 := q1.na hg6;have n2_6 := q2.na hg6;have n3_6 := q3.na hg6;have n4_6 := q4.na hg6;have n5_6 := q5.na hg6;have bhbw_6 := Nat.le_trans hbw.size hg6;replace q1 := q1.bl hb6;replace q2 := q2.bl hb6;replace q3 := q3.bl hb6;replace q4 := q4.bl hb6;replace q5 := q5.bl hb6;replace hbw := bo_ hbw hb6;clear hb6 hg6 hl6;refine EL.newS (bs_22_3 rfl rfl rfl) rfl ?_;intro g7 w7 q7 hb7 hg7 hl7;have n1_7 := q1.na hg7;have n2_7 := q2.na hg7;have n3_7 := q3.na hg7;have n4_7 := q4.na hg7;have n5_7 := q5.na hg7;have n6_7 := q6.na hg7;have bhbw_7 := Nat.le_trans hbw.size hg7;replace q1 := q1.bl hb7;replace q2 := q2.bl hb7;replace q3 := q3.bl hb7;replace q4 := q4.bl hb7;replace q5 := q5.bl hb7;replace q6 := q6.bl hb7;replace hbw := bo_ hbw hb7;clear hb7 hg7 hl7;refine EL.newS (bs_22_3 rfl rfl rfl) rfl ?_;intro g8 w8 q8 hb8 hg8 hl8;have n1_8 := q1.na hg8;have n2_8 := q2.na hg8;have n3_8 := q3.na hg8;have n4_8 := q4.na hg8;have n5_8 := q5.na hg8;have n6_8 := q6.na hg8;have n7_8 := q7.na hg8;have bhbw_8 := Nat.le_trans hbw.size hg8;replace q1 := q1.bl hb8;replace q2 := q2.bl hb8;replace q3 := q3.bl hb8;replace q4 := q4.bl hb8;replace q5 := q5.bl hb8;replace q6 := q6.bl hb8;replace q7 := q7.bl hb8;replace hbw := bo_ hbw hb8;clear hb8 hg8 hl8;refine EL.newS (bs_22_3 rfl rfl rfl) rfl ?_;intro g9 w9 q9 hb9 hg9 hl9;have n1_9 := q1.na hg9;have n2_9 := q2.na hg9;have n3_9 := q3.na hg9;have n4_9 := q4.na hg9;have n5_9 := q5.na hg9;have n6_9 := q6.na hg9;have n7_9 := q7.na hg9;have n8_9 := q8.na hg9;have bhbw_9 := Nat.le_trans hbw.size hg9;replace q1 := q1.bl hb9;replace q2 := q2.bl hb9;replace q3 := q3.bl hb9;replace q4 := q4.bl hb9;replace q5 := q5.bl hb9;replace q6 := q6.bl hb9;replace q7 := q7.bl hb9;replace q8 := q8.bl hb9;replace hbw := bo_ hbw hb9;clear hb9 hg9 hl9;refine EL.newS (bs_25_3 rfl rfl rfl) rfl ?_;intro g10 w10 q10 hb10 hg10 hl10;have n1_10 := q1.na hg10;have n2_10 := q2.na hg10;have n3_10 := q3.na hg10;have n4_10 := q4.na hg10;have n5_10 := q5.na hg10;have n6_10 := q6.na hg10;have n7_10 := q7.na hg10;have n8_10 := q8.na hg10;have n9_10 := q9.na hg10;have bhbw_10 := Nat.le_trans hbw.size hg10;replace q1 := q1.bl hb10;replace q2 := q2.bl hb10;replace q3 := q3.bl hb10;replace q4 := q4.bl hb10;replace q5 := q5.bl hb10;replace q6 := q6.bl hb10;replace q7 := q7.bl hb10;replace q8 := q8.bl hb10;replace q9 := q9.bl hb10;replace hbw := bo_ hbw hb10;clear hb10 hg10 hl10;refine EL.val (bd_24_0_1 rfl rfl) rfl (EL.val (bd_52_0_1_2_3 rfl rfl rfl rfl) rfl (EL.val (bd_24_0_1 rfl rfl) rfl (EL.val (bd_52_0_1_2_3 rfl rfl rfl rfl) rfl (EL.newS (bs_26_2 rfl rfl) rfl ?_))));intro g11 w11 q11 hb11 hg11 hl11;have n1_11 := q1.na hg11;have n2_11 := q2.na hg11;have n3_11 := q3.na hg11;have n4_11 := q4.na hg11;have n5_11 := q5.na hg11;have n6_11 := q6.na hg11;have n7_11 := q7.na hg11;have n8_11 := q8.na hg11;have n9_11 := q9.na hg11;have n10_11 := q10.na hg11;have bhbw_11 := Nat.le_trans hbw.size hg11;replace q1 := q1.bl hb11;replace q2 := q2.bl hb11;replace q3 := q3.bl hb11;replace q4 := q4.bl hb11;replace q5 := q5.bl hb11;replace q6 := q6.bl hb11;replace q7 := q7.bl hb11;replace q8 := q8.bl hb11;replace q9 := q9.bl hb11;replace q10 := q10.bl hb11;replace hbw := bo_ hbw hb11;clear hb11 hg11 hl11;refine EL.val (bd_28_0_1_2_3_4 rfl rfl rfl rfl rfl) rfl (EL.store rfl rfl q1 sz_28 rfl rfl rfl rfl ?_);intro w12 hq12 hg12;replace q2 := q2.gr hg12 n1_2.symm;replace q3 := q3.gr hg12 n1_3.symm;replace q4 := q4.gr hg12 n1_4.symm;replace q5 := q5.gr hg12 n1_5.symm;replace q6 := q6.gr hg12 n1_6.symm;replace q7 := q7.gr hg12 n1_7.symm;replace q8 := q8.gr hg12 n1_8.symm;replace q9 := q9.gr hg12 n1_9.symm;replace q10 := q10.gr hg12 n1_10.symm;replace q11 := q11.gr hg12 n1_11.symm;replace hbw := below_store hbw hg12 bhbw_1;replace q1 := hq12;clear hg12 hq12;refine EL.nil (EX.seq (EC.ret ?_));have hL1 : RdLL iC 1 w12 w12.heap.size (.slice (some ⟨g6, 0, none⟩) 3 3) three.allow [.slice (some ⟨g3, 0, none⟩) 3 3, .slice (some ⟨g4, 0, none⟩) 3 3, .slice (some ⟨g5, 0, none⟩) 3 3] := ⟨rfl, rd_blk (k := 3) (l := [.slice (some ⟨g3, 0, none⟩) 3 3, .slice (some ⟨g4, 0, none⟩) 3 3, .slice (some ⟨g5, 0, none⟩) 3 3]) q6 rfl, fun i hi => by (have hi : i < 3 := hi); exact (match i, hi with | 0, _ => rd_blk (k := 3) (l := [.int .i64 100, .int .i64 0, .int .i64 30]) q3 rfl | 1, _ => rd_blk (k := 3) (l := [.int .i64 60, .int .i64 60, .int .i64 0]) q4 rfl | 2, _ => rd_blk (k := 3) (l := [.int .i64 40, .int .i64 40, .int .i64 40]) q5 rfl)⟩
 have hL2 : RdLL iC 1 w12 w12.heap.size (.slice (some ⟨g10, 0, none⟩) 3 3) three.apart [.slice (some ⟨g7, 0, none⟩) 3 3, .slice (some ⟨g8, 0, none⟩) 3 3, .slice (some ⟨g9, 0, none⟩) 3 3] := ⟨rfl, rd_blk (k := 3) (l := [.slice (some ⟨g7, 0, none⟩) 3 3, .slice (some ⟨g8, 0, none⟩) 3 3, .slice (some ⟨g9, 0, none⟩) 3 3]) q10 rfl, fun i hi => by (have hi : i < 3 := hi); exact (match i, hi with | 0, _ => rd_blk (k := 3) (l := [.int .i64 0, .int .i64 1, .int .i64 0]) q7 rfl | 1, _ => rd_blk (k := 3) (l := [.int .i64 0, .int .i64 0, .int .i64 0]) q8 rfl | 2, _ => rd_blk (k := 3) (l := [.int .i64 0, .int .i64 0, .int .i64 0]) q9 rfl)⟩
 exact EX.done (resc1 rfl rfl (lv_28 (q1.at (j := 0) rfl) (q1.at (j := 1) rfl) (q1.at (j := 2) rfl) (q1.at (j := 3) rfl) (q1.at (j := 4) rfl) (q1.at (j := 5) rfl))) ⟨⟨_, _, _, _, _, _, rfl, ⟨rd_blk (k := 3) (l := [.int .i64 100, .int .i64 60, .int .i64 40]) q2 rfl, hL1, hL2, rd_blk (k := 2) (l := [.int .i64 30, .int .i64 40, .int .i64 60, .int .i64 5, .int .i64 20000, .int .i64 100, .int .i64 120, .int .i64 240, .int .i64 20, .int .i64 90000]) q11 rfl⟩⟩, hbw⟩
theorem atF_zero {ru : Rules} {tanks : List (List Ev)} {jobs : List Int} (h : codeF ru tanks jobs = 0) : atF ru tanks jobs = 0 := by
 unfold codeF at h
 unfold atF
 split
 ·rename_i he
  rw [if_pos he] at h
  split
  ·rename_i hd
   rw [if_pos hd] at h
   cases h
  ·rfl
 ·rfl
theorem kRes {ua up : List Value} {vl va vp vk : Value} {w : World} {B : Nat} (hr : RdRules w B vl va vp vk three ua up) (hB : B ≤ w.heap.size) {v : Value} (hl : Rd w B 2 v (lK.take 3).length (evsC (lK.take 3))) : Calls Try.prog 33 #[rulesV vl va vp vk three, v] w fun e w' => (∃ u, e = .returned (.tuple #[u, .int .i64 0]) ∧ w'.ownsRow w.heap.size 24 2 u 3 (bdsC [⟨40, 60⟩, ⟨0, 0⟩, ⟨40, 40⟩])) ∧ Below w.heap.size w w' := by
 have h := Residues_any hr hB three_short hl (by decide)
 rw [three_ref3, three_res] at h
 exact h
theorem kAud {ua up : List Value} {vl va vp vk : Value} {w : World} {B : Nat} (hr : RdRules w B vl va vp vk three ua up) (hB : B ≤ w.heap.size) {v : Value} (hl : Rd w B 2 v lK.length (evsC lK)) : Calls Try.prog 13 #[rulesV vl va vp vk three, v] w fun e w' => (∃ u, e = .returned (.tuple #[u, .int .i64 0]) ∧ w'.ownsRow w.heap.size 46 3 u 1 (brsC [⟨2, 0, true⟩])) ∧ Below w.heap.size w w' := by
 have h := Audit_any hr hB three_short hl (by decide)
 rw [three_ref, three_aud] at h
 exact h
theorem kSlop {ua up : List Value} {vl va vp vk : Value} {w : World} {B : Nat} (hr : RdRules w B vl va vp vk three ua up) (hB : B ≤ w.heap.size) {v : Value} (hl : Rd w B 2 v lK.length (evsC lK)) : Calls Try.prog 16 #[rulesV vl va vp vk three, v] w fun e w' => (∃ u us, e = .returned (.tuple #[u, .int .i64 0]) ∧ OwnLL w' w.heap.size w'.heap.size u (slopE three lK) us) ∧ Below w.heap.size w w' := by
 have h := Slops_any hr hB three_short hl (by decide)
 rw [three_ref] at h
 exact h
theorem kBill {ua up : List Value} {vl va vp vk : Value} {w : World} {B : Nat} (hr : RdRules w B vl va vp vk three ua up) (hB : B ≤ w.heap.size) {v : Value} (hl : Rd w B 2 v lK.length (evsC lK)) : Calls Try.prog 17 #[rulesV vl va vp vk three, v] w fun e w' => e = .returned (.tuple #[.int .i64 300, .int .i64 25, .int .i64 110000, .int .i64 0]) ∧ Below w.heap.size w w' := by
 have h := Bill_any hr hB three_short hl (by decide)
 rw [three_bill] at h
 exact h
theorem kPlan {ua up : List Value} {vl va vp vk : Value} {w : World} {B : Nat} (hr : RdRules w B vl va vp vk three ua up) (hB : B ≤ w.heap.size) {v : Value} (hl : Rd w B 2 v (lK.take 1).length (evsC (lK.take 1))) {vj : Value} (hv : Rd w B 1 vj ([2, 1] : List Int).length (ints [2, 1])) : Calls Try.prog 24 #[rulesV vl va vp vk three, v, vj] w fun e w' => (∃ u, e = .returned (.tuple #[u, .int .i64 90000, .int .i64 0, .int .i64 0]) ∧ w'.ownsRow w.heap.size 3 1 u 2 (ints [1, -1])) ∧ Below w.heap.size w w' := by
 refine (Plan_any hr hB three_short hl (by decide) hv (by decide)).mono fun e w' h => ?_
 obtain ⟨⟨u, ws, c, rfl, ho, h1, _⟩, hb⟩ := h;obtain ⟨p, hp, rfl, rfl⟩ := h1 three_code;obtain rfl := hp.one three_plan
 exact ⟨⟨u, by rw [three_code, at_zero three_code]; rfl, ho⟩, hb⟩
theorem kPlan1 {ua up : List Value} {vl va vp vk : Value} {w : World} {B : Nat} (hr : RdRules w B vl va vp vk three ua up) (hB : B ≤ w.heap.size) {v : Value} (hl : Rd w B 2 v (lK.take 1).length (evsC (lK.take 1))) {vj : Value} (hv : Rd w B 1 vj ([1] : List Int).length (ints [1])) : Calls Try.prog 24 #[rulesV vl va vp vk three, v, vj] w fun e w' => (∃ u, e = .returned (.tuple #[u, .int .i64 0, .int .i64 0, .int .i64 7]) ∧ w'.ownsRow w.heap.size 3 1 u 0 []) ∧ Below w.heap.size w w' := by
 refine (Plan_any hr hB three_short hl (by decide) hv (by decide)).mono fun e w' h => ?_
 obtain ⟨⟨u, ws, c, rfl, ho, _, h1⟩, hb⟩ := h;obtain ⟨rfl, rfl⟩ := h1 (by rw [three_code1]; decide)
 exact ⟨⟨u, by rw [three_code1, three_at1]; rfl, ho⟩, hb⟩
theorem kFleet {ua up : List Value} {vl va vp vk : Value} {w : World} {B : Nat} (hr : RdRules w B vl va vp vk three ua up) (hB : B ≤ w.heap.size) {vt : Value} {ut : List Value} (ht : RdLL evC 2 w B vt tK ut) {vj : Value} (hv : Rd w B 1 vj ([2, 1] : List Int).length (ints [2, 1])) : Calls Try.prog 38 #[rulesV vl va vp vk three, vt, vj] w fun e w' => (∃ u, e = .returned (.tuple #[u, .int .i64 90000, .int .i64 0, .int .i64 0]) ∧ w'.ownsRow w.heap.size 70 2 u 2 (stsC [⟨0, 1⟩, ⟨0, -1⟩])) ∧ Below w.heap.size w w' := by
 refine (Fleet_any hr hB three_short ht (fun i hi => by (have hi : i < 2 := hi); exact (match i, hi with | 0, _ => by decide | 1, _ => by decide)) (by decide) hv (by decide)).mono fun e w' h => ?_
 obtain ⟨⟨u, st, c, rfl, ho, h1, _⟩, hb⟩ := h;obtain ⟨p, hp, rfl, rfl⟩ := h1 three_codeF;obtain rfl := hp.one three_fleet
 exact ⟨⟨u, by rw [three_codeF, atF_zero three_codeF]; rfl, ho⟩, hb⟩
end Go.Proofs.Ytdkedhcbdbpccaa
namespace Go.Proofs.Ytdkedhcbdbpccaa
open Go Go.RowKit
section
variable {n : Nat} {σ : Sg} {w : World} {dst : Option Tmp} {ty : TypeId} {pos : String} {af : Array Edge} {g : Option (Nat × Bool)} {x y z : Operand} {at' : Array TypeId}
theorem eql_24 {a0 a1 b0 b1 : Int} {r : Bool} (hx : evS σ x = some (.agg #[.int .i64 a0, .int .i64 a1])) (hy : evS σ y = some (.agg #[.int .i64 b0, .int .i64 b1])) (hc : decide (a0 = b0 ∧ a1 = b1) = r) : Gives Try.prog n σ w ⟨dst, .binOp .eql 24 x y 24, ty, pos, af, g⟩ (.bool r) := fun a ha => by
 subst hc
 simp only [execOp, ha.eval hx, ha.eval hy]
 go_simp
 repeat' split
 all_goals simp_all
theorem ix_32 {b o m c k : Nat} (hx : evS σ x = some (.slice (some ⟨b, o, none⟩) m c)) (hy : evS σ y = some (.int .i64 (k : Int))) (hk : k < m) : Gives Try.prog n σ w ⟨dst, .indexAddr 32 x y, ty, pos, af, g⟩ (.pointer (some ⟨b, o + k * 3, none⟩)) := fun a ha => by
 have k0 : (0 : Int) ≤ (k : Int) := Int.natCast_nonneg _;have k1 : (k : Int) < (m : Int) := by omega
 simp only [execOp, ha.eval hx, ha.eval hy]
 simp [go_sem, k0, k1]
theorem eql_70 {a0 a1 b0 b1 : Int} {r : Bool} (hx : evS σ x = some (.agg #[.int .i64 a0, .int .i64 a1])) (hy : evS σ y = some (.agg #[.int .i64 b0, .int .i64 b1])) (hc : decide (a0 = b0 ∧ a1 = b1) = r) : Gives Try.prog n σ w ⟨dst, .binOp .eql 70 x y 70, ty, pos, af, g⟩ (.bool r) := fun a ha => by
 subst hc
 simp only [execOp, ha.eval hx, ha.eval hy]
 go_simp
 repeat' split
 all_goals simp_all
theorem cl_46 {x0 : Operand} {v0 : Value} (h0 : evS σ x0 = some v0) (a : Act) (ha : Env n σ a) : (execOp a.eval ⟨dst, .call { callee := .value (.func 46), args := #[x0], argTypes := at' }, ty, pos, af, g⟩).run Try.prog w = .ok (.enter 46 #[v0]) w := by
 simp only [execOp, resolve, List.map_toArray, List.map_cons, List.map_nil, ha.eval h0]
 simp [go_sem, Act.eval]
theorem cl_45 {x0 : Operand} {v0 : Value} (h0 : evS σ x0 = some v0) (a : Act) (ha : Env n σ a) : (execOp a.eval ⟨dst, .call { callee := .value (.func 45), args := #[x0], argTypes := at' }, ty, pos, af, g⟩).run Try.prog w = .ok (.enter 45 #[v0]) w := by
 simp only [execOp, resolve, List.map_toArray, List.map_cons, List.map_nil, ha.eval h0]
 simp [go_sem, Act.eval]
theorem bs_29_4 {x0 x1 x2 x3 : Operand} {v0_0 v0_1 v1_0 v1_1 v2_0 v2_1 v3_0 v3_1 : Value} (h0 : evS σ x0 = some (.agg #[v0_0, v0_1])) (h1 : evS σ x1 = some (.agg #[v1_0, v1_1])) (h2 : evS σ x2 = some (.agg #[v2_0, v2_1])) (h3 : evS σ x3 = some (.agg #[v3_0, v3_1]))  (a : Act) (ha : Env n σ a) : (execOp a.eval ⟨dst, .buildSlice 29 4 #[(0, x0), (1, x1), (2, x2), (3, x3)], ty, pos, af, g⟩).run Try.prog w = .ok (.value (.slice (some ⟨w.heap.size, 0, none⟩) 4 4)) (w.alloc (.cells #[v0_0, v0_1, v1_0, v1_1, v2_0, v2_1, v3_0, v3_1] 50)) := by
 simp only [execOp, List.map_toArray, List.map_cons, List.map_nil, ha.eval h0, ha.eval h1, ha.eval h2, ha.eval h3]
 go_simp
theorem slh_29 {b o m c hi : Nat} (hx : evS σ x = some (.slice (some ⟨b, o, none⟩) m c)) (hh : evS σ y = some (.int .i64 (hi : Int))) (h2 : hi ≤ c) : Gives Try.prog n σ w ⟨dst, .slice 29 x none (some y) none, ty, pos, af, g⟩ (.slice (some ⟨b, o, none⟩) hi c) := fun a ha => by
 have k1 : (0 : Int) ≤ (hi : Int) := Int.natCast_nonneg _;have k3 : (hi : Int) ≤ (c : Int) := by omega
 simp only [execOp, Option.map_some, Option.map_none, ha.eval hx, ha.eval hh]
 by_cases e : c = 0
 ·subst e; obtain rfl : hi = 0 := by omega
  simp [go_sem]
 ·simp [go_sem, k1, k3, h2, e]
theorem cl_47  (a : Act) (_ : Env n σ a) : (execOp a.eval ⟨dst, .call { callee := .value (.func 47), args := #[], argTypes := at' }, ty, pos, af, g⟩).run Try.prog w = .ok (.enter 47 #[]) w := by
 simp only [execOp, resolve, List.map_toArray, List.map_nil]
 simp [go_sem, Act.eval]
theorem cl_33 {x0 x1 : Operand} {v0 v1 : Value} (h0 : evS σ x0 = some v0) (h1 : evS σ x1 = some v1) (a : Act) (ha : Env n σ a) : (execOp a.eval ⟨dst, .call { callee := .value (.func 33), args := #[x0, x1], argTypes := at' }, ty, pos, af, g⟩).run Try.prog w = .ok (.enter 33 #[v0, v1]) w := by
 simp only [execOp, resolve, List.map_toArray, List.map_cons, List.map_nil, ha.eval h0, ha.eval h1]
 simp [go_sem, Act.eval]
theorem cl_13 {x0 x1 : Operand} {v0 v1 : Value} (h0 : evS σ x0 = some v0) (h1 : evS σ x1 = some v1) (a : Act) (ha : Env n σ a) : (execOp a.eval ⟨dst, .call { callee := .value (.func 13), args := #[x0, x1], argTypes := at' }, ty, pos, af, g⟩).run Try.prog w = .ok (.enter 13 #[v0, v1]) w := by
 simp only [execOp, resolve, List.map_toArray, List.map_cons, List.map_nil, ha.eval h0, ha.eval h1]
 simp [go_sem, Act.eval]
theorem cl_16 {x0 x1 : Operand} {v0 v1 : Value} (h0 : evS σ x0 = some v0) (h1 : evS σ x1 = some v1) (a : Act) (ha : Env n σ a) : (execOp a.eval ⟨dst, .call { callee := .value (.func 16), args := #[x0, x1], argTypes := at' }, ty, pos, af, g⟩).run Try.prog w = .ok (.enter 16 #[v0, v1]) w := by
 simp only [execOp, resolve, List.map_toArray, List.map_cons, List.map_nil, ha.eval h0, ha.eval h1]
 simp [go_sem, Act.eval]
theorem cl_17 {x0 x1 : Operand} {v0 v1 : Value} (h0 : evS σ x0 = some v0) (h1 : evS σ x1 = some v1) (a : Act) (ha : Env n σ a) : (execOp a.eval ⟨dst, .call { callee := .value (.func 17), args := #[x0, x1], argTypes := at' }, ty, pos, af, g⟩).run Try.prog w = .ok (.enter 17 #[v0, v1]) w := by
 simp only [execOp, resolve, List.map_toArray, List.map_cons, List.map_nil, ha.eval h0, ha.eval h1]
 simp [go_sem, Act.eval]
theorem cl_24 {x0 x1 x2 : Operand} {v0 v1 v2 : Value} (h0 : evS σ x0 = some v0) (h1 : evS σ x1 = some v1) (h2 : evS σ x2 = some v2) (a : Act) (ha : Env n σ a) : (execOp a.eval ⟨dst, .call { callee := .value (.func 24), args := #[x0, x1, x2], argTypes := at' }, ty, pos, af, g⟩).run Try.prog w = .ok (.enter 24 #[v0, v1, v2]) w := by
 simp only [execOp, resolve, List.map_toArray, List.map_cons, List.map_nil, ha.eval h0, ha.eval h1, ha.eval h2]
 simp [go_sem, Act.eval]
theorem bs_29_1 {x0 : Operand} {v0_0 v0_1 : Value} (h0 : evS σ x0 = some (.agg #[v0_0, v0_1]))  (a : Act) (ha : Env n σ a) : (execOp a.eval ⟨dst, .buildSlice 29 1 #[(0, x0)], ty, pos, af, g⟩).run Try.prog w = .ok (.value (.slice (some ⟨w.heap.size, 0, none⟩) 1 1)) (w.alloc (.cells #[v0_0, v0_1] 50)) := by
 simp only [execOp, List.map_toArray, List.map_cons, List.map_nil, ha.eval h0]
 go_simp
theorem bs_96_2 {x0 x1 : Operand} {A0 A1 : Option Addr} {m0 c0 m1 c1 : Nat} (h0 : evS σ x0 = some (.slice A0 m0 c0)) (h1 : evS σ x1 = some (.slice A1 m1 c1)) (a : Act) (ha : Env n σ a) : (execOp a.eval ⟨dst, .buildSlice 96 2 #[(0, x0), (1, x1)], ty, pos, af, g⟩).run Try.prog w = .ok (.value (.slice (some ⟨w.heap.size, 0, none⟩) 2 2)) (w.alloc (.cells #[.slice A0 m0 c0, .slice A1 m1 c1] 29)) := by
 simp only [execOp, List.map_toArray, List.map_cons, List.map_nil, ha.eval h0, ha.eval h1]
 go_simp
theorem cl_38 {x0 x1 x2 : Operand} {v0 v1 v2 : Value} (h0 : evS σ x0 = some v0) (h1 : evS σ x1 = some v1) (h2 : evS σ x2 = some v2) (a : Act) (ha : Env n σ a) : (execOp a.eval ⟨dst, .call { callee := .value (.func 38), args := #[x0, x1, x2], argTypes := at' }, ty, pos, af, g⟩).run Try.prog w = .ok (.enter 38 #[v0, v1, v2]) w := by
 simp only [execOp, resolve, List.map_toArray, List.map_cons, List.map_nil, ha.eval h0, ha.eval h1, ha.eval h2]
 simp [go_sem, Act.eval]
theorem ln_32 {A : Option Addr} {m c : Nat} (hx : evS σ x = some (.slice A m c)) : Gives Try.prog n σ w ⟨dst, .call { callee := .builtin .len, args := #[x], argTypes := #[32] }, ty, pos, af, g⟩ (.int .i64 (m : Int)) := fun a ha => by
 simp only [execOp, resolve, List.map_toArray, List.map_cons, List.map_nil, ha.eval hx]
 simp [go_sem]
theorem ld_46 {b o : Nat} {v0 v1 v2 : Value} (hx : evS σ x = some (.pointer (some ⟨b, o, none⟩))) (c0 : w.cell? ⟨b, o, none⟩ = some v0) (c1 : w.cell? ⟨b, o + 1, none⟩ = some v1) (c2 : w.cell? ⟨b, o + 2, none⟩ = some v2) : Gives Try.prog n σ w ⟨dst, .load 46 x, ty, pos, af, g⟩ (.agg #[v0, v1, v2]) := fun a ha => by
 simp only [execOp, ha.eval hx]
 simp [go_sem, c0, c1, c2]
theorem bd_46_0_2 {x0 x1 : Operand} {z0 : Int} {b1 : Bool} (h0 : evS σ x0 = some (.int .i64 z0)) (h1 : evS σ x1 = some (.bool b1)) : Gives Try.prog n σ w ⟨dst, .build 46 #[(0, x0), (2, x1)], ty, pos, af, g⟩ (.agg #[.int .i64 z0, .int .i64 0, .bool b1]) := fun a ha => by
 simp only [execOp, List.map_toArray, List.map_cons, List.map_nil, ha.eval h0, ha.eval h1]
 go_simp
theorem bd_70_1 {x0 : Operand} {z0 : Int} (h0 : evS σ x0 = some (.int .i64 z0)) : Gives Try.prog n σ w ⟨dst, .build 70 #[(1, x0)], ty, pos, af, g⟩ (.agg #[.int .i64 0, .int .i64 z0]) := fun a ha => by
 simp only [execOp, List.map_toArray, List.map_cons, List.map_nil, ha.eval h0]
 go_simp
end
end Go.Proofs.Ytdkedhcbdbpccaa
namespace Go.Proofs.Ytdkedhcbdbpccaa
open Go Go.RowKit
theorem mono_th {k : Nat} : Mono fun r w => ∃ vl va vp vk ua up, r k = rulesV vl va vp vk three ∧ RdRules w w.heap.size vl va vp vk three ua up := fun _ _ _ hb ⟨vl, va, vp, vk, ua, up, h1, h2⟩ => ⟨vl, va, vp, vk, ua, up, h1, (h2.below hb).more hb.size⟩
theorem rd_pre {w : World} {B n c m : Nat} {A : Option Addr} {l : List Ev} (h : Rd w B 2 (.slice A n c) n (evsC l)) (hm : m ≤ n) : Rd w B 2 (.slice A m c) (l.take m).length (evsC (l.take m)) := by
 have hl : l.length = n := by have := h.len; rw [evsC_len] at this; omega
 have hlm : (l.take m).length = m := by rw [List.length_take]; omega
 rw [hlm];obtain ⟨hl0, A', c', h8, hc, hrd⟩ := h
 injection h8 with h8 _ h9
 subst h8 h9;refine ⟨by rw [evsC_len, hlm], A, c, rfl, by omega, fun h0 => ?_⟩
 obtain ⟨b, off, e, hb, hcell⟩ := hrd (by omega)
 refine ⟨b, off, e, hb, fun j u hj => hcell j u ?_⟩
 have e2 : evsC l = evsC (l.take m) ++ evsC (l.drop m) := by
  unfold evsC
  rw [← List.flatMap_append, List.take_append_drop]
 rw [e2, List.getElem?_append_left (List.getElem?_eq_some_iff.1 hj).1]
 exact hj
theorem brs_cells (l : List Br) (k : Nat) (hk : k < l.length) (w : World) (B : Nat) (A : Option Addr) (n c : Nat) (hr : Rd w B 3 (.slice A n c) n (brsC l)) :
  ∃ b off, A = some ⟨b, off, none⟩ ∧ b < B ∧ w.cell? ⟨b, off + k * 3, none⟩ = some (.int .i64 ((l.getD k ⟨0, 0, false⟩).event : Nat)) ∧ w.cell? ⟨b, off + k * 3 + 1, none⟩ = some (.int .i64 ((l.getD k ⟨0, 0, false⟩).cargo : Nat)) ∧ w.cell? ⟨b, off + k * 3 + 2, none⟩ = some (.bool (l.getD k ⟨0, 0, false⟩).sure) := by
 have hl : n * 3 = l.length * 3 := by rw [← hr.len]; exact flat_len brC_len l
 obtain ⟨b, off, rfl, hb, hc⟩ := hr.at_ (by omega)
 have e : l.getD k ⟨0, 0, false⟩ = l[k] := by simp [hk]
 rw [e];have g := fun j hj => flat_get brC_len l k hk j hj
 exact ⟨b, off, rfl, hb, hc (k * 3) _ (g 0 (by omega)), hc (k * 3 + 1) _ (g 1 (by omega)), hc (k * 3 + 2) _ (g 2 (by omega))⟩
theorem x_eqBr {n : Nat} {σ : Sg} {w : World} {dst : Option Tmp} {ty : TypeId} {pos : String} {af : Array Edge} {g : Option (Nat × Bool)} {x y : Operand} {a0 a1 b0 b1 : Int} {a2 b2 r : Bool} (hx : evS σ x = some (.agg #[.int .i64 a0, .int .i64 a1, .bool a2])) (hy : evS σ y = some (.agg #[.int .i64 b0, .int .i64 b1, .bool b2])) (hc : decide (a0 = b0 ∧ a1 = b1 ∧ a2 = b2) = r) : Gives Try.prog n σ w ⟨dst, .binOp .eql 46 x y 46, ty, pos, af, g⟩ (.bool r) := fun a ha => by
 subst hc
 simp only [execOp, ha.eval hx, ha.eval hy]
 go_simp
 repeat' split
 all_goals simp_all
set_option maxHeartbeats 4000000 in
theorem known_any (w : World) : Calls Try.prog 12 #[] w fun e w' => e = .returned (.bool true) ∧ Below w.heap.size w w' := by
 have hbw := Below.refl w.heap.size w;refine EC.enter 213 Try.func12 rfl rfl rfl (EC.seq (EC.region (EL.as rfl rfl (EL.nil (EX.seq (EC.seq (EC.region (EL.call (cl_46 rfl) rfl (lload_any _ _) ?_))))))))
 rintro e w1 ⟨rfl, hc1⟩
 refine ⟨_, rfl, ?_⟩;replace hbw := bo_ hbw hc1;clear hc1;refine EL.call (cl_45 rfl) rfl (lclean_any _ _) ?_
 rintro e w2 ⟨rfl, hc2⟩
 refine ⟨_, rfl, ?_⟩;replace hbw := bo_ hbw hc2;clear hc2;refine EL.call (cl_46 rfl) rfl (lload_any _ _) ?_
 rintro e w3 ⟨rfl, hc3⟩
 refine ⟨_, rfl, ?_⟩;replace hbw := bo_ hbw hc3;clear hc3;refine EL.call (cl_45 rfl) rfl (lclean_any _ _) ?_
 rintro e w4 ⟨rfl, hc4⟩
 refine ⟨_, rfl, ?_⟩;replace hbw := bo_ hbw hc4;clear hc4;refine EL.newS (bs_29_4 rfl rfl rfl rfl) rfl ?_;intro g5 w5 q5 hb5 hg5 hl5;have bhbw_5 := Nat.le_trans hbw.size hg5;replace hbw := bo_ hbw hb5;clear hb5 hg5 hl5;have hE : Rd w5 w5.heap.size 2 (.slice (some ⟨g5, 0, none⟩) 4 4) lK.length (evsC lK) := rd_blk (k := 4) (l := [.int .i64 1, .int .i64 0, .int .i64 2, .int .i64 0, .int .i64 1, .int .i64 2, .int .i64 2, .int .i64 1]) q5 rfl;refine EL.as rfl rfl (EL.nil (EX.seq (EC.seq ?_)));refine EC.regionP [[], [], [1], [0, 1, 2], [0, 1, 2, 3], [0, 1, 2, 3, 4], [0, 1, 2, 3, 4], [0, 1, 2, 3, 4, 5], [0, 1, 2, 3, 4, 5, 6, 7]] 8 [] (phi (fun i_ r => match i_ with | 1 => r 1 = .slice (some ⟨g5, 0, none⟩) 4 4 | 2 => r 2 = .slice (some ⟨g5, 0, none⟩) 3 4 | 6 => r 6 = .int .i64 0 | _ => True) [(0, fun r w_ => ∃ vl va vp vk ua up, r 0 = rulesV vl va vp vk three ∧ RdRules w_ w_.heap.size vl va vp vk three ua up), (3, fun r w_ => ∃ A c, r 3 = .tuple #[.slice A 3 c, .int .i64 0] ∧ w_.ownsRow w.heap.size 24 2 (.slice A 3 c) 3 (bdsC [⟨40, 60⟩, ⟨0, 0⟩, ⟨40, 40⟩])), (4, fun r w_ => ∃ A c, r 4 = .tuple #[.slice A 3 c, .int .i64 0] ∧ w_.ownsRow w.heap.size 24 2 (.slice A 3 c) 3 (bdsC [⟨40, 60⟩, ⟨0, 0⟩, ⟨40, 40⟩])), (5, fun r w_ => ∃ A c, r 5 = .slice A 3 c ∧ w_.ownsRow w.heap.size 24 2 (.slice A 3 c) 3 (bdsC [⟨40, 60⟩, ⟨0, 0⟩, ⟨40, 40⟩])), (7, fun r w_ => ∃ A c, r 7 = .slice A 3 c ∧ w_.ownsRow w.heap.size 24 2 (.slice A 3 c) 3 (bdsC [⟨40, 60⟩, ⟨0, 0⟩, ⟨40, 40⟩]))]) (by kernel_rfl) rfl rfl (phi_cons mono_th (phi_cons (mono_cp (f := fun A c => .tuple #[.slice A 3 c, .int .i64 0])) (phi_cons (mono_cp (f := fun A c => .tuple #[.slice A 3 c, .int .i64 0])) (phi_cons (mono_cp (f := fun A c => .slice A 3 c)) (phi_cons (mono_cp (f := fun A c => .slice A 3 c)) (phi_nil)))))) (fun i_ hi_ => ?_) ?_
 ·match i_, hi_ with
  | 0, _ =>
   intro val w1 a hb ha hd;have ha := ha.sub (Sub.nil _);refine hs_call ha rfl rfl cl_47 (three_any _) rfl ?_
   rintro e w' ⟨⟨vl, va, vp, vk, ua, up, rfl, hR⟩, hb'⟩
   exact ⟨_, rfl, hb', ⟨vl, va, vp, vk, ua, up, rfl, hR⟩⟩
  | 1, _ =>
   intro val w1 a hb ha hd;have ha := ha.s0 (d := 1) rfl
   exact hs_val ha rfl rfl (x_move rfl) rfl rfl
  | 2, _ =>
   intro val w1 a hb ha hd;have e1 : val 1 = .slice (some ⟨g5, 0, none⟩) 4 4 := hd 1 (memB_mem.1 rfl);have ha := ha.s1 (d := 31) rfl e1
   exact hs_val ha rfl rfl (slh_29 (hi := 3) rfl rfl (by decide)) rfl rfl
  | 3, _ =>
   intro val w1 a hb ha hd;obtain ⟨vl0_, va0_, vp0_, vk0_, ua0_, up0_, e0, hR0_⟩ := hd 0 (memB_mem.1 rfl);have e2 : val 2 = .slice (some ⟨g5, 0, none⟩) 3 4 := hd 2 (memB_mem.1 rfl);have ha := ha.sub (Sub.ins (d := 32) (Sub.ins (d := 30) (Sub.nil _) (dep_get rfl e0)) (dep_get rfl e2));refine hs_call ha rfl rfl (cl_33 rfl rfl) (kRes hR0_ (Nat.le_refl _) (rd_pre (m := 3) ((hE.below hb).more hb.size) (by decide))) rfl ?_
   rintro e w' ⟨⟨u, rfl, ho⟩, hb'⟩
   obtain ⟨A, c9, rfl, _⟩ := (Rd.of_own ho).shape
   exact ⟨_, rfl, hb', ⟨A, c9, rfl, own_less ho (Nat.le_trans hbw.size hb.size)⟩⟩
  | 4, _ =>
   intro val w1 a hb ha hd;obtain ⟨A2_3, c2_3, e3, ho2_3⟩ := hd 3 (memB_mem.1 rfl);have ha := ha.s1 (d := 33) rfl e3
   exact hs_val ha rfl rfl (x_move rfl) ⟨A2_3, c2_3, rfl, ho2_3⟩ rfl
  | 5, _ =>
   intro val w1 a hb ha hd;obtain ⟨A2_4, c2_4, e4, ho2_4⟩ := hd 4 (memB_mem.1 rfl);have ha := ha.s1 (d := 29) rfl e4
   exact hs_val ha rfl rfl (x_extract rfl rfl) ⟨A2_4, c2_4, rfl, ho2_4⟩ rfl
  | 6, _ =>
   intro val w1 a hb ha hd;obtain ⟨A2_4, c2_4, e4, ho2_4⟩ := hd 4 (memB_mem.1 rfl);have ha := ha.s1 (d := 29) rfl e4
   exact hs_val ha rfl rfl (x_extract rfl rfl) rfl rfl
  | 7, _ =>
   intro val w1 a hb ha hd;obtain ⟨A2_5, c2_5, e5, ho2_5⟩ := hd 5 (memB_mem.1 rfl);have ha := ha.s1 (d := 34) rfl e5
   exact hs_val ha rfl rfl (x_assign rfl) ⟨A2_5, c2_5, rfl, ho2_5⟩ rfl
  | k + 8, h => exact absurd h (by omega)
 ·intro val wR2 hb halc hd
  obtain ⟨vl0_, va0_, vp0_, vk0_, ua0_, up0_, e0, hR0_⟩ := hd 0 (by omega)
  have e1 : val 1 = .slice (some ⟨g5, 0, none⟩) 4 4 := hd 1 (by omega)
  have e2 : val 2 = .slice (some ⟨g5, 0, none⟩) 3 4 := hd 2 (by omega)
  obtain ⟨A2_3, c2_3, e3, ho2_3⟩ := hd 3 (by omega)
  obtain ⟨A2_4, c2_4, e4, ho2_4⟩ := hd 4 (by omega)
  obtain ⟨A2_5, c2_5, e5, ho2_5⟩ := hd 5 (by omega)
  have e6 : val 6 = .int .i64 0 := hd 6 (by omega)
  obtain ⟨A2_7, c2_7, e7, ho2_7⟩ := hd 7 (by omega)
  refine EL.ends (cs := [rulesV vl0_ va0_ vp0_ vk0_ three, .slice (some ⟨g5, 0, none⟩) 4 4, .slice (some ⟨g5, 0, none⟩) 3 4, .tuple #[.slice A2_3 3 c2_3, .int .i64 0], .tuple #[.slice A2_4 3 c2_4, .int .i64 0], .slice A2_5 3 c2_5, .int .i64 0, .slice A2_7 3 c2_7]) ⟨e0, e1, e2, e3, e4, e5, e6, e7, trivial⟩ rfl ?_;replace hE := (hE.below hb).more hb.size;replace hbw := bo_ hbw hb;clear hb;have hr2 := ho2_7;clear ho2_3 ho2_4 ho2_5 ho2_7 hR0_;refine EL.as rfl rfl (EL.nil (EX.seq (EC.seq (EC.region (EL.call cl_47 rfl (three_any _) ?_)))))
  rintro e w6 ⟨⟨vl6, va6, vp6, vk6, ua6, up6, rfl, hR⟩, hc6⟩
  refine ⟨_, rfl, ?_⟩;replace hE := (hE.below hc6).more hc6.size;replace hr2 := own_below hr2 hc6 (Nat.le_refl _);replace hbw := bo_ hbw hc6;clear hc6;refine EL.mv rfl rfl (EL.call (cl_13 rfl rfl) rfl (kAud hR (Nat.le_refl _) hE) ?_)
  rintro e w7 ⟨⟨u7, rfl, ho7⟩, hc7⟩
  refine ⟨_, rfl, ?_⟩;have hrA := own_less ho7 hbw.size;clear ho7;replace hE := (hE.below hc7).more hc7.size;replace hr2 := own_below hr2 hc7 (Nat.le_refl _);replace hbw := bo_ hbw hc7;clear hc7 hR;obtain ⟨AhrA, chrA, rfl, _⟩ := (Rd.of_own hrA).shape;refine EL.mv rfl rfl (EL.val (x_extract rfl rfl) rfl (EL.val (x_extract rfl rfl) rfl (EL.as rfl rfl (EL.as rfl rfl (EL.nil (EX.seq (EC.seq (EC.region (EL.call cl_47 rfl (three_any _) ?_)))))))))
  rintro e w8 ⟨⟨vl8, va8, vp8, vk8, ua8, up8, rfl, hR⟩, hc8⟩
  refine ⟨_, rfl, ?_⟩;replace hE := (hE.below hc8).more hc8.size;replace hr2 := own_below hr2 hc8 (Nat.le_refl _);replace hrA := own_below hrA hc8 (Nat.le_refl _);replace hbw := bo_ hbw hc8;clear hc8;refine EL.mv rfl rfl (EL.call (cl_16 rfl rfl) rfl (kSlop hR (Nat.le_refl _) hE) ?_)
  rintro e w9 ⟨⟨u9, usS, rfl, ho9⟩, hc9⟩
  refine ⟨_, rfl, ?_⟩;have hS := ho9.less hbw.size;clear ho9;replace hE := (hE.below hc9).more hc9.size;replace hr2 := own_below hr2 hc9 (Nat.le_refl _);replace hrA := own_below hrA hc9 (Nat.le_refl _);replace hbw := bo_ hbw hc9;clear hc9 hR;obtain ⟨AS, cS, rfl, _⟩ := hS.rd.rd.shape;refine EL.mv rfl rfl (EL.val (x_extract rfl rfl) rfl (EL.val (x_extract rfl rfl) rfl (EL.as rfl rfl (EL.as rfl rfl (EL.nil (EX.seq (EC.seq (EC.region (EL.call cl_47 rfl (three_any _) ?_)))))))))
  rintro e w10 ⟨⟨vl10, va10, vp10, vk10, ua10, up10, rfl, hR⟩, hc10⟩
  refine ⟨_, rfl, ?_⟩;replace hE := (hE.below hc10).more hc10.size;replace hr2 := own_below hr2 hc10 (Nat.le_refl _);replace hrA := own_below hrA hc10 (Nat.le_refl _);replace hS := (hS.below hc10).more hc10.size;replace hbw := bo_ hbw hc10;clear hc10;refine EL.mv rfl rfl (EL.call (cl_17 rfl rfl) rfl (kBill hR (Nat.le_refl _) hE) ?_)
  rintro e w11 ⟨rfl, hc11⟩
  refine ⟨_, rfl, ?_⟩;replace hE := (hE.below hc11).more hc11.size;replace hr2 := own_below hr2 hc11 (Nat.le_refl _);replace hrA := own_below hrA hc11 (Nat.le_refl _);replace hS := (hS.below hc11).more hc11.size;replace hR := (hR.below hc11).more hc11.size;replace hbw := bo_ hbw hc11;clear hc11;clear hR;refine EL.mv rfl rfl (EL.val (x_extract rfl rfl) rfl (EL.val (x_extract rfl rfl) rfl (EL.val (x_extract rfl rfl) rfl (EL.val (x_extract rfl rfl) rfl (EL.as rfl rfl (EL.as rfl rfl (EL.as rfl rfl (EL.as rfl rfl (EL.nil ?_)))))))));refine EX.seq (EC.seq ?_);refine EC.regionP [[], [], [1], [], [0, 1, 2, 3], [0, 1, 2, 3, 4], [0, 1, 2, 3, 4, 5], [0, 1, 2, 3, 4, 5], [0, 1, 2, 3, 4, 5], [0, 1, 2, 3, 4, 5], [0, 1, 2, 3, 4, 5, 6], [0, 1, 2, 3, 4, 5, 6, 7, 10], [0, 1, 2, 3, 4, 5, 6, 7, 8, 10, 11], [0, 1, 2, 3, 4, 5, 6, 7, 8, 9, 10, 11, 12]] 13 [] (phi (fun i_ r => match i_ with | 1 => r 1 = .slice (some ⟨g5, 0, none⟩) 4 4 | 2 => r 2 = .slice (some ⟨g5, 0, none⟩) 1 4 | 7 => r 7 = .int .i64 90000 | 8 => r 8 = .int .i64 0 | 9 => r 9 = .int .i64 0 | 11 => r 11 = .int .i64 90000 | 12 => r 12 = .int .i64 0 | _ => True) [(0, fun r w_ => ∃ vl va vp vk ua up, r 0 = rulesV vl va vp vk three ∧ RdRules w_ w_.heap.size vl va vp vk three ua up), (3, fun r w_ => ∃ g_, r 3 = .slice (some ⟨g_, 0, none⟩) 2 2 ∧ Blk w_ g_ 3 #[.int .i64 2, .int .i64 1] ∧ w11.heap.size ≤ g_), (4, fun r w_ => ∃ A c, r 4 = .tuple #[.slice A 2 c, .int .i64 90000, .int .i64 0, .int .i64 0] ∧ w_.ownsRow w.heap.size 3 1 (.slice A 2 c) 2 (ints [1, -1])), (5, fun r w_ => ∃ A c, r 5 = .tuple #[.slice A 2 c, .int .i64 90000, .int .i64 0, .int .i64 0] ∧ w_.ownsRow w.heap.size 3 1 (.slice A 2 c) 2 (ints [1, -1])), (6, fun r w_ => ∃ A c, r 6 = .slice A 2 c ∧ w_.ownsRow w.heap.size 3 1 (.slice A 2 c) 2 (ints [1, -1])), (10, fun r w_ => ∃ A c, r 10 = .slice A 2 c ∧ w_.ownsRow w.heap.size 3 1 (.slice A 2 c) 2 (ints [1, -1]))]) (by kernel_rfl) rfl rfl (phi_cons mono_th (phi_cons mono_bs (phi_cons (mono_cp (f := fun A c => .tuple #[.slice A 2 c, .int .i64 90000, .int .i64 0, .int .i64 0])) (phi_cons (mono_cp (f := fun A c => .tuple #[.slice A 2 c, .int .i64 90000, .int .i64 0, .int .i64 0])) (phi_cons (mono_cp (f := fun A c => .slice A 2 c)) (phi_cons (mono_cp (f := fun A c => .slice A 2 c)) (phi_nil))))))) (fun i_ hi_ => ?_) ?_
  ·match i_, hi_ with
   | 0, _ =>
    intro val w1 a hb ha hd;have ha := ha.sub (Sub.nil _);refine hs_call ha rfl rfl cl_47 (three_any _) rfl ?_
    rintro e w' ⟨⟨vl, va, vp, vk, ua, up, rfl, hR⟩, hb'⟩
    exact ⟨_, rfl, hb', ⟨vl, va, vp, vk, ua, up, rfl, hR⟩⟩
   | 1, _ =>
    intro val w1 a hb ha hd;have ha := ha.s0 (d := 1) rfl
    exact hs_val ha rfl rfl (x_move rfl) rfl rfl
   | 2, _ =>
    intro val w1 a hb ha hd;have e1 : val 1 = .slice (some ⟨g5, 0, none⟩) 4 4 := hd 1 (memB_mem.1 rfl);have ha := ha.s1 (d := 58) rfl e1
    exact hs_val ha rfl rfl (slh_29 (hi := 1) rfl rfl (by decide)) rfl rfl
   | 3, _ =>
    intro val w1 a hb ha hd;have ha := ha.sub (Sub.nil _)
    exact hs_newS ha rfl rfl (bs_22_2 rfl rfl) rfl (fun g w' hq _ hge => ⟨g, rfl, hq, Nat.le_trans hb.size hge⟩)
   | 4, _ =>
    intro val w1 a hb ha hd;obtain ⟨vl0_, va0_, vp0_, vk0_, ua0_, up0_, e0, hR0_⟩ := hd 0 (memB_mem.1 rfl);have e2 : val 2 = .slice (some ⟨g5, 0, none⟩) 1 4 := hd 2 (memB_mem.1 rfl);obtain ⟨g3_, e3, q3_, h3_⟩ := hd 3 (memB_mem.1 rfl);change val 3 = _ at e3;have ha := ha.sub (Sub.ins (d := 60) (Sub.ins (d := 59) (Sub.ins (d := 57) (Sub.nil _) (dep_get rfl e0)) (dep_get rfl e2)) (dep_get rfl e3));refine hs_call ha rfl rfl (cl_24 rfl rfl rfl) (kPlan hR0_ (Nat.le_refl _) (rd_pre (m := 1) ((hE.below hb).more hb.size) (by decide)) (rd_blk (k := 2) (l := [.int .i64 2, .int .i64 1]) q3_ rfl)) rfl ?_
    rintro e w' ⟨⟨u, rfl, ho⟩, hb'⟩
    obtain ⟨A, c9, rfl, _⟩ := (Rd.of_own ho).shape
    exact ⟨_, rfl, hb', ⟨A, c9, rfl, own_less ho (Nat.le_trans hbw.size hb.size)⟩⟩
   | 5, _ =>
    intro val w1 a hb ha hd;obtain ⟨A6_4, c6_4, e4, ho6_4⟩ := hd 4 (memB_mem.1 rfl);have ha := ha.s1 (d := 61) rfl e4
    exact hs_val ha rfl rfl (x_move rfl) ⟨A6_4, c6_4, rfl, ho6_4⟩ rfl
   | 6, _ =>
    intro val w1 a hb ha hd;obtain ⟨A6_5, c6_5, e5, ho6_5⟩ := hd 5 (memB_mem.1 rfl);have ha := ha.s1 (d := 56) rfl e5
    exact hs_val ha rfl rfl (x_extract rfl rfl) ⟨A6_5, c6_5, rfl, ho6_5⟩ rfl
   | 7, _ =>
    intro val w1 a hb ha hd;obtain ⟨A6_5, c6_5, e5, ho6_5⟩ := hd 5 (memB_mem.1 rfl);have ha := ha.s1 (d := 56) rfl e5
    exact hs_val ha rfl rfl (x_extract rfl rfl) rfl rfl
   | 8, _ =>
    intro val w1 a hb ha hd;obtain ⟨A6_5, c6_5, e5, ho6_5⟩ := hd 5 (memB_mem.1 rfl);have ha := ha.s1 (d := 56) rfl e5
    exact hs_val ha rfl rfl (x_extract rfl rfl) rfl rfl
   | 9, _ =>
    intro val w1 a hb ha hd;obtain ⟨A6_5, c6_5, e5, ho6_5⟩ := hd 5 (memB_mem.1 rfl);have ha := ha.s1 (d := 56) rfl e5
    exact hs_val ha rfl rfl (x_extract rfl rfl) rfl rfl
   | 10, _ =>
    intro val w1 a hb ha hd;obtain ⟨A6_6, c6_6, e6, ho6_6⟩ := hd 6 (memB_mem.1 rfl);have ha := ha.s1 (d := 62) rfl e6
    exact hs_val ha rfl rfl (x_assign rfl) ⟨A6_6, c6_6, rfl, ho6_6⟩ rfl
   | 11, _ =>
    intro val w1 a hb ha hd;have e7 : val 7 = .int .i64 90000 := hd 7 (memB_mem.1 rfl);have ha := ha.s1 (d := 63) rfl e7
    exact hs_val ha rfl rfl (x_assign rfl) rfl rfl
   | 12, _ =>
    intro val w1 a hb ha hd;have e8 : val 8 = .int .i64 0 := hd 8 (memB_mem.1 rfl);have ha := ha.s1 (d := 64) rfl e8
    exact hs_val ha rfl rfl (x_assign rfl) rfl rfl
   | k + 13, h => exact absurd h (by omega)
  ·intro val wR6 hb halc hd
   obtain ⟨vl0_, va0_, vp0_, vk0_, ua0_, up0_, e0, hR0_⟩ := hd 0 (by omega)
   have e1 : val 1 = .slice (some ⟨g5, 0, none⟩) 4 4 := hd 1 (by omega)
   have e2 : val 2 = .slice (some ⟨g5, 0, none⟩) 1 4 := hd 2 (by omega)
   obtain ⟨ga3_6, e3, qa3_6, hga3_6⟩ := hd 3 (by omega)
   change val 3 = _ at e3;change Blk wR6 ga3_6 3 #[.int .i64 2, .int .i64 1] at qa3_6;obtain ⟨A6_4, c6_4, e4, ho6_4⟩ := hd 4 (by omega)
   obtain ⟨A6_5, c6_5, e5, ho6_5⟩ := hd 5 (by omega)
   obtain ⟨A6_6, c6_6, e6, ho6_6⟩ := hd 6 (by omega)
   have e7 : val 7 = .int .i64 90000 := hd 7 (by omega)
   have e8 : val 8 = .int .i64 0 := hd 8 (by omega)
   have e9 : val 9 = .int .i64 0 := hd 9 (by omega)
   obtain ⟨A6_10, c6_10, e10, ho6_10⟩ := hd 10 (by omega)
   have e11 : val 11 = .int .i64 90000 := hd 11 (by omega)
   have e12 : val 12 = .int .i64 0 := hd 12 (by omega)
   refine EL.ends (cs := [rulesV vl0_ va0_ vp0_ vk0_ three, .slice (some ⟨g5, 0, none⟩) 4 4, .slice (some ⟨g5, 0, none⟩) 1 4, .slice (some ⟨ga3_6, 0, none⟩) 2 2, .tuple #[.slice A6_4 2 c6_4, .int .i64 90000, .int .i64 0, .int .i64 0], .tuple #[.slice A6_5 2 c6_5, .int .i64 90000, .int .i64 0, .int .i64 0], .slice A6_6 2 c6_6, .int .i64 90000, .int .i64 0, .int .i64 0, .slice A6_10 2 c6_10, .int .i64 90000, .int .i64 0]) ⟨e0, e1, e2, e3, e4, e5, e6, e7, e8, e9, e10, e11, e12, trivial⟩ rfl ?_;replace hE := (hE.below hb).more hb.size;replace hr2 := own_below hr2 hb (Nat.le_refl _);replace hrA := own_below hrA hb (Nat.le_refl _);replace hS := (hS.below hb).more hb.size;have bhbw_12 := Nat.le_trans hbw.size hga3_6;replace hbw := bo_ hbw hb;clear hb;have hr6 := ho6_10;clear ho6_4 ho6_5 ho6_6 ho6_10 hR0_;refine EL.as rfl rfl (EL.nil (EX.seq (EC.seq (EC.region (EL.call cl_47 rfl (three_any _) ?_)))))
   rintro e w13 ⟨⟨vl13, va13, vp13, vk13, ua13, up13, rfl, hR⟩, hc13⟩
   refine ⟨_, rfl, ?_⟩;replace hE := (hE.below hc13).more hc13.size;replace hr2 := own_below hr2 hc13 (Nat.le_refl _);replace hrA := own_below hrA hc13 (Nat.le_refl _);replace hS := (hS.below hc13).more hc13.size;replace hr6 := own_below hr6 hc13 (Nat.le_refl _);replace hbw := bo_ hbw hc13;clear hc13;refine EL.call (cl_46 rfl) rfl (lload_any _ _) ?_
   rintro e w14 ⟨rfl, hc14⟩
   refine ⟨_, rfl, ?_⟩;replace hE := (hE.below hc14).more hc14.size;replace hr2 := own_below hr2 hc14 (Nat.le_refl _);replace hrA := own_below hrA hc14 (Nat.le_refl _);replace hS := (hS.below hc14).more hc14.size;replace hr6 := own_below hr6 hc14 (Nat.le_refl _);replace hR := (hR.below hc14).more hc14.size;replace hbw := bo_ hbw hc14;clear hc14;refine EL.newS (bs_29_1 rfl) rfl ?_;intro g15 w15 q15 hb15 hg15 hl15;have bhbw_15 := Nat.le_trans hbw.size hg15;replace hE := (hE.below hb15).more hb15.size;replace hr2 := own_below hr2 hb15 (Nat.le_refl _);replace hrA := own_below hrA hb15 (Nat.le_refl _);replace hS := (hS.below hb15).more hb15.size;replace hr6 := own_below hr6 hb15 (Nat.le_refl _);replace hR := (hR.below hb15).more hb15.size;replace hbw := bo_ hbw hb15;clear hb15 hg15 hl15;refine EL.call (cl_46 rfl) rfl (lload_any _ _) ?_
   rintro e w16 ⟨rfl, hc16⟩
   refine ⟨_, rfl, ?_⟩;replace q15 := q15.bl hc16;replace hE := (hE.below hc16).more hc16.size;replace hr2 := own_below hr2 hc16 (Nat.le_refl _);replace hrA := own_below hrA hc16 (Nat.le_refl _);replace hS := (hS.below hc16).more hc16.size;replace hr6 := own_below hr6 hc16 (Nat.le_refl _);replace hR := (hR.below hc16).more hc16.size;replace hbw := bo_ hbw hc16;clear hc16;refine EL.newS (bs_29_1 rfl) rfl ?_;intro g17 w17 q17 hb17 hg17 hl17;have n15_17 := q15.na hg17;have bhbw_17 := Nat.le_trans hbw.size hg17;replace q15 := q15.bl hb17;replace hE := (hE.below hb17).more hb17.size;replace hr2 := own_below hr2 hb17 (Nat.le_refl _);replace hrA := own_below hrA hb17 (Nat.le_refl _);replace hS := (hS.below hb17).more hb17.size;replace hr6 := own_below hr6 hb17 (Nat.le_refl _);replace hR := (hR.below hb17).more hb17.size;replace hbw := bo_ hbw hb17;clear hb17 hg17 hl17;refine EL.newS (bs_96_2 rfl rfl) rfl ?_;intro g18 w18 q18 hb18 hg18 hl18;have n15_18 := q15.na hg18;have n17_18 := q17.na hg18;have bhbw_18 := Nat.le_trans hbw.size hg18;replace q15 := q15.bl hb18;replace q17 := q17.bl hb18;replace hE := (hE.below hb18).more hb18.size;replace hr2 := own_below hr2 hb18 (Nat.le_refl _);replace hrA := own_below hrA hb18 (Nat.le_refl _);replace hS := (hS.below hb18).more hb18.size;replace hr6 := own_below hr6 hb18 (Nat.le_refl _);replace hR := (hR.below hb18).more hb18.size;replace hbw := bo_ hbw hb18;clear hb18 hg18 hl18;refine EL.newS (bs_22_2 rfl rfl) rfl ?_;intro g19 w19 q19 hb19 hg19 hl19;have n15_19 := q15.na hg19;have n17_19 := q17.na hg19;have n18_19 := q18.na hg19;have bhbw_19 := Nat.le_trans hbw.size hg19;replace q15 := q15.bl hb19;replace q17 := q17.bl hb19;replace q18 := q18.bl hb19;replace hE := (hE.below hb19).more hb19.size;replace hr2 := own_below hr2 hb19 (Nat.le_refl _);replace hrA := own_below hrA hb19 (Nat.le_refl _);replace hS := (hS.below hb19).more hb19.size;replace hr6 := own_below hr6 hb19 (Nat.le_refl _);replace hR := (hR.below hb19).more hb19.size;replace hbw := bo_ hbw hb19;clear hb19 hg19 hl19;have hT : RdLL evC 2 w19 w19.heap.size (.slice (some ⟨g18, 0, none⟩) 2 2) tK [.slice (some ⟨g15, 0, none⟩) 1 1, .slice (some ⟨g17, 0, none⟩) 1 1] := ⟨rfl, rd_blk (k := 2) (l := [.slice (some ⟨g15, 0, none⟩) 1 1, .slice (some ⟨g17, 0, none⟩) 1 1]) q18 rfl, fun i hi => by (have hi : i < 2 := hi); exact (match i, hi with | 0, _ => rd_blk (k := 1) (l := [.int .i64 1, .int .i64 0]) q15 rfl | 1, _ => rd_blk (k := 1) (l := [.int .i64 1, .int .i64 1]) q17 rfl)⟩
   have hJ := rd_blk (size := 1) (k := 2) (l := [.int .i64 2, .int .i64 1]) q19 rfl;refine EL.call (cl_38 rfl rfl rfl) rfl (kFleet hR (Nat.le_refl _) hT hJ) ?_
   rintro e w20 ⟨⟨u20, rfl, ho20⟩, hc20⟩
   refine ⟨_, rfl, ?_⟩;have hrF := own_less ho20 hbw.size;clear ho20;replace hE := (hE.below hc20).more hc20.size;replace hr2 := own_below hr2 hc20 (Nat.le_refl _);replace hrA := own_below hrA hc20 (Nat.le_refl _);replace hS := (hS.below hc20).more hc20.size;replace hr6 := own_below hr6 hc20 (Nat.le_refl _);replace hbw := bo_ hbw hc20;clear hc20 hR;obtain ⟨AhrF, chrF, rfl, _⟩ := (Rd.of_own hrF).shape;refine EL.mv rfl rfl (EL.val (x_extract rfl rfl) rfl (EL.val (x_extract rfl rfl) rfl (EL.val (x_extract rfl rfl) rfl (EL.val (x_extract rfl rfl) rfl (EL.as rfl rfl (EL.as rfl rfl (EL.as rfl rfl (EL.as rfl rfl (EL.nil ?_)))))))));refine EX.seq (EC.seq ?_);refine EC.regionP [[], [], [1], [], [0, 1, 2, 3], [0, 1, 2, 3, 4], [0, 1, 2, 3, 4, 5], [0, 1, 2, 3, 4, 5], [0, 1, 2, 3, 4, 5], [0, 1, 2, 3, 4, 5], [0, 1, 2, 3, 4, 5, 6], [0, 1, 2, 3, 4, 5, 6, 7, 10], [0, 1, 2, 3, 4, 5, 6, 7, 8, 10, 11], [0, 1, 2, 3, 4, 5, 6, 7, 8, 9, 10, 11, 12]] 13 [] (phi (fun i_ r => match i_ with | 1 => r 1 = .slice (some ⟨g5, 0, none⟩) 4 4 | 2 => r 2 = .slice (some ⟨g5, 0, none⟩) 1 4 | 7 => r 7 = .int .i64 0 | 8 => r 8 = .int .i64 0 | 9 => r 9 = .int .i64 7 | 11 => r 11 = .int .i64 0 | 12 => r 12 = .int .i64 0 | _ => True) [(0, fun r w_ => ∃ vl va vp vk ua up, r 0 = rulesV vl va vp vk three ∧ RdRules w_ w_.heap.size vl va vp vk three ua up), (3, fun r w_ => ∃ g_, r 3 = .slice (some ⟨g_, 0, none⟩) 1 1 ∧ Blk w_ g_ 3 #[.int .i64 1] ∧ w20.heap.size ≤ g_), (4, fun r w_ => ∃ A c, r 4 = .tuple #[.slice A 0 c, .int .i64 0, .int .i64 0, .int .i64 7] ∧ w_.ownsRow w.heap.size 3 1 (.slice A 0 c) 0 []), (5, fun r w_ => ∃ A c, r 5 = .tuple #[.slice A 0 c, .int .i64 0, .int .i64 0, .int .i64 7] ∧ w_.ownsRow w.heap.size 3 1 (.slice A 0 c) 0 []), (6, fun r w_ => ∃ A c, r 6 = .slice A 0 c ∧ w_.ownsRow w.heap.size 3 1 (.slice A 0 c) 0 []), (10, fun r w_ => ∃ A c, r 10 = .slice A 0 c ∧ w_.ownsRow w.heap.size 3 1 (.slice A 0 c) 0 [])]) (by kernel_rfl) rfl rfl (phi_cons mono_th (phi_cons mono_bs (phi_cons (mono_cp (f := fun A c => .tuple #[.slice A 0 c, .int .i64 0, .int .i64 0, .int .i64 7])) (phi_cons (mono_cp (f := fun A c => .tuple #[.slice A 0 c, .int .i64 0, .int .i64 0, .int .i64 7])) (phi_cons (mono_cp (f := fun A c => .slice A 0 c)) (phi_cons (mono_cp (f := fun A c => .slice A 0 c)) (phi_nil))))))) (fun i_ hi_ => ?_) ?_
   ·match i_, hi_ with
    | 0, _ =>
     intro val w1 a hb ha hd;have ha := ha.sub (Sub.nil _);refine hs_call ha rfl rfl cl_47 (three_any _) rfl ?_
     rintro e w' ⟨⟨vl, va, vp, vk, ua, up, rfl, hR⟩, hb'⟩
     exact ⟨_, rfl, hb', ⟨vl, va, vp, vk, ua, up, rfl, hR⟩⟩
    | 1, _ =>
     intro val w1 a hb ha hd;have ha := ha.s0 (d := 1) rfl
     exact hs_val ha rfl rfl (x_move rfl) rfl rfl
    | 2, _ =>
     intro val w1 a hb ha hd;have e1 : val 1 = .slice (some ⟨g5, 0, none⟩) 4 4 := hd 1 (memB_mem.1 rfl);have ha := ha.s1 (d := 81) rfl e1
     exact hs_val ha rfl rfl (slh_29 (hi := 1) rfl rfl (by decide)) rfl rfl
    | 3, _ =>
     intro val w1 a hb ha hd;have ha := ha.sub (Sub.nil _)
     exact hs_newS ha rfl rfl (bs_22_1 rfl) rfl (fun g w' hq _ hge => ⟨g, rfl, hq, Nat.le_trans hb.size hge⟩)
    | 4, _ =>
     intro val w1 a hb ha hd;obtain ⟨vl0_, va0_, vp0_, vk0_, ua0_, up0_, e0, hR0_⟩ := hd 0 (memB_mem.1 rfl);have e2 : val 2 = .slice (some ⟨g5, 0, none⟩) 1 4 := hd 2 (memB_mem.1 rfl);obtain ⟨g3_, e3, q3_, h3_⟩ := hd 3 (memB_mem.1 rfl);change val 3 = _ at e3;have ha := ha.sub (Sub.ins (d := 83) (Sub.ins (d := 82) (Sub.ins (d := 80) (Sub.nil _) (dep_get rfl e0)) (dep_get rfl e2)) (dep_get rfl e3));refine hs_call ha rfl rfl (cl_24 rfl rfl rfl) (kPlan1 hR0_ (Nat.le_refl _) (rd_pre (m := 1) ((hE.below hb).more hb.size) (by decide)) (rd_blk (k := 1) (l := [.int .i64 1]) q3_ rfl)) rfl ?_
     rintro e w' ⟨⟨u, rfl, ho⟩, hb'⟩
     obtain ⟨A, c9, rfl, _⟩ := (Rd.of_own ho).shape
     exact ⟨_, rfl, hb', ⟨A, c9, rfl, own_less ho (Nat.le_trans hbw.size hb.size)⟩⟩
    | 5, _ =>
     intro val w1 a hb ha hd;obtain ⟨A8_4, c8_4, e4, ho8_4⟩ := hd 4 (memB_mem.1 rfl);have ha := ha.s1 (d := 84) rfl e4
     exact hs_val ha rfl rfl (x_move rfl) ⟨A8_4, c8_4, rfl, ho8_4⟩ rfl
    | 6, _ =>
     intro val w1 a hb ha hd;obtain ⟨A8_5, c8_5, e5, ho8_5⟩ := hd 5 (memB_mem.1 rfl);have ha := ha.s1 (d := 79) rfl e5
     exact hs_val ha rfl rfl (x_extract rfl rfl) ⟨A8_5, c8_5, rfl, ho8_5⟩ rfl
    | 7, _ =>
     intro val w1 a hb ha hd;obtain ⟨A8_5, c8_5, e5, ho8_5⟩ := hd 5 (memB_mem.1 rfl);have ha := ha.s1 (d := 79) rfl e5
     exact hs_val ha rfl rfl (x_extract rfl rfl) rfl rfl
    | 8, _ =>
     intro val w1 a hb ha hd;obtain ⟨A8_5, c8_5, e5, ho8_5⟩ := hd 5 (memB_mem.1 rfl);have ha := ha.s1 (d := 79) rfl e5
     exact hs_val ha rfl rfl (x_extract rfl rfl) rfl rfl
    | 9, _ =>
     intro val w1 a hb ha hd;obtain ⟨A8_5, c8_5, e5, ho8_5⟩ := hd 5 (memB_mem.1 rfl);have ha := ha.s1 (d := 79) rfl e5
     exact hs_val ha rfl rfl (x_extract rfl rfl) rfl rfl
    | 10, _ =>
     intro val w1 a hb ha hd;obtain ⟨A8_6, c8_6, e6, ho8_6⟩ := hd 6 (memB_mem.1 rfl);have ha := ha.s1 (d := 85) rfl e6
     exact hs_val ha rfl rfl (x_assign rfl) ⟨A8_6, c8_6, rfl, ho8_6⟩ rfl
    | 11, _ =>
     intro val w1 a hb ha hd;have e7 : val 7 = .int .i64 0 := hd 7 (memB_mem.1 rfl);have ha := ha.s1 (d := 86) rfl e7
     exact hs_val ha rfl rfl (x_assign rfl) rfl rfl
    | 12, _ =>
     intro val w1 a hb ha hd;have e8 : val 8 = .int .i64 0 := hd 8 (memB_mem.1 rfl);have ha := ha.s1 (d := 87) rfl e8
     exact hs_val ha rfl rfl (x_assign rfl) rfl rfl
    | k + 13, h => exact absurd h (by omega)
   ·intro val wR8 hb halc hd
    obtain ⟨vl0_, va0_, vp0_, vk0_, ua0_, up0_, e0, hR0_⟩ := hd 0 (by omega)
    have e1 : val 1 = .slice (some ⟨g5, 0, none⟩) 4 4 := hd 1 (by omega)
    have e2 : val 2 = .slice (some ⟨g5, 0, none⟩) 1 4 := hd 2 (by omega)
    obtain ⟨ga3_8, e3, qa3_8, hga3_8⟩ := hd 3 (by omega)
    change val 3 = _ at e3;change Blk wR8 ga3_8 3 #[.int .i64 1] at qa3_8;obtain ⟨A8_4, c8_4, e4, ho8_4⟩ := hd 4 (by omega)
    obtain ⟨A8_5, c8_5, e5, ho8_5⟩ := hd 5 (by omega)
    obtain ⟨A8_6, c8_6, e6, ho8_6⟩ := hd 6 (by omega)
    have e7 : val 7 = .int .i64 0 := hd 7 (by omega)
    have e8 : val 8 = .int .i64 0 := hd 8 (by omega)
    have e9 : val 9 = .int .i64 7 := hd 9 (by omega)
    obtain ⟨A8_10, c8_10, e10, ho8_10⟩ := hd 10 (by omega)
    have e11 : val 11 = .int .i64 0 := hd 11 (by omega)
    have e12 : val 12 = .int .i64 0 := hd 12 (by omega)
    refine EL.ends (cs := [rulesV vl0_ va0_ vp0_ vk0_ three, .slice (some ⟨g5, 0, none⟩) 4 4, .slice (some ⟨g5, 0, none⟩) 1 4, .slice (some ⟨ga3_8, 0, none⟩) 1 1, .tuple #[.slice A8_4 0 c8_4, .int .i64 0, .int .i64 0, .int .i64 7], .tuple #[.slice A8_5 0 c8_5, .int .i64 0, .int .i64 0, .int .i64 7], .slice A8_6 0 c8_6, .int .i64 0, .int .i64 0, .int .i64 7, .slice A8_10 0 c8_10, .int .i64 0, .int .i64 0]) ⟨e0, e1, e2, e3, e4, e5, e6, e7, e8, e9, e10, e11, e12, trivial⟩ rfl ?_;replace hE := (hE.below hb).more hb.size;replace hr2 := own_below hr2 hb (Nat.le_refl _);replace hrA := own_below hrA hb (Nat.le_refl _);replace hS := (hS.below hb).more hb.size;replace hr6 := own_below hr6 hb (Nat.le_refl _);replace hrF := own_below hrF hb (Nat.le_refl _);have bhbw_21 := Nat.le_trans hbw.size hga3_8;replace hbw := bo_ hbw hb;clear hb;have hr8 := ho8_10;clear ho8_4 ho8_5 ho8_6 ho8_10 hR0_;refine EL.as rfl rfl (EL.nil (EX.seq (EC.seq (EC.seq (EC.region ?_)))));have h1S : 1 < (slopE three lK).length := by rw [three_slop.1]; decide
    obtain ⟨bS, oS, eS, _, hsc⟩ := vals_cells usS 1 (by rw [hS.len]; exact h1S) wR8 wR8.heap.size _ _ _ hS.rd.rd
    have hSr := hS.rd.row 1 h1S;rw [← ints_flat] at hSr;obtain ⟨AS1, cS1, eS1, _⟩ := hSr.shape;rw [eS1] at hsc hSr;obtain ⟨bS1, oS1, eA1, _, hs1⟩ := ints_cells _ 1 (by rw [three_slop.2]; decide) wR8 wR8.heap.size _ _ _ hSr
    rw [three_slop.2] at hs1;obtain ⟨b2, o2, eR2, _, r0, r1⟩ := bds_cells _ 0 (by decide) wR8 wR8.heap.size _ _ _ (Rd.of_own hr2)
    obtain ⟨bA, oA, eAA, _, a0, a1, a2⟩ := brs_cells _ 0 (by decide) wR8 wR8.heap.size _ _ _ (Rd.of_own hrA)
    obtain ⟨b6, o6, eR6, _, p0⟩ := ints_cells [1, -1] 0 (by decide) wR8 wR8.heap.size _ _ _ (Rd.of_own hr6)
    obtain ⟨b6b, o6b, eR6b, _, p1⟩ := ints_cells [1, -1] 1 (by decide) wR8 wR8.heap.size _ _ _ (Rd.of_own hr6)
    obtain ⟨bF, oF, eRF, _, f0, f1⟩ := sts_cells _ 0 (by decide) wR8 wR8.heap.size _ _ _ (Rd.of_own hrF)
    obtain ⟨bFb, oFb, eRFb, _, f2, f3⟩ := sts_cells _ 1 (by decide) wR8 wR8.heap.size _ _ _ (Rd.of_own hrF)
    refine EL.mv rfl rfl ?_;refine EL.val (x_neq (r := false) rfl rfl (decide_eq_false (by decide))) rfl ?_
    refine EL.mv rfl rfl (EL.valg rfl rfl (x_move rfl) rfl ?_);refine EL.valg rfl rfl (x_neq (r := false) rfl rfl (decide_eq_false (by decide))) rfl ?_
    refine EL.val (x_pick_f rfl rfl) rfl (EL.mv rfl rfl (EL.valg rfl rfl (x_move rfl) rfl ?_));refine EL.valg rfl rfl (x_neq (r := false) rfl rfl (decide_eq_false (by decide))) rfl ?_
    refine EL.val (x_pick_f rfl rfl) rfl (EL.mv rfl rfl (EL.valg rfl rfl (x_move rfl) rfl ?_));refine EL.valg rfl rfl (x_neq (r := false) rfl rfl (decide_eq_false (by decide))) rfl ?_
    refine EL.val (x_pick_f rfl rfl) rfl (EL.mv rfl rfl (EL.valg rfl rfl (x_move rfl) rfl ?_));refine EL.valg rfl rfl (x_neq (r := false) rfl rfl (decide_eq_false (by decide))) rfl ?_
    refine EL.val (x_pick_f rfl rfl) rfl (EL.mv rfl rfl (EL.valg rfl rfl (x_move rfl) rfl ?_));refine EL.valg rfl rfl (x_neq (r := false) rfl rfl (decide_eq_false (by decide))) rfl ?_
    refine EL.val (x_pick_f rfl rfl) rfl (EL.mv rfl rfl (EL.valg rfl rfl (x_move rfl) rfl ?_));refine EL.valg rfl rfl (x_neq (r := false) rfl rfl (decide_eq_false (by decide))) rfl ?_
    refine EL.val (x_pick_f rfl rfl) rfl (EL.mv rfl rfl (EL.valg rfl rfl (x_move rfl) rfl ?_));refine EL.valg rfl rfl (x_neq (r := false) rfl rfl (decide_eq_false (by decide))) rfl ?_
    refine EL.val (x_pick_f rfl rfl) rfl (EL.mv rfl rfl (EL.valg rfl rfl (x_move rfl) rfl (EL.valg rfl rfl (ln_60 rfl) rfl ?_)));refine EL.valg rfl rfl (x_neq (r := false) rfl rfl (decide_eq_false (by decide))) rfl ?_
    refine EL.val (x_pick_f rfl rfl) rfl (EL.mv rfl rfl (EL.valg rfl rfl (x_move rfl) rfl (EL.valg rfl rfl (ln_32 rfl) rfl ?_)));refine EL.valg rfl rfl (x_neq (r := false) rfl rfl (decide_eq_false (by decide))) rfl ?_
    refine EL.val (x_pick_f rfl rfl) rfl (EL.mv rfl rfl (EL.valg rfl rfl (x_move rfl) rfl (EL.valg rfl rfl (ln_25 rfl) rfl ?_)));refine EL.valg rfl rfl (x_neq (r := false) rfl rfl (decide_eq_false (by rw [three_slop.1]; decide))) rfl ?_
    refine EL.val (x_pick_f rfl rfl) rfl (EL.mv rfl rfl (EL.valg rfl rfl (x_move rfl) rfl ?_));refine EL.valg rfl rfl (ix_25 (k := 1) (by show some (Value.slice AS _ _) = _; rw [eS]) rfl (h1S)) rfl ?_
    refine EL.valg rfl rfl (ld_22 rfl hsc) rfl (EL.valg rfl rfl (ln_22 rfl) rfl ?_);refine EL.valg rfl rfl (x_neq (r := false) rfl rfl (decide_eq_false (by rw [three_slop.2]; decide))) rfl ?_
    refine EL.val (x_pick_f rfl rfl) rfl (EL.mv rfl rfl (EL.valg rfl rfl (x_move rfl) rfl (EL.valg rfl rfl (ln_22 rfl) rfl ?_)));refine EL.valg rfl rfl (x_neq (r := false) rfl rfl (decide_eq_false (by decide))) rfl ?_
    refine EL.val (x_pick_f rfl rfl) rfl (EL.mv rfl rfl (EL.valg rfl rfl (x_move rfl) rfl (EL.valg rfl rfl (ln_65 rfl) rfl ?_)));refine EL.valg rfl rfl (x_neq (r := false) rfl rfl (decide_eq_false (by decide))) rfl ?_
    refine EL.val (x_pick_f rfl rfl) rfl (EL.nil (EX.seq (EC.no rfl (EC.skip (EX.seq (EC.seq (EC.region (EL.mv rfl rfl ?_))))))));refine EL.val (ix_60 (k := 0) (by show some (Value.slice A2_7 _ _) = _; rw [eR2]) rfl (by decide)) rfl ?_
    refine EL.val (ld_24 rfl r0 r1) rfl (EL.val (bd_24_0_1 rfl rfl) rfl ?_);refine EL.val (eql_24 (r := true) rfl rfl (by decide)) rfl ?_
    refine EL.mv rfl rfl (EL.valg rfl rfl (x_move rfl) rfl ?_);refine EL.valg rfl rfl (ix_32 (k := 0) (by show some (Value.slice AhrA _ _) = _; rw [eAA]) rfl (by decide)) rfl ?_
    refine EL.valg rfl rfl (ld_46 rfl a0 a1 a2) rfl (EL.valg rfl rfl (bd_46_0_2 rfl rfl) rfl ?_);refine EL.valg rfl rfl (x_eqBr (r := true) rfl rfl (by decide)) rfl ?_
    refine EL.val (x_pick_t rfl rfl) rfl (EL.mv rfl rfl (EL.valg rfl rfl (x_move rfl) rfl ?_));refine EL.valg rfl rfl (ix_25 (k := 1) (by show some (Value.slice AS _ _) = _; rw [eS]) rfl (h1S)) rfl ?_
    refine EL.valg rfl rfl (ld_22 rfl hsc) rfl ?_;refine EL.valg rfl rfl (ix_22 (k := 1) (by show some (Value.slice AS1 _ _) = _; rw [eA1]) rfl (by rw [three_slop.2]; decide)) rfl ?_
    refine EL.valg rfl rfl (ld_3 rfl hs1) rfl ?_;refine EL.valg rfl rfl (x_eql (r := true) rfl rfl (decide_eq_true (by decide))) rfl ?_
    refine EL.val (x_pick_t rfl rfl) rfl (EL.mv rfl rfl (EL.valg rfl rfl (x_move rfl) rfl ?_));refine EL.valg rfl rfl (x_eql (r := true) rfl rfl (decide_eq_true (by decide))) rfl ?_
    refine EL.val (x_pick_t rfl rfl) rfl (EL.mv rfl rfl (EL.valg rfl rfl (x_move rfl) rfl ?_));refine EL.valg rfl rfl (x_eql (r := true) rfl rfl (decide_eq_true (by decide))) rfl ?_
    refine EL.val (x_pick_t rfl rfl) rfl (EL.mv rfl rfl (EL.valg rfl rfl (x_move rfl) rfl ?_));refine EL.valg rfl rfl (x_eql (r := true) rfl rfl (decide_eq_true (by decide))) rfl ?_
    refine EL.val (x_pick_t rfl rfl) rfl (EL.mv rfl rfl (EL.valg rfl rfl (x_move rfl) rfl ?_));refine EL.valg rfl rfl (ix_22 (k := 0) (by show some (Value.slice A6_10 _ _) = _; rw [eR6]) rfl (by decide)) rfl ?_
    refine EL.valg rfl rfl (ld_3 rfl p0) rfl ?_;refine EL.valg rfl rfl (x_eql (r := true) rfl rfl (decide_eq_true (by decide))) rfl ?_
    refine EL.val (x_pick_t rfl rfl) rfl (EL.mv rfl rfl (EL.valg rfl rfl (x_move rfl) rfl ?_));refine EL.valg rfl rfl (ix_22 (k := 1) (by show some (Value.slice A6_10 _ _) = _; rw [eR6b]) rfl (by decide)) rfl ?_
    refine EL.valg rfl rfl (ld_3 rfl p1) rfl ?_;refine EL.valg rfl rfl (x_eql (r := true) rfl rfl (decide_eq_true (by decide))) rfl ?_
    refine EL.val (x_pick_t rfl rfl) rfl (EL.mv rfl rfl (EL.valg rfl rfl (x_move rfl) rfl ?_));refine EL.valg rfl rfl (x_eql (r := true) rfl rfl (decide_eq_true (by decide))) rfl ?_
    refine EL.val (x_pick_t rfl rfl) rfl (EL.mv rfl rfl (EL.valg rfl rfl (x_move rfl) rfl ?_));refine EL.valg rfl rfl (ix_65 (k := 0) (by show some (Value.slice AhrF _ _) = _; rw [eRF]) rfl (by decide)) rfl ?_
    refine EL.valg rfl rfl (ld_70 rfl f0 f1) rfl (EL.valg rfl rfl (bd_70_1 rfl) rfl ?_);refine EL.valg rfl rfl (eql_70 (r := true) rfl rfl (by decide)) rfl ?_
    refine EL.val (x_pick_t rfl rfl) rfl (EL.mv rfl rfl (EL.valg rfl rfl (x_move rfl) rfl ?_));refine EL.valg rfl rfl (ix_65 (k := 1) (by show some (Value.slice AhrF _ _) = _; rw [eRFb]) rfl (by decide)) rfl ?_
    refine EL.valg rfl rfl (ld_70 rfl f2 f3) rfl (EL.valg rfl rfl (bd_70_1 rfl) rfl ?_);refine EL.valg rfl rfl (eql_70 (r := true) rfl rfl (by decide)) rfl ?_
    refine EL.val (x_pick_t rfl rfl) rfl (EL.as rfl rfl (EL.nil (EX.seq (EC.ret ?_))))
    exact EX.done (res1 rfl rfl) ⟨rfl, hbw⟩
end Go.Proofs.Ytdkedhcbdbpccaa
namespace Go.Proofs.Ytdkedhcbdbpccaa
open Go Go.RowKit
section
variable {n : Nat} {σ : Sg} {w : World} {dst : Option Tmp} {ty : TypeId} {pos : String} {af : Array Edge} {g : Option (Nat × Bool)} {x y z : Operand} {at' : Array TypeId}
theorem cl_11 {x0 x1 : Operand} {v0 v1 : Value} (h0 : evS σ x0 = some v0) (h1 : evS σ x1 = some v1) (a : Act) (ha : Env n σ a) : (execOp a.eval ⟨dst, .call { callee := .value (.func 11), args := #[x0, x1], argTypes := at' }, ty, pos, af, g⟩).run Try.prog w = .ok (.enter 11 #[v0, v1]) w := by
 simp only [execOp, resolve, List.map_toArray, List.map_cons, List.map_nil, ha.eval h0, ha.eval h1]
 simp [go_sem, Act.eval]
theorem cl_14 {x0 : Operand} {v0 : Value} (h0 : evS σ x0 = some v0) (a : Act) (ha : Env n σ a) : (execOp a.eval ⟨dst, .call { callee := .value (.func 14), args := #[x0], argTypes := at' }, ty, pos, af, g⟩).run Try.prog w = .ok (.enter 14 #[v0]) w := by
 simp only [execOp, resolve, List.map_toArray, List.map_cons, List.map_nil, ha.eval h0]
 simp [go_sem, Act.eval]
theorem cl_15 {x0 : Operand} {v0 : Value} (h0 : evS σ x0 = some v0) (a : Act) (ha : Env n σ a) : (execOp a.eval ⟨dst, .call { callee := .value (.func 15), args := #[x0], argTypes := at' }, ty, pos, af, g⟩).run Try.prog w = .ok (.enter 15 #[v0]) w := by
 simp only [execOp, resolve, List.map_toArray, List.map_cons, List.map_nil, ha.eval h0]
 simp [go_sem, Act.eval]
theorem cl_21 {x0 x1 : Operand} {v0 v1 : Value} (h0 : evS σ x0 = some v0) (h1 : evS σ x1 = some v1) (a : Act) (ha : Env n σ a) : (execOp a.eval ⟨dst, .call { callee := .value (.func 21), args := #[x0, x1], argTypes := at' }, ty, pos, af, g⟩).run Try.prog w = .ok (.enter 21 #[v0, v1]) w := by
 simp only [execOp, resolve, List.map_toArray, List.map_cons, List.map_nil, ha.eval h0, ha.eval h1]
 simp [go_sem, Act.eval]
theorem cl_18 {x0 x1 : Operand} {v0 v1 : Value} (h0 : evS σ x0 = some v0) (h1 : evS σ x1 = some v1) (a : Act) (ha : Env n σ a) : (execOp a.eval ⟨dst, .call { callee := .value (.func 18), args := #[x0, x1], argTypes := at' }, ty, pos, af, g⟩).run Try.prog w = .ok (.enter 18 #[v0, v1]) w := by
 simp only [execOp, resolve, List.map_toArray, List.map_cons, List.map_nil, ha.eval h0, ha.eval h1]
 simp [go_sem, Act.eval]
theorem cl_12  (a : Act) (_ : Env n σ a) : (execOp a.eval ⟨dst, .call { callee := .value (.func 12), args := #[], argTypes := at' }, ty, pos, af, g⟩).run Try.prog w = .ok (.enter 12 #[]) w := by
 simp only [execOp, resolve, List.map_toArray, List.map_nil]
 simp [go_sem, Act.eval]
theorem cl_27 {x0 x1 : Operand} {v0 v1 : Value} (h0 : evS σ x0 = some v0) (h1 : evS σ x1 = some v1) (a : Act) (ha : Env n σ a) : (execOp a.eval ⟨dst, .call { callee := .value (.func 27), args := #[x0, x1], argTypes := at' }, ty, pos, af, g⟩).run Try.prog w = .ok (.enter 27 #[v0, v1]) w := by
 simp only [execOp, resolve, List.map_toArray, List.map_cons, List.map_nil, ha.eval h0, ha.eval h1]
 simp [go_sem, Act.eval]
end
end Go.Proofs.Ytdkedhcbdbpccaa
namespace Go.Proofs.Ytdkedhcbdbpccaa
open Go Go.ChangeShapes Go.WideShapes Go.Deep Go.RowKit Go.Joins
theorem cell_spot {w : World} {x : Addr} {u : Value} (h : w.cell? x = some u) : x.spot = none ∧ x.block < w.heap.size := by
 unfold World.cell? at h
 split at h
 ·rename_i c e f hg
  split at h
  ·cases h
  ·rename_i hs
   refine ⟨by simpa using hs, ?_⟩
   rcases Nat.lt_or_ge x.block w.heap.size with hlt | hge
   ·exact hlt
   ·rw [Array.getElem?_eq_none hge] at hg; cases hg
 ·cases h
section
variable {H : Type} {enc : TypeId × Value → H} {P : Program} {w : World} {base : Nat} {spare : Nat → Bool} {held : Bool}
/-- rows of cells, one behind the other -/
theorem rd_of_cells {b off n c s : Nat} {B : Nat} (row : Nat → List Value) (hlen : ∀ i, (row i).length = s) (hs : 0 < s) (hB : b < B) (hnc : n ≤ c)
  (hcell : ∀ i, i < n → ∀ j u, (row i)[j]? = some u → w.cell? ⟨b, off + (i * s + j), none⟩ = some u) :
  Rd w B s (.slice (some ⟨b, off, none⟩) n c) n ((List.range n).flatMap row) := by
 refine ⟨by rw [flat_len hlen, List.length_range], _, _, rfl, hnc, fun _ => ⟨b, off, rfl, hB, fun q u hu => ?_⟩⟩
 have hq : q < n * s := by
  have := (List.getElem?_eq_some_iff.1 hu).1
  rwa [flat_len hlen, List.length_range] at this
 have hk : q / s < n := by
  rw [Nat.div_lt_iff_lt_mul hs]
  exact hq
 have e : q = q / s * s + q % s := by rw [Nat.mul_comm]; exact (Nat.div_add_mod q s).symm
 have hg := flat_get hlen (List.range n) (q / s) (by simpa using hk) (q % s) (Nat.mod_lt _ hs)
 rw [← e, List.getElem_range] at hg;rw [hg] at hu;have := hcell (q / s) hk (q % s) u hu
 rwa [← e] at this
theorem add_lit_more (x : Addr) (n : Nat) (h : x.spot = none) : x.add n = ⟨x.block, x.off + n, none⟩ := by
 obtain ⟨b, o, s⟩ := x;subst h;rw [Addr.add_lit]
/-- a slice, opened to its elements -/
theorem rd_list {α : Type} [Inhabited α] {f : α → List Value} {s : Nat} {Good : α → Prop} (hf : ∀ x, (f x).length = s) (hs : 0 < s) {t e : TypeId} {fuel : Nat} {v : Value} {x : DataW H × List MemPlace} (ht : P.underlying t = some (.slice e)) (hC : P.cellsOf e = s)
  (hE : ∀ (fuel : Nat) (cs : List Value) (x : DataW H × List MemPlace), cs.length = s → DataW.trod enc P w base spare held fuel e cs = some x → ∃ y : α, cs = f y ∧ Good y) (h : DataW.trod enc P w base spare held fuel t [v] = some x) :
  ∃ l : List α, Rd w w.heap.size s v l.length (l.flatMap f) ∧ (∀ y ∈ l, Good y) ∧ l.length ≤ maxLen := by
 rcases open_slice ht h with ⟨hcs, _⟩ | ⟨a, len, cap, m, n, D, Pl, hcs, _, hl, hcap, hm, _, hi⟩
 ·injection hcs with hcs
  subst hcs
  exact ⟨[], Rd.nil_ _ _ _, by simp, Nat.zero_le _⟩
 ·injection hcs with hcs
  subst hcs;have hcell : ∀ i, i < len → ∃ y : α, (∀ j u, (f y)[j]? = some u → w.cell? (a.add (i * s + j)) = some u) ∧ Good y := by
   intro i hi';obtain ⟨cs', hc, ht'⟩ := hi i (by rw [hm]; split <;> omega)
   rw [hC] at hc;obtain ⟨_, hcl, hat⟩ := World.cells?_some hc;obtain ⟨y, hy, hg⟩ := hE _ cs' _ hcl ht';subst hy;refine ⟨y, fun j u hu => ?_, hg⟩
   have hj : j < s := by
    have := (List.getElem?_eq_some_iff.1 hu).1
    rwa [hf] at this
   have h1 := hat j hj;rw [Go.Deep.add_add] at h1;rw [h1, hu]
  let pick : Nat → α := fun i => if h : i < len then Classical.choose (hcell i h) else default
  have hpick : ∀ i, (h : i < len) → (∀ j u, (f (pick i))[j]? = some u → w.cell? (a.add (i * s + j)) = some u) ∧ Good (pick i) := fun i h => by
   have := Classical.choose_spec (hcell i h)
   simp only [pick, dif_pos h]
   exact this
  refine ⟨(List.range len).map pick, ?_, ?_, by simp; omega⟩
  ·rw [List.length_map, List.length_range]
   rcases Nat.eq_zero_or_pos len with hz | hz
   ·subst hz
    exact ⟨by simp, _, _, rfl, hl, fun h => absurd h (by omega)⟩
   ·have h0 := (hpick 0 hz).1 0 _ (List.getElem?_eq_getElem (by rw [hf]; exact hs))
    obtain ⟨hsp, hb⟩ := cell_spot h0;have e0 : a.add (0 * s + 0) = a := by simp [Addr.add]
    rw [e0] at hsp hb;have hx : a = ⟨a.block, a.off, none⟩ := by obtain ⟨b, o, s⟩ := a; subst hsp; rfl
    rw [hx, List.flatMap_map];refine rd_of_cells _ (fun i => hf _) hs hb hl fun i hi' j u hu => ?_
    have h1 := (hpick i hi').1 j u hu;rw [add_lit_more a _ hsp] at h1
    exact h1
  ·intro y hy
   obtain ⟨i, hi', rfl⟩ := List.mem_map.1 hy
   exact (hpick i (by simpa using hi')).2
theorem fld_of {fs : Array Field} {n : Nat} {cs : List Value} {ys : List (DataW H × List MemPlace)} (hf : ∀ (i : Nat) (f : Field), fs[i]? = some f → DataW.trod enc P w base spare held n f.type ((cs.drop f.offset).take (P.cellsOf f.type)) = ys[i]?)
  {j ft off z : Nat} {f : Field} (hj : fs[j]? = some f) (h1 : f.type = ft) (h2 : f.offset = off) (h3 : P.cellsOf ft = z) : DataW.trod enc P w base spare held n ft ((cs.drop off).take z) = ys[j]? := by
 subst h1 h2 h3
 exact hf j f hj
end
section
variable {H : Type} {enc : TypeId × Value → H} {w : World} {base : Nat} {spare : Nat → Bool} {held : Bool}
theorem co_3 : Try.prog.cellsOf 3 = 1 := by kernel_rfl
set_option maxRecDepth 100000 in
theorem cells_24 {fuel : Nat} {cs : List Value} {x : DataW H × List MemPlace} (hl : cs.length = 2) (h : DataW.trod enc Try.prog w base spare held fuel 24 cs = some x) : ∃ (z0 : Int) (z1 : Int), cs = [.int .i64 z0, .int .i64 z1] := by
 obtain ⟨ys, n, _, _, _, hyl, hf⟩ := DataW.trod_struct Try.underlying24 h
 match cs, hl with
 | [u0, u1], _ =>
  match ys, hyl with
  | [y0, y1], _ =>
   have q0 : DataW.trod enc Try.prog w base spare held n 3 [u0] = some y0 := fld_of hf (j := 0) rfl rfl rfl co_3;obtain ⟨z0, hz0, _, _⟩ := DataW.trod_int Try.underlying3 q0
   injection hz0 with hz0
   subst hz0;have q1 : DataW.trod enc Try.prog w base spare held n 3 [u1] = some y1 := fld_of hf (j := 1) rfl rfl rfl co_3;obtain ⟨z1, hz1, _, _⟩ := DataW.trod_int Try.underlying3 q1
   injection hz1 with hz1
   subst hz1
   exact ⟨z0, z1, rfl⟩
theorem co_24 : Try.prog.cellsOf 24 = 2 := by kernel_rfl
set_option maxRecDepth 100000 in
theorem cells_52 {fuel : Nat} {cs : List Value} {x : DataW H × List MemPlace} (hl : cs.length = 5) (h : DataW.trod enc Try.prog w base spare held fuel 52 cs = some x) : ∃ (z0 : Int) (z1 : Int) (z2 : Int) (z3 : Int) (z4 : Int), cs = [.int .i64 z0, .int .i64 z1, .int .i64 z2, .int .i64 z3, .int .i64 z4] := by
 obtain ⟨ys, n, _, _, _, hyl, hf⟩ := DataW.trod_struct Try.underlying52 h
 match cs, hl with
 | [u0, u1, u2, u3, u4], _ =>
  match ys, hyl with
  | [y0, y1, y2, y3], _ =>
   have q0 : DataW.trod enc Try.prog w base spare held n 24 [u0, u1] = some y0 := fld_of hf (j := 0) rfl rfl rfl co_24;obtain ⟨a0, a1, e0⟩ := cells_24 rfl q0
   simp only [List.cons.injEq, and_true] at e0
   obtain ⟨rfl, rfl⟩ := e0;have q1 : DataW.trod enc Try.prog w base spare held n 3 [u2] = some y1 := fld_of hf (j := 1) rfl rfl rfl co_3;obtain ⟨z2, hz2, _, _⟩ := DataW.trod_int Try.underlying3 q1
   injection hz2 with hz2
   subst hz2;have q2 : DataW.trod enc Try.prog w base spare held n 3 [u3] = some y2 := fld_of hf (j := 2) rfl rfl rfl co_3;obtain ⟨z3, hz3, _, _⟩ := DataW.trod_int Try.underlying3 q2
   injection hz3 with hz3
   subst hz3;have q3 : DataW.trod enc Try.prog w base spare held n 3 [u4] = some y3 := fld_of hf (j := 3) rfl rfl rfl co_3;obtain ⟨z4, hz4, _, _⟩ := DataW.trod_int Try.underlying3 q3
   injection hz4 with hz4
   subst hz4
   exact ⟨a0, a1, z2, z3, z4, rfl⟩
theorem co_52 : Try.prog.cellsOf 52 = 5 := by kernel_rfl
theorem co_48 : Try.prog.cellsOf 48 = 1 := by kernel_rfl
set_option maxRecDepth 100000 in
theorem cells_50 {fuel : Nat} {cs : List Value} {x : DataW H × List MemPlace} (hl : cs.length = 2) (h : DataW.trod enc Try.prog w base spare held fuel 50 cs = some x) : ∃ (z0 : Int) (z1 : Int), cs = [.int .i64 z0, .int .i64 z1] := by
 obtain ⟨ys, n, _, _, _, hyl, hf⟩ := DataW.trod_struct Try.underlying50 h
 match cs, hl with
 | [u0, u1], _ =>
  match ys, hyl with
  | [y0, y1], _ =>
   have q0 : DataW.trod enc Try.prog w base spare held n 48 [u0] = some y0 := fld_of hf (j := 0) rfl rfl rfl co_48;obtain ⟨z0, hz0, _, _⟩ := DataW.trod_int Try.underlying48 q0
   injection hz0 with hz0
   subst hz0;have q1 : DataW.trod enc Try.prog w base spare held n 3 [u1] = some y1 := fld_of hf (j := 1) rfl rfl rfl co_3;obtain ⟨z1, hz1, _, _⟩ := DataW.trod_int Try.underlying3 q1
   injection hz1 with hz1
   subst hz1
   exact ⟨z0, z1, rfl⟩
theorem co_50 : Try.prog.cellsOf 50 = 2 := by kernel_rfl
theorem co_22 : Try.prog.cellsOf 22 = 1 := by kernel_rfl
theorem co_25 : Try.prog.cellsOf 25 = 1 := by kernel_rfl
theorem co_26 : Try.prog.cellsOf 26 = 1 := by kernel_rfl
set_option maxRecDepth 100000 in
theorem cells_28 {fuel : Nat} {cs : List Value} {x : DataW H × List MemPlace} (hl : cs.length = 6) (h : DataW.trod enc Try.prog w base spare held fuel 28 cs = some x) : ∃ (v0 : Value) (z1 : Int) (z2 : Int) (v3 : Value) (v4 : Value) (v5 : Value), cs = [v0, .int .i64 z1, .int .i64 z2, v3, v4, v5] ∧ (∃ n x, DataW.trod enc Try.prog w base spare held n 22 [v0] = some x) ∧ (∃ n x, DataW.trod enc Try.prog w base spare held n 25 [v3] = some x) ∧ (∃ n x, DataW.trod enc Try.prog w base spare held n 25 [v4] = some x) ∧ (∃ n x, DataW.trod enc Try.prog w base spare held n 26 [v5] = some x) := by
 obtain ⟨ys, n, _, _, _, hyl, hf⟩ := DataW.trod_struct Try.underlying28 h
 match cs, hl with
 | [u0, u1, u2, u3, u4, u5], _ =>
  match ys, hyl with
  | [y0, y1, y2, y3, y4], _ =>
   have q0 : DataW.trod enc Try.prog w base spare held n 22 [u0] = some y0 := fld_of hf (j := 0) rfl rfl rfl co_22;have q1 : DataW.trod enc Try.prog w base spare held n 24 [u1, u2] = some y1 := fld_of hf (j := 1) rfl rfl rfl co_24;obtain ⟨a1, a2, e1⟩ := cells_24 rfl q1
   simp only [List.cons.injEq, and_true] at e1
   obtain ⟨rfl, rfl⟩ := e1;have q2 : DataW.trod enc Try.prog w base spare held n 25 [u3] = some y2 := fld_of hf (j := 2) rfl rfl rfl co_25;have q3 : DataW.trod enc Try.prog w base spare held n 25 [u4] = some y3 := fld_of hf (j := 3) rfl rfl rfl co_25;have q4 : DataW.trod enc Try.prog w base spare held n 26 [u5] = some y4 := fld_of hf (j := 4) rfl rfl rfl co_26
   exact ⟨u0, a1, a2, u3, u4, u5, rfl, ⟨_, _, q0⟩, ⟨_, _, q2⟩, ⟨_, _, q3⟩, ⟨_, _, q4⟩⟩
theorem co_28 : Try.prog.cellsOf 28 = 6 := by kernel_rfl
theorem cells_len_28 {fuel : Nat} {v : Value} {x : DataW H × List MemPlace} (h : DataW.trod enc Try.prog w base spare held fuel 28 v.cells.toList = some x) : v.cells.toList.length = 6 := by
 obtain ⟨_, _, _, _, hlen, _, _⟩ := DataW.trod_struct Try.underlying28 h;rw [hlen]
 exact co_28
instance : Inhabited Kd := ⟨kd0⟩
instance : Inhabited Ev := ⟨ev0⟩
instance : Inhabited (List Int × Value) := ⟨([], .slice none 0 0)⟩
theorem rd_ints {fuel : Nat} {v : Value} {x : DataW H × List MemPlace} (h : DataW.trod enc Try.prog w base spare held fuel 22 [v] = some x) : ∃ l : List Int, Rd w w.heap.size 1 v l.length (ints l) ∧ l.length ≤ maxLen := by
 obtain ⟨l, h1, _, h2⟩ := rd_list (s := 1) (f := iC) (Good := fun _ => True) (fun _ => rfl) (by omega) Try.underlying22 co_3 (fun _ cs _ hl ht => by
  match cs, hl with
  | [u], _ =>
   obtain ⟨z, hz, _, _⟩ := DataW.trod_int Try.underlying3 ht
   injection hz with hz
   subst hz
   exact ⟨z, rfl, trivial⟩) h
 exact ⟨l, by rw [ints_flat]; exact h1, h2⟩
theorem rd_kds {fuel : Nat} {v : Value} {x : DataW H × List MemPlace} (h : DataW.trod enc Try.prog w base spare held fuel 26 [v] = some x) : ∃ l : List Kd, Rd w w.heap.size 5 v l.length (kdsC l) ∧ l.length ≤ maxLen := by
 obtain ⟨l, h1, _, h2⟩ := rd_list (f := kdC) (Good := fun _ => True) kdC_len (by omega) Try.underlying26 co_52 (fun _ cs _ hl ht => by
  obtain ⟨a, b, c, d, e, rfl⟩ := cells_52 hl ht
  exact ⟨⟨⟨a, b⟩, c, d, e⟩, rfl, trivial⟩) h
 exact ⟨l, h1, h2⟩
theorem rd_evs {fuel : Nat} {v : Value} {x : DataW H × List MemPlace} (h : DataW.trod enc Try.prog w base spare held fuel 29 [v] = some x) : ∃ l : List Ev, Rd w w.heap.size 2 v l.length (evsC l) ∧ l.length ≤ maxLen := by
 obtain ⟨l, h1, _, h2⟩ := rd_list (f := evC) (Good := fun _ => True) evC_len (by omega) Try.underlying29 co_50 (fun _ cs _ hl ht => by
  obtain ⟨a, b, rfl⟩ := cells_50 hl ht
  exact ⟨⟨a, b⟩, rfl, trivial⟩) h
 exact ⟨l, h1, h2⟩
theorem flat_snd {α β : Type} : ∀ l : List (α × β), l.flatMap (fun p => [p.2]) = l.map Prod.snd
 | [] => rfl
 | (a, b) :: l => by simp [flat_snd l]
theorem rd_rows {fuel : Nat} {v : Value} {x : DataW H × List MemPlace} (h : DataW.trod enc Try.prog w base spare held fuel 25 [v] = some x) : ∃ (l : List (List Int)) (vs : List Value), RdLL iC 1 w w.heap.size v l vs ∧ l.length ≤ maxLen := by
 obtain ⟨l, h1, h3, h2⟩ := rd_list (α := List Int × Value) (s := 1) (f := fun p => [p.2]) (Good := fun p => Rd w w.heap.size 1 p.2 p.1.length (ints p.1) ∧ p.1.length ≤ maxLen) (fun _ => rfl) (by omega) Try.underlying25 co_22 (fun _ cs _ hl ht => by
  match cs, hl with
  | [u], _ =>
   obtain ⟨l, h1, h2⟩ := rd_ints ht
   exact ⟨(l, u), rfl, h1, h2⟩) h
 rw [flat_snd] at h1;refine ⟨l.map Prod.fst, l.map Prod.snd, ⟨by simp, by simpa using h1, fun i hi => ?_⟩, by simpa using h2⟩
 have hi' : i < l.length := by simpa using hi
 have e1 : (l.map Prod.fst).getD i [] = l[i].1 := by simp [hi']
 have e2 : (l.map Prod.snd).getD i undef = l[i].2 := by simp [hi']
 rw [e1, e2, ← ints_flat]
 exact (h3 _ (List.getElem_mem hi')).1
theorem rules_of {v : Value} {d : DataW H} {p : List MemPlace} (h : DataW.Trod enc Try.prog w base spare held 28 v d p) : ∃ (ru : Rules) (ua up : List Value) (vl va vp vk : Value), v = rulesV vl va vp vk ru ∧ RdRules w w.heap.size vl va vp vk ru ua up := by
 obtain ⟨fuel, hf⟩ := h;obtain ⟨a, lo, hi, b, c, k, he, ⟨_, _, ha⟩, ⟨_, _, hb⟩, ⟨_, _, hc⟩, ⟨_, _, hk⟩⟩ := cells_28 (cells_len_28 hf) hf;obtain ⟨l, h1, _⟩ := rd_ints ha;obtain ⟨m, us, h3, _⟩ := rd_rows hb;obtain ⟨s, ut, h5, _⟩ := rd_rows hc;obtain ⟨q, h7, _⟩ := rd_kds hk;refine ⟨⟨l, ⟨lo, hi⟩, m, s, q⟩, us, ut, a, b, c, k, ?_, ⟨h1, h3, h5, h7⟩⟩
 unfold rulesV
 cases v with
  | agg cs =>
   have : cs = #[a, .int .i64 lo, .int .i64 hi, b, c, k] := by
    apply Array.ext'
    simpa [Value.cells] using he
   rw [this]
  | _ => simp [Value.cells] at he
end
end Go.Proofs.Ytdkedhcbdbpccaa
namespace Go.Proofs.Ytdkedhcbdbpccaa
open Go Go.RowKit
section
variable {n : Nat} {σ : Sg} {w : World} {dst : Option Tmp} {ty : TypeId} {pos : String} {af : Array Edge} {g : Option (Nat × Bool)} {x y z : Operand} {at' : Array TypeId}
theorem bs_32_0 (a : Act) (_ : Env n σ a) : (execOp a.eval ⟨dst, .buildSlice 32 0 #[], ty, pos, af, g⟩).run Try.prog w = .ok (.value (.slice (some ⟨w.heap.size, 0, none⟩) 0 0)) (w.alloc (.cells #[] 46)) := by
 simp only [execOp]
 go_simp
end
end Go.Proofs.Ytdkedhcbdbpccaa
namespace Go.Proofs.Ytdkedhcbdbpccaa
open Go Go.RowKit
def audROne (ru : Rules) (u : RT) (i c b : Nat) : List Br := if (forbR ru u b c).1 = true then [⟨i, b, (forbR ru u b c).2⟩] else []
def audRK (ru : Rules) (u : RT) (i c n : Nat) : List Br := (List.range n).flatMap (audROne ru u i c)
def audRAt (ru : Rules) (u : RT) (i : Nat) (x : Ev) : List Br := if x.kind = 1 then audRK ru u i x.number.toNat ru.levels.length else []
def audRL (ru : Rules) (l : List Ev) (n : Nat) : List Br := (List.range n).flatMap fun i => audRAt ru (afterR ru (l.take i)) i (l.getD i ev0)
theorem audRL_succ {ru : Rules} {l : List Ev} {n : Nat} : audRL ru l (n + 1) = audRL ru l n ++ audRAt ru (afterR ru (l.take n)) n (l.getD n ev0) := flatI_succ _
theorem audRK_len {ru : Rules} {u : RT} {i c : Nat} : ∀ n, (audRK ru u i c n).length ≤ n
 | 0 => by simp [audRK]
 | n + 1 => by
  have := audRK_len (ru := ru) (u := u) (i := i) (c := c) n;rw [audRK, flatI_succ, List.length_append, ← audRK]
  unfold audROne
  split <;> simp <;> omega
theorem audRL_len {ru : Rules} {l : List Ev} (h8 : ru.levels.length ≤ 8) : ∀ n, (audRL ru l n).length ≤ n * 8
 | 0 => by simp [audRL]
 | n + 1 => by
  have := audRL_len (l := l) h8 n;rw [audRL_succ, List.length_append]
  unfold audRAt
  split
  ·have := audRK_len (ru := ru) (u := afterR ru (l.take n)) (i := n) (c := (l.getD n ev0).number.toNat) ru.levels.length
   omega
  ·simp; omega
theorem audRAt_load {ru : Rules} {u : RT} {i k : Nat} {x : Ev} (h : x.kind = 1) (e : x.number = ((k : Nat) : Int)) : audRAt ru u i x = audRK ru u i k ru.levels.length := by rw [audRAt, if_pos h, e, Int.toNat_natCast]
theorem audRAt_wash {ru : Rules} {u : RT} {i : Nat} {x : Ev} (h : ¬x.kind = 1) : audRAt ru u i x = [] := if_neg h
theorem audRK_succ {ru : Rules} {u : RT} {i c n : Nat} : audRK ru u i c (n + 1) = audRK ru u i c n ++ if (forbR ru u n c).1 = true then [⟨i, n, (forbR ru u n c).2⟩] else [] := flatI_succ _
theorem take_all {ru : Rules} {l : List Ev} (hv : l.all (evB ru) = true) (i : Nat) : (l.take i).all (evB ru) = true := List.all_eq_true.2 fun x hx => List.all_eq_true.1 hv x (List.mem_of_mem_take hx)
theorem afterR_ok {ru : Rules} (hro : RulesOk ru) {l : List Ev} (hv : l.all (evB ru) = true) : RtOk ru.levels.length l.length (afterR ru l) := by
 have key : ∀ i, i ≤ l.length → RtOk ru.levels.length i (afterR ru (l.take i)) := fun i => by
  induction i with
  | zero => intro _; exact clean_ok
  | succ i ih =>
   intro hi;rw [afterR_succ (show i < l.length by omega)]
   exact step_ok hro (ih (by omega)) (by rw [getD_in (show i < l.length by omega)]; exact List.all_eq_true.1 hv _ (List.getElem_mem _))
 have := key l.length (Nat.le_refl _)
 rwa [List.take_length] at this
set_option maxHeartbeats 2000000 in
theorem rAudit_any {ru : Rules} {ua up : List Value} {vl va vp vk : Value} {w : World} {B : Nat} (hr : RdRules w B vl va vp vk ru ua up) (hB : B ≤ w.heap.size) (hro : RulesOk ru) {l : List Ev} {v : Value} (hl : Rd w B 2 v l.length (evsC l)) (hv : l.all (evB ru) = true) (hn : l.length ≤ 100) :
  Calls Try.prog 19 #[rulesV vl va vp vk ru, v] w fun e w' => (∃ u, e = .returned u ∧ w'.ownsRow w.heap.size 46 3 u (audRL ru l l.length).length (brsC (audRL ru l l.length))) ∧ Below w.heap.size w w' := by
 obtain ⟨Al, cl, rfl, _⟩ := hr.levels.shape;obtain ⟨Aa, ca, rfl, _⟩ := hr.allow.rd.shape;obtain ⟨Ap, cp, rfl, _⟩ := hr.apart.rd.shape;obtain ⟨Ak, ck, rfl, _⟩ := hr.kinds.shape;obtain ⟨Ae, ce, rfl, hce⟩ := hl.shape;have hn8 := hro.n8;have hbw := Below.refl w.heap.size w
 unfold rulesV
 refine EC.enter 59 Try.func19 rfl rfl rfl (EC.seq (EC.region (EL.newP (bx_28 rfl) rfl ?_)));intro g1 w1 q1 hb1 hg1 hl1;have bhbw_1 := Nat.le_trans hbw.size hg1;have hbg1 : w.heap.size ≤ g1 := Nat.le_trans hbw.size hg1;replace hbw := bo_ hbw hb1;clear hb1 hg1 hl1;refine EL.as rfl rfl (EL.nil (EX.seq (EC.seq (EC.region (EL.newS (bs_32_0) rfl ?_)))));intro g2 w2 q2 hb2 hg2 hl2;have n1_2 := q1.na hg2;have bhbw_2 := Nat.le_trans hbw.size hg2;have hbg2 : w.heap.size ≤ g2 := Nat.le_trans hbw.size hg2;replace q1 := q1.bl hb2;replace hbw := bo_ hbw hb2;clear hb2 hg2 hl2;have hA : w2.ownsRow w.heap.size 46 3 (.slice (some ⟨g2, 0, none⟩) 0 0) 0 [] := own_empty 3 q2 hbg2;refine EL.as rfl rfl (EL.nil (EX.seq (EC.seq (EC.seq (EC.region (EL.as rfl rfl (EL.nil (EX.seq (EC.block ?_)))))))));refine EC.loopD [5, 6, 7, 8, 9, 10, 12, 13, 14, 15, 16, 17, 18, 19, 20, 21, 22, 23, 24, 25, 26, 27, 28, 29, 30, 31, 32, 33, 34, 35, 36, 37, 38, 39, 40, 41, 42, 43, 44, 45, 46, 47, 48, 49, 50, 51, 52, 53, 54, 55, 56, 57] (fun x : Nat × Value => [(6, .int .i64 (x.1 : Nat)), (5, x.2)]) (fun x W => x.1 ≤ l.length ∧ W.ownsRow w.heap.size 46 3 x.2 (audRL ru l x.1).length (brsC (audRL ru l x.1)) ∧ Blk W g1 28 #[.slice Al ru.levels.length cl, .int .i64 ru.fade.lo, .int .i64 ru.fade.hi, .slice Aa ru.allow.length ca, .slice Ap ru.apart.length cp, .slice Ak ru.kinds.length ck] ∧ Below w.heap.size w W) (fun x => l.length - x.1) (0, .slice (some ⟨g2, 0, none⟩) 0 0) ⟨Nat.zero_le _, hA, q1, hbw⟩ ⟨rfl, rfl, trivial⟩ ?_
 clear hA q1 hbw
 rintro ⟨i, v5⟩ wx ⟨hi, hA, q1, hbw⟩
 dsimp only at hi hA
 by_cases hlt : i < l.length
 ·
  obtain ⟨be, oe, eAe, _, c0, c1⟩ := evs_cells l i hlt w B _ _ _ hl;have hev : evB ru (l.getD i ev0) = true := by rw [getD_in hlt]; exact List.all_eq_true.1 hv _ (List.getElem_mem _)
  have hrt := afterR_ok hro (take_all hv i);refine EC.seq (EC.seq (EC.region (EL.mv rfl rfl (EL.mv rfl rfl (EL.val (ln_29 rfl) rfl ?_)))));refine EL.val (x_lss rfl rfl (decide_eq_true (show (((i : Nat) : Int) < ((l.length : Nat) : Int)) by omega))) rfl ?_
  refine EL.nil (EX.seq (EC.yes rfl (EC.skip (EX.seq (EC.seq (EC.block (EC.seq ?_)))))));have lt_1 := q1.lt;refine EC.regionP [[], [], [], [1, 2], [0, 1, 2, 3], [], [0, 1, 2, 3, 4, 5]] 6 [5] (phi (fun i_ r => match i_ with | 0 => r 0 = .agg #[.slice Al ru.levels.length cl, .int .i64 ru.fade.lo, .int .i64 ru.fade.hi, .slice Aa ru.allow.length ca, .slice Ap ru.apart.length cp, .slice Ak ru.kinds.length ck] | 1 => r 1 = .slice Ae l.length ce | 2 => r 2 = .int .i64 (i : Nat) | 3 => r 3 = .slice (some ⟨be, oe, none⟩) i ce | _ => True) [(4, fun r w_ => ∃ A1 c1 A2 c2, r 4 = .agg #[.slice A1 ru.levels.length c1, .slice A2 ru.levels.length c2] ∧ w_.ownsRow w.heap.size 24 2 (.slice A1 ru.levels.length c1) ru.levels.length (bdsC (afterR ru (l.take i)).res) ∧ w_.ownsRow w.heap.size 3 1 (.slice A2 ru.levels.length c2) ru.levels.length (ints (afterR ru (l.take i)).aft)), (5, fun r w_ => ∃ g_, r 5 = .pointer (some ⟨g_, 0, none⟩) ∧ Blk w_ g_ 62 #[.slice none 0 0, .slice none 0 0])]) (by kernel_rfl) rfl rfl (phi_cons mono_rt (phi_cons mono_alloc (phi_nil))) (fun i_ hi_ => ?_) ?_
  ·match i_, hi_ with
   | 0, _ =>
    intro val w1 a hb ha hd;have ha := ha.s0 (d := 2) rfl
    exact hs_val ha rfl rfl (ld_28 rfl ((q1.below hb q1.lt).at (j := 0) rfl) ((q1.below hb q1.lt).at (j := 1) rfl) ((q1.below hb q1.lt).at (j := 2) rfl) ((q1.below hb q1.lt).at (j := 3) rfl) ((q1.below hb q1.lt).at (j := 4) rfl) ((q1.below hb q1.lt).at (j := 5) rfl)) rfl rfl
   | 1, _ =>
    intro val w1 a hb ha hd;have ha := ha.s0 (d := 1) rfl
    exact hs_val ha rfl rfl (x_move rfl) rfl rfl
   | 2, _ =>
    intro val w1 a hb ha hd;have ha := ha.s0 (d := 6) rfl
    exact hs_val ha rfl rfl (x_move rfl) rfl rfl
   | 3, _ =>
    intro val w1 a hb ha hd;have e1 : val 1 = .slice Ae l.length ce := hd 1 (memB_mem.1 rfl);have e2 : val 2 = .int .i64 (i : Nat) := hd 2 (memB_mem.1 rfl);have ha := ha.sub (Sub.ins (d := 20) (Sub.ins (d := 19) (Sub.nil _) (dep_get rfl e1)) (dep_get rfl e2))
    exact hs_val ha rfl rfl (slh_29 (by show some (Value.slice Ae _ _) = _; rw [eAe]) rfl (show i ≤ ce by omega)) rfl rfl
   | 4, _ =>
    intro val w1 a hb ha hd;have e0 : val 0 = .agg #[.slice Al ru.levels.length cl, .int .i64 ru.fade.lo, .int .i64 ru.fade.hi, .slice Aa ru.allow.length ca, .slice Ap ru.apart.length cp, .slice Ak ru.kinds.length ck] := hd 0 (memB_mem.1 rfl);have e3 : val 3 = .slice (some ⟨be, oe, none⟩) i ce := hd 3 (memB_mem.1 rfl);have ha := ha.sub (Sub.ins (d := 21) (Sub.ins (d := 18) (Sub.nil _) (dep_get rfl e0)) (dep_get rfl e3));refine hs_call ha rfl rfl (cl_27 rfl rfl) (After_any (l := l.take i) (hr.below ((hbw.trans (hb.mono hbw.size)).mono hB)) (Nat.le_trans hB (Nat.le_trans hbw.size hb.size)) hro (by have h0 := rd_pre (m := i) (hl.below ((hbw.trans (hb.mono hbw.size)).mono hB)) (by omega); rw [eAe] at h0; exact h0) (take_all hv i) (by rw [List.length_take]; omega)) rfl ?_
    rintro e w' ⟨⟨B1, d1, B2, d2, rfl, p1, p2, _⟩, hb'⟩
    exact ⟨_, rfl, hb', ⟨B1, d1, B2, d2, rfl, own_less p1 (Nat.le_trans hbw.size hb.size), own_less p2 (Nat.le_trans hbw.size hb.size)⟩⟩
   | 5, _ =>
    intro val w1 a hb ha hd;have ha := ha.sub (Sub.nil _)
    exact hs_newP ha rfl rfl al_62 (fun g w' hq _ _ => ⟨g, rfl, hq⟩)
   | k + 6, h => exact absurd h (by omega)
  ·intro val wR5 hb halc hd
   have e0 : val 0 = .agg #[.slice Al ru.levels.length cl, .int .i64 ru.fade.lo, .int .i64 ru.fade.hi, .slice Aa ru.allow.length ca, .slice Ap ru.apart.length cp, .slice Ak ru.kinds.length ck] := hd 0 (by omega)
   have e1 : val 1 = .slice Ae l.length ce := hd 1 (by omega)
   have e2 : val 2 = .int .i64 (i : Nat) := hd 2 (by omega)
   have e3 : val 3 = .slice (some ⟨be, oe, none⟩) i ce := hd 3 (by omega)
   obtain ⟨B1, d1, B2, d2, e4, ho1, ho2⟩ := hd 4 (by omega)
   obtain ⟨ga5_5, e5, qa5_5⟩ := hd 5 (by omega)
   refine EL.ends (cs := [.agg #[.slice Al ru.levels.length cl, .int .i64 ru.fade.lo, .int .i64 ru.fade.hi, .slice Aa ru.allow.length ca, .slice Ap ru.apart.length cp, .slice Ak ru.kinds.length ck], .slice Ae l.length ce, .int .i64 (i : Nat), .slice (some ⟨be, oe, none⟩) i ce, .agg #[.slice B1 ru.levels.length d1, .slice B2 ru.levels.length d2], .pointer (some ⟨ga5_5, 0, none⟩)]) ⟨e0, e1, e2, e3, e4, e5, trivial⟩ rfl ?_;replace q1 := q1.bl hb;replace hA := own_below hA hb (Nat.le_refl _);have bge3 := alc_ge halc (i := 5) rfl rfl e5;have n1_3 : g1 ≠ ga5_5 := Nat.ne_of_lt (Nat.lt_of_lt_of_le lt_1 bge3);have bhbw_3 := Nat.le_trans hbw.size bge3;replace hbw := bo_ hbw hb;clear hb;refine EL.store rfl rfl qa5_5 sz_62 rfl rfl rfl rfl ?_;intro w4 hq4 hg4;replace q1 := q1.gr hg4 n1_3;replace hA := own_type hA qa5_5 rfl hg4;replace ho1 := own_type ho1 qa5_5 rfl hg4;replace ho2 := own_type ho2 qa5_5 rfl hg4;replace hbw := below_store hbw hg4 bhbw_3;replace qa5_5 := hq4;clear hg4 hq4;refine EL.nil (EX.seq (EC.seq (EC.region (EL.as rfl rfl (EL.nil (EX.seq (EC.block ?_)))))))
   rcases ev_one hev with ⟨hk2, k, ek, hk⟩ | ⟨hk1, k, ek, hk⟩
   ·
    have hk1 : ¬(l.getD i ev0).kind = 1 := by omega
    refine EC.loopD [5, 8, 9, 10, 23, 24, 25, 26, 27, 28, 29, 30, 31, 32, 33, 34, 35, 36, 37, 38, 39, 40, 41, 42, 43, 44, 45, 46, 47, 48, 49, 50, 51, 52, 53, 54, 55, 56, 57] (fun x : Nat × Value => [(8, .int .i64 (x.1 : Nat)), (5, x.2)]) (fun x W => x.1 ≤ 0 ∧ W.ownsRow w.heap.size 46 3 x.2 (audRL ru l i).length (brsC (audRL ru l i)) ∧ Blk W g1 28 #[.slice Al ru.levels.length cl, .int .i64 ru.fade.lo, .int .i64 ru.fade.hi, .slice Aa ru.allow.length ca, .slice Ap ru.apart.length cp, .slice Ak ru.kinds.length ck] ∧ Blk W ga5_5 62 #[.slice B1 ru.levels.length d1, .slice B2 ru.levels.length d2] ∧ W.ownsRow w.heap.size 24 2 (.slice B1 ru.levels.length d1) ru.levels.length (bdsC (afterR ru (l.take i)).res) ∧ W.ownsRow w.heap.size 3 1 (.slice B2 ru.levels.length d2) ru.levels.length (ints (afterR ru (l.take i)).aft) ∧ Below w.heap.size w W) (fun x => ru.levels.length - x.1) (0, v5) ⟨Nat.zero_le _, hA, q1, qa5_5, ho1, ho2, hbw⟩ ⟨rfl, rfl, trivial⟩ ?_
    clear hA q1 qa5_5 ho1 ho2 hbw
    rintro ⟨p, v6⟩ wp ⟨hp, hA, q1, qa5_5, ho1, ho2, hbw⟩
    dsimp only at hp hA
    have hn1 := hro.n1;have hp0 : p = 0 := by omega
    refine EC.seq (EC.seq (EC.region (EL.mv rfl rfl (EL.val (fa_28_0 rfl) rfl (EL.val (ld_22 rfl (q1.at (j := 0) rfl)) rfl (EL.val (ln_22 rfl) rfl ?_))))));refine EL.val (x_lss rfl rfl (decide_eq_true (show (((p : Nat) : Int) < ((ru.levels.length : Nat) : Int)) by omega))) rfl ?_
    refine EL.mv rfl rfl (EL.valg rfl rfl (x_move rfl) rfl (EL.valg rfl rfl (x_move rfl) rfl ?_));refine EL.valg rfl rfl (ix_29 (by show some (Value.slice Ae _ _) = _; rw [eAe]) rfl hlt) rfl ?_
    refine EL.valg rfl rfl (fa_50_0 rfl) rfl (EL.valg rfl rfl (ld_48 rfl (below_load hbw c0)) rfl (EL.valg rfl rfl (x_eql (r := false) rfl rfl (decide_eq_false hk1)) rfl (EL.val (x_pick_t rfl rfl) rfl (EL.nil (EX.seq (EC.no rfl (EC.exit (EX.seq_exit (EX.seq_exit ?_)))))))));refine EX.blk_here (EX.blk (EX.seq (EC.region (EL.mv rfl rfl ?_))));refine EL.val (x_add rfl rfl (c := ((i + 1 : Nat) : Int)) ((IntWalk.i64_in _ ⟨by first | omega | (simp only; omega), by first | omega | (simp only; omega)⟩).trans (by first | omega | (simp only; omega)))) rfl ?_
    refine EL.as rfl rfl (EL.nil ?_);refine EX.roundD (i + 1, v6) ⟨rfl, rfl, trivial⟩ (by repeat first | with_reducible exact Sub.refl _ | refine sub_past rfl ?_ | exact Sub.refl _ | refine sub_del rfl ?_ | refine sub_insL_nil ?_) ⟨hlt, by simp only; rw [audRL_succ, audRAt_wash hk1, List.append_nil]; exact hA, q1, hbw⟩ (by simp only; omega)
   ·
    refine EC.loopD [5, 8, 9, 10, 23, 24, 25, 26, 27, 28, 29, 30, 31, 32, 33, 34, 35, 36, 37, 38, 39, 40, 41, 42, 43, 44, 45, 46, 47, 48, 49, 50, 51, 52, 53, 54, 55, 56, 57] (fun x : Nat × Value => [(8, .int .i64 (x.1 : Nat)), (5, x.2)]) (fun x W => x.1 ≤ ru.levels.length ∧ W.ownsRow w.heap.size 46 3 x.2 (audRL ru l i ++ audRK ru (afterR ru (l.take i)) i k x.1).length (brsC (audRL ru l i ++ audRK ru (afterR ru (l.take i)) i k x.1)) ∧ Blk W g1 28 #[.slice Al ru.levels.length cl, .int .i64 ru.fade.lo, .int .i64 ru.fade.hi, .slice Aa ru.allow.length ca, .slice Ap ru.apart.length cp, .slice Ak ru.kinds.length ck] ∧ Blk W ga5_5 62 #[.slice B1 ru.levels.length d1, .slice B2 ru.levels.length d2] ∧ W.ownsRow w.heap.size 24 2 (.slice B1 ru.levels.length d1) ru.levels.length (bdsC (afterR ru (l.take i)).res) ∧ W.ownsRow w.heap.size 3 1 (.slice B2 ru.levels.length d2) ru.levels.length (ints (afterR ru (l.take i)).aft) ∧ Below w.heap.size w W) (fun x => ru.levels.length - x.1) (0, v5) ⟨Nat.zero_le _, by simpa [audRK] using hA, q1, qa5_5, ho1, ho2, hbw⟩ ⟨rfl, rfl, trivial⟩ ?_
    clear hA q1 qa5_5 ho1 ho2 hbw
    rintro ⟨p, v6⟩ wp ⟨hp, hA, q1, qa5_5, ho1, ho2, hbw⟩
    dsimp only at hp hA
    by_cases hltp : p < ru.levels.length
    ·
     refine EC.seq (EC.seq (EC.region (EL.mv rfl rfl (EL.val (fa_28_0 rfl) rfl (EL.val (ld_22 rfl (q1.at (j := 0) rfl)) rfl (EL.val (ln_22 rfl) rfl ?_))))));refine EL.val (x_lss rfl rfl (decide_eq_true (show (((p : Nat) : Int) < ((ru.levels.length : Nat) : Int)) by omega))) rfl ?_
     refine EL.mv rfl rfl (EL.valg rfl rfl (x_move rfl) rfl (EL.valg rfl rfl (x_move rfl) rfl ?_));refine EL.valg rfl rfl (ix_29 (by show some (Value.slice Ae _ _) = _; rw [eAe]) rfl hlt) rfl ?_
     refine EL.valg rfl rfl (fa_50_0 rfl) rfl (EL.valg rfl rfl (ld_48 rfl (below_load hbw c0)) rfl (EL.valg rfl rfl (x_eql (r := true) rfl rfl (decide_eq_true hk1)) rfl (EL.val (x_pick_t rfl rfl) rfl (EL.nil (EX.seq (EC.yes rfl (EC.skip (EX.seq (EC.seq ?_)))))))));refine EC.block (EC.seq ?_);have lt_1 := q1.lt;have lt_3 := qa5_5.lt;refine EC.regionP [[], [], [], [], [], [3, 4], [3, 4, 5], [3, 4, 5, 6], [0, 1, 2, 3, 4, 5, 6, 7], [0, 1, 2, 3, 4, 5, 6, 7, 8], [0, 1, 2, 3, 4, 5, 6, 7, 8, 9], [0, 1, 2, 3, 4, 5, 6, 7, 8, 9], [0, 1, 2, 3, 4, 5, 6, 7, 8, 9, 10], [0, 1, 2, 3, 4, 5, 6, 7, 8, 9, 10, 11, 12]] 13 [] (phi (fun i_ r => match i_ with | 0 => r 0 = .agg #[.slice Al ru.levels.length cl, .int .i64 ru.fade.lo, .int .i64 ru.fade.hi, .slice Aa ru.allow.length ca, .slice Ap ru.apart.length cp, .slice Ak ru.kinds.length ck] | 1 => r 1 = .agg #[.slice B1 ru.levels.length d1, .slice B2 ru.levels.length d2] | 2 => r 2 = .int .i64 (p : Nat) | 3 => r 3 = .slice Ae l.length ce | 4 => r 4 = .int .i64 (i : Nat) | 5 => r 5 = .pointer (some ⟨be, oe + i * 2, none⟩) | 6 => r 6 = .pointer (some ⟨be, oe + i * 2 + 1, none⟩) | 7 => r 7 = .int .i64 (k : Nat) | 8 => r 8 = .tuple #[.bool (forbR ru (afterR ru (l.take i)) p k).1, .bool (forbR ru (afterR ru (l.take i)) p k).2] | 9 => r 9 = .tuple #[.bool (forbR ru (afterR ru (l.take i)) p k).1, .bool (forbR ru (afterR ru (l.take i)) p k).2] | 10 => r 10 = .bool (forbR ru (afterR ru (l.take i)) p k).1 | 11 => r 11 = .bool (forbR ru (afterR ru (l.take i)) p k).2 | 12 => r 12 = .bool (forbR ru (afterR ru (l.take i)) p k).1 | _ => True) []) (by kernel_rfl) rfl rfl (phi_nil) (fun i_ hi_ => ?_) ?_
     ·match i_, hi_ with
      | 0, _ =>
       intro val w1 a hb ha hd;have ha := ha.s0 (d := 2) rfl
       exact hs_val ha rfl rfl (ld_28 rfl ((q1.below hb q1.lt).at (j := 0) rfl) ((q1.below hb q1.lt).at (j := 1) rfl) ((q1.below hb q1.lt).at (j := 2) rfl) ((q1.below hb q1.lt).at (j := 3) rfl) ((q1.below hb q1.lt).at (j := 4) rfl) ((q1.below hb q1.lt).at (j := 5) rfl)) rfl rfl
      | 1, _ =>
       intro val w1 a hb ha hd;have ha := ha.s0 (d := 7) rfl
       exact hs_val ha rfl rfl (ld_62 rfl ((qa5_5.below hb qa5_5.lt).at (j := 0) rfl) ((qa5_5.below hb qa5_5.lt).at (j := 1) rfl)) rfl rfl
      | 2, _ =>
       intro val w1 a hb ha hd;have ha := ha.s0 (d := 8) rfl
       exact hs_val ha rfl rfl (x_move rfl) rfl rfl
      | 3, _ =>
       intro val w1 a hb ha hd;have ha := ha.s0 (d := 1) rfl
       exact hs_val ha rfl rfl (x_move rfl) rfl rfl
      | 4, _ =>
       intro val w1 a hb ha hd;have ha := ha.s0 (d := 6) rfl
       exact hs_val ha rfl rfl (x_move rfl) rfl rfl
      | 5, _ =>
       intro val w1 a hb ha hd;have e3 : val 3 = .slice Ae l.length ce := hd 3 (memB_mem.1 rfl);have e4 : val 4 = .int .i64 (i : Nat) := hd 4 (memB_mem.1 rfl);have ha := ha.sub (Sub.ins (d := 43) (Sub.ins (d := 42) (Sub.nil _) (dep_get rfl e3)) (dep_get rfl e4))
       exact hs_val ha rfl rfl (ix_29 (by show some (Value.slice Ae _ _) = _; rw [eAe]) rfl hlt) rfl rfl
      | 6, _ =>
       intro val w1 a hb ha hd;have e5 : val 5 = .pointer (some ⟨be, oe + i * 2, none⟩) := hd 5 (memB_mem.1 rfl);have ha := ha.s1 (d := 44) rfl e5
       exact hs_val ha rfl rfl (fa_50_1 rfl) rfl rfl
      | 7, _ =>
       intro val w1 a hb ha hd;have e6 : val 6 = .pointer (some ⟨be, oe + i * 2 + 1, none⟩) := hd 6 (memB_mem.1 rfl);have ha := ha.s1 (d := 45) rfl e6
       exact hs_val ha rfl rfl (ld_3 rfl (below_load hb (below_load hbw (ek ▸ c1)))) rfl rfl
      | 8, _ =>
       intro val w1 a hb ha hd;have e0 : val 0 = .agg #[.slice Al ru.levels.length cl, .int .i64 ru.fade.lo, .int .i64 ru.fade.hi, .slice Aa ru.allow.length ca, .slice Ap ru.apart.length cp, .slice Ak ru.kinds.length ck] := hd 0 (memB_mem.1 rfl);have e1 : val 1 = .agg #[.slice B1 ru.levels.length d1, .slice B2 ru.levels.length d2] := hd 1 (memB_mem.1 rfl);have e2 : val 2 = .int .i64 (p : Nat) := hd 2 (memB_mem.1 rfl);have e7 : val 7 = .int .i64 (k : Nat) := hd 7 (memB_mem.1 rfl);have ha := ha.sub (Sub.ins (d := 46) (Sub.ins (d := 41) (Sub.ins (d := 40) (Sub.ins (d := 39) (Sub.nil _) (dep_get rfl e0)) (dep_get rfl e1)) (dep_get rfl e2)) (dep_get rfl e7));refine hs_call ha rfl rfl (cl_54 rfl rfl rfl rfl) (Forbids_any (hr.below ((hbw.trans (hb.mono hbw.size)).mono hB)) (Nat.le_trans hB (Nat.le_trans hbw.size hb.size)) hro hrt (Rd.of_own (own_below ho1 hb (Nat.le_refl _))) (Rd.of_own (own_below ho2 hb (Nat.le_refl _))) (Nat.le_refl _) hltp hk) rfl ?_
       rintro e w' ⟨rfl, hb'⟩
       exact ⟨_, rfl, hb', rfl⟩
      | 9, _ =>
       intro val w1 a hb ha hd;have e8 : val 8 = .tuple #[.bool (forbR ru (afterR ru (l.take i)) p k).1, .bool (forbR ru (afterR ru (l.take i)) p k).2] := hd 8 (memB_mem.1 rfl);have ha := ha.s1 (d := 47) rfl e8
       exact hs_val ha rfl rfl (x_move rfl) rfl rfl
      | 10, _ =>
       intro val w1 a hb ha hd;have e9 : val 9 = .tuple #[.bool (forbR ru (afterR ru (l.take i)) p k).1, .bool (forbR ru (afterR ru (l.take i)) p k).2] := hd 9 (memB_mem.1 rfl);have ha := ha.s1 (d := 38) rfl e9
       exact hs_val ha rfl rfl (x_extract rfl rfl) rfl rfl
      | 11, _ =>
       intro val w1 a hb ha hd;have e9 : val 9 = .tuple #[.bool (forbR ru (afterR ru (l.take i)) p k).1, .bool (forbR ru (afterR ru (l.take i)) p k).2] := hd 9 (memB_mem.1 rfl);have ha := ha.s1 (d := 38) rfl e9
       exact hs_val ha rfl rfl (x_extract rfl rfl) rfl rfl
      | 12, _ =>
       intro val w1 a hb ha hd;have e10 : val 10 = .bool (forbR ru (afterR ru (l.take i)) p k).1 := hd 10 (memB_mem.1 rfl);have ha := ha.s1 (d := 48) rfl e10
       exact hs_val ha rfl rfl (x_assign rfl) rfl rfl
      | k + 13, h => exact absurd h (by omega)
     ·intro val wR9 hb halc hd
      have e0 : val 0 = .agg #[.slice Al ru.levels.length cl, .int .i64 ru.fade.lo, .int .i64 ru.fade.hi, .slice Aa ru.allow.length ca, .slice Ap ru.apart.length cp, .slice Ak ru.kinds.length ck] := hd 0 (by omega)
      have e1 : val 1 = .agg #[.slice B1 ru.levels.length d1, .slice B2 ru.levels.length d2] := hd 1 (by omega)
      have e2 : val 2 = .int .i64 (p : Nat) := hd 2 (by omega)
      have e3 : val 3 = .slice Ae l.length ce := hd 3 (by omega)
      have e4 : val 4 = .int .i64 (i : Nat) := hd 4 (by omega)
      have e5 : val 5 = .pointer (some ⟨be, oe + i * 2, none⟩) := hd 5 (by omega)
      have e6 : val 6 = .pointer (some ⟨be, oe + i * 2 + 1, none⟩) := hd 6 (by omega)
      have e7 : val 7 = .int .i64 (k : Nat) := hd 7 (by omega)
      have e8 : val 8 = .tuple #[.bool (forbR ru (afterR ru (l.take i)) p k).1, .bool (forbR ru (afterR ru (l.take i)) p k).2] := hd 8 (by omega)
      have e9 : val 9 = .tuple #[.bool (forbR ru (afterR ru (l.take i)) p k).1, .bool (forbR ru (afterR ru (l.take i)) p k).2] := hd 9 (by omega)
      have e10 : val 10 = .bool (forbR ru (afterR ru (l.take i)) p k).1 := hd 10 (by omega)
      have e11 : val 11 = .bool (forbR ru (afterR ru (l.take i)) p k).2 := hd 11 (by omega)
      have e12 : val 12 = .bool (forbR ru (afterR ru (l.take i)) p k).1 := hd 12 (by omega)
      refine EL.ends (cs := [.agg #[.slice Al ru.levels.length cl, .int .i64 ru.fade.lo, .int .i64 ru.fade.hi, .slice Aa ru.allow.length ca, .slice Ap ru.apart.length cp, .slice Ak ru.kinds.length ck], .agg #[.slice B1 ru.levels.length d1, .slice B2 ru.levels.length d2], .int .i64 (p : Nat), .slice Ae l.length ce, .int .i64 (i : Nat), .pointer (some ⟨be, oe + i * 2, none⟩), .pointer (some ⟨be, oe + i * 2 + 1, none⟩), .int .i64 (k : Nat), .tuple #[.bool (forbR ru (afterR ru (l.take i)) p k).1, .bool (forbR ru (afterR ru (l.take i)) p k).2], .tuple #[.bool (forbR ru (afterR ru (l.take i)) p k).1, .bool (forbR ru (afterR ru (l.take i)) p k).2], .bool (forbR ru (afterR ru (l.take i)) p k).1, .bool (forbR ru (afterR ru (l.take i)) p k).2, .bool (forbR ru (afterR ru (l.take i)) p k).1]) ⟨e0, e1, e2, e3, e4, e5, e6, e7, e8, e9, e10, e11, e12, trivial⟩ rfl ?_;replace q1 := q1.bl hb;replace qa5_5 := qa5_5.bl hb;replace hA := own_below hA hb (Nat.le_refl _);replace ho1 := own_below ho1 hb (Nat.le_refl _);replace ho2 := own_below ho2 hb (Nat.le_refl _);replace hbw := bo_ hbw hb;clear hb;refine EL.as rfl rfl (EL.nil (EX.seq (EC.seq (EC.region (EL.mv rfl rfl (EL.nil (EX.seq ?_)))))))
      cases hfb : (forbR ru (afterR ru (l.take i)) p k).1
      ·
       refine EC.no rfl (EC.skip (EX.blk (EX.seq (EC.region (EL.mv rfl rfl ?_)))));refine EL.val (x_add rfl rfl (c := ((p + 1 : Nat) : Int)) ((IntWalk.i64_in _ ⟨by first | omega | (simp only; omega), by first | omega | (simp only; omega)⟩).trans (by first | omega | (simp only; omega)))) rfl ?_
       refine EL.as rfl rfl (EL.nil ?_);refine EX.roundD (p + 1, v6) ⟨rfl, rfl, trivial⟩ (by repeat first | with_reducible exact Sub.refl _ | refine sub_past rfl ?_ | exact Sub.refl _ | refine sub_del rfl ?_ | refine sub_insL_nil ?_) ⟨hltp, by simp only; rw [audRK_succ, if_neg (by rw [hfb]; decide), List.append_nil]; exact hA, q1, qa5_5, ho1, ho2, hbw⟩ (by simp only; omega)
      ·
       refine EC.yes rfl (EC.region (EL.mv rfl rfl (EL.mv rfl rfl (EL.mv rfl rfl (EL.mv rfl rfl (EL.val (bd_46_0_1_2 rfl rfl rfl) rfl (EL.newS (bs_32_1 rfl) rfl ?_)))))));intro g5 w5 q5 hb5 hg5 hl5;have n1_5 := q1.na hg5;have n3_5 := qa5_5.na hg5;have bhbw_5 := Nat.le_trans hbw.size hg5;have hbg5 : w.heap.size ≤ g5 := Nat.le_trans hbw.size hg5;replace q1 := q1.bl hb5;replace qa5_5 := qa5_5.bl hb5;replace hA := own_below hA hb5 (Nat.le_refl _);replace ho1 := own_below ho1 hb5 (Nat.le_refl _);replace ho2 := own_below ho2 hb5 (Nat.le_refl _);replace hbw := bo_ hbw hb5;clear hb5 hg5 hl5;refine EL.push br_elem rfl rfl hA (rd_one (l := [.int .i64 (i : Nat), .int .i64 (p : Nat), .bool (forbR ru (afterR ru (l.take i)) p k).2]) q5 rfl) (by intro u hu; simp only [List.mem_cons, List.not_mem_nil, or_false] at hu; rcases hu with rfl | rfl | rfl <;> rfl) (by have h1_ := audRL_len (l := l) hn8 i; have h2_ := audRK_len (ru := ru) (u := (afterR ru (l.take i))) (i := i) (c := k) p; rw [List.length_append]; omega) rfl hbw.size rfl ?_
       intro v9 w9 hA9 hgr hb_ hat;replace q1 := blk_grown q1 hA rfl hgr;replace qa5_5 := blk_grown qa5_5 hA rfl hgr;replace ho1 := own_grown ho1 hA rfl hgr;replace ho2 := own_grown ho2 hA rfl hgr;replace hbw := hbw.trans hb_;clear hA hgr hb_ hat;have hA := hA9;clear hA9;refine EL.as rfl rfl (EL.nil (EX.blk (EX.seq (EC.region (EL.mv rfl rfl ?_)))));refine EL.val (x_add rfl rfl (c := ((p + 1 : Nat) : Int)) ((IntWalk.i64_in _ ⟨by first | omega | (simp only; omega), by first | omega | (simp only; omega)⟩).trans (by first | omega | (simp only; omega)))) rfl ?_
       refine EL.as rfl rfl (EL.nil ?_);refine EX.roundD (p + 1, v9) ⟨rfl, rfl, trivial⟩ (by repeat first | with_reducible exact Sub.refl _ | refine sub_past rfl ?_ | exact Sub.refl _ | refine sub_del rfl ?_ | refine sub_insL_nil ?_) ⟨hltp, by simp only; rw [audRK_succ, if_pos hfb, ← List.append_assoc, brsC_app, List.length_append]; exact hA, q1, qa5_5, ho1, ho2, hbw⟩ (by simp only; omega)
    ·
     have hxp : p = ru.levels.length := by omega
     rw [hxp] at hA;refine EC.seq (EC.seq (EC.region (EL.mv rfl rfl (EL.val (fa_28_0 rfl) rfl (EL.val (ld_22 rfl (q1.at (j := 0) rfl)) rfl (EL.val (ln_22 rfl) rfl ?_))))));refine EL.val (x_lss rfl rfl (decide_eq_false (show ¬(((p : Nat) : Int) < ((ru.levels.length : Nat) : Int)) by omega))) rfl ?_
     refine EL.mv rfl rfl (EL.skip rfl rfl rfl rfl (EL.skip rfl rfl rfl rfl (EL.skip rfl rfl rfl rfl (EL.skip rfl rfl rfl rfl (EL.skip rfl rfl rfl rfl (EL.skip rfl rfl rfl rfl (EL.val (x_pick_f rfl rfl) rfl (EL.nil (EX.seq ?_)))))))));refine EC.no rfl (EC.exit (EX.seq_exit (EX.seq_exit (EX.blk_here (EX.blk (EX.seq (EC.region (EL.mv rfl rfl ?_))))))));refine EL.val (x_add rfl rfl (c := ((i + 1 : Nat) : Int)) ((IntWalk.i64_in _ ⟨by first | omega | (simp only; omega), by first | omega | (simp only; omega)⟩).trans (by first | omega | (simp only; omega)))) rfl ?_
     refine EL.as rfl rfl (EL.nil ?_);refine EX.roundD (i + 1, v6) ⟨rfl, rfl, trivial⟩ (by repeat first | with_reducible exact Sub.refl _ | refine sub_past rfl ?_ | exact Sub.refl _ | refine sub_del rfl ?_ | refine sub_insL_nil ?_) ⟨hlt, by simp only; rw [audRL_succ, audRAt_load hk1 ek]; exact hA, q1, hbw⟩ (by simp only; omega)
 ·
  have hxe : i = l.length := by omega
  rw [hxe] at hA;refine EC.seq (EC.seq (EC.region (EL.mv rfl rfl (EL.mv rfl rfl (EL.val (ln_29 rfl) rfl ?_)))));refine EL.val (x_lss rfl rfl (decide_eq_false (show ¬(((i : Nat) : Int) < ((l.length : Nat) : Int)) by omega))) rfl ?_
  refine EL.nil (EX.seq (EC.no rfl (EC.exit (EX.seq_exit (EX.seq_exit (EX.blk_here (EX.seq (EC.seq (EC.region ?_)))))))));refine EL.mv rfl rfl (EL.as rfl rfl (EL.nil (EX.seq (EC.ret ?_))))
  exact EX.done (res1 rfl rfl) ⟨⟨_, rfl, hA⟩, hbw⟩
end Go.Proofs.Ytdkedhcbdbpccaa
namespace Go.Proofs.Ytdkedhcbdbpccaa
open Go Go.RowKit
def slR (u : RT) (n : Nat) : List Int := ((List.range n).filter fun c => decide (0 < (u.res.getD c bd0).hi)).map fun c => ((c : Nat) : Int)
theorem slR_succ {u : RT} {n : Nat} : slR u (n + 1) = slR u n ++ if 0 < (u.res.getD n bd0).hi then [((n : Nat) : Int)] else [] := by
 unfold slR
 rw [List.range_succ, List.filter_append, List.map_append]
 by_cases h : 0 < (u.res.getD n bd0).hi
 ·rw [if_pos h]
  congr 1
  rw [List.filter_cons_of_pos (p := fun c => decide (0 < (u.res.getD c bd0).hi)) (l := []) (decide_eq_true h)]
  rfl
 ·rw [if_neg h]
  congr 1
  rw [List.filter_cons_of_neg (p := fun c => decide (0 < (u.res.getD c bd0).hi)) (l := []) (by simpa using h)]
  rfl
theorem slR_len {u : RT} {n : Nat} : (slR u n).length ≤ n := by
 unfold slR
 rw [List.length_map]
 exact Nat.le_trans (List.length_filter_le _ _) (by simp)
def slopRL (ru : Rules) (l : List Ev) (n : Nat) : List (List Int) := (wsL l n).map fun i => slR (afterR ru (l.take i)) ru.levels.length
theorem slopRL_len {ru : Rules} {l : List Ev} {n : Nat} : (slopRL ru l n).length ≤ n := by unfold slopRL; rw [List.length_map]; exact wsL_len
theorem slopRL_wash {ru : Rules} {l : List Ev} {n : Nat} (h : (l.getD n ev0).kind = 2) : slopRL ru l (n + 1) = slopRL ru l n ++ [slR (afterR ru (l.take n)) ru.levels.length] := by
 unfold slopRL
 rw [wsL_succ, if_pos h, List.map_append]
 rfl
theorem slopRL_load {ru : Rules} {l : List Ev} {n : Nat} (h : ¬(l.getD n ev0).kind = 2) : slopRL ru l (n + 1) = slopRL ru l n := by
 unfold slopRL
 rw [wsL_succ, if_neg h, List.append_nil]
theorem blk_type {w w' : World} {g g' T T' : Nat} {cs cs' : Array Value} (h : Blk w g T cs) (hq : Blk w g' T' cs') (hne : Nat.beq T T' = false) (hg : w.grownBy w' (some g')) : Blk w' g T cs := h.grown hg fun e => by
 injection e with e
 subst e
 exact blk_two h hq (fun e => by subst e; simp at hne)
theorem mono_r4 {j C n : Nat} {xs : List Value} : MonoS fun _ r w => ∃ A1 c1 A2 c2, r j = .agg #[.slice A1 n c1, .slice A2 n c2] ∧ w.ownsRow C 24 2 (.slice A1 n c1) n xs := fun _ _ _ _ hb ⟨A1, c1, A2, c2, h1, h2⟩ => ⟨A1, c1, A2, c2, h1, own_below h2 hb (Nat.le_refl _)⟩
set_option maxHeartbeats 2000000 in
theorem rSlops_any {ru : Rules} {ua up : List Value} {vl va vp vk : Value} {w : World} {B : Nat} (hr : RdRules w B vl va vp vk ru ua up) (hB : B ≤ w.heap.size) (hro : RulesOk ru) {l : List Ev} {v : Value} (hl : Rd w B 2 v l.length (evsC l)) (hv : l.all (evB ru) = true) (hn : l.length ≤ 100) :
  Calls Try.prog 20 #[rulesV vl va vp vk ru, v] w fun e w' => (∃ u us, e = .returned u ∧ OwnLL w' w.heap.size w'.heap.size u (slopRL ru l l.length) us) ∧ Below w.heap.size w w' := by
 obtain ⟨Al, cl, rfl, _⟩ := hr.levels.shape;obtain ⟨Aa, ca, rfl, _⟩ := hr.allow.rd.shape;obtain ⟨Ap, cp, rfl, _⟩ := hr.apart.rd.shape;obtain ⟨Ak, ck, rfl, _⟩ := hr.kinds.shape;obtain ⟨Ae, ce, rfl, hce⟩ := hl.shape;have hn8 := hro.n8;have hbw := Below.refl w.heap.size w
 unfold rulesV
 refine EC.enter 52 Try.func20 rfl rfl rfl (EC.seq (EC.region (EL.newP (bx_28 rfl) rfl ?_)));intro g1 w1 q1 hb1 hg1 hl1;have bhbw_1 := Nat.le_trans hbw.size hg1;have hbg1 : w.heap.size ≤ g1 := Nat.le_trans hbw.size hg1;replace hbw := bo_ hbw hb1;clear hb1 hg1 hl1;refine EL.as rfl rfl (EL.nil (EX.seq (EC.seq (EC.region (EL.newS (bs_25_0) rfl ?_)))));intro g2 w2 q2 hb2 hg2 hl2;have n1_2 := q1.na hg2;have bhbw_2 := Nat.le_trans hbw.size hg2;have hbg2 : w.heap.size ≤ g2 := Nat.le_trans hbw.size hg2;replace q1 := q1.bl hb2;replace hbw := bo_ hbw hb2;clear hb2 hg2 hl2;have hL : OwnLL w2 w.heap.size w2.heap.size (.slice (some ⟨g2, 0, none⟩) 0 0) [] [] := OwnLL.empty q2 hbg2 q2.lt;refine EL.as rfl rfl (EL.nil (EX.seq (EC.seq (EC.seq (EC.region (EL.as rfl rfl (EL.nil (EX.seq (EC.block ?_)))))))));refine EC.loopD [5, 6, 7, 8, 9, 11, 12, 13, 14, 15, 16, 17, 18, 19, 20, 21, 22, 23, 24, 25, 26, 27, 28, 29, 30, 31, 32, 33, 34, 35, 36, 37, 38, 39, 40, 41, 42, 43, 44, 45, 46, 47, 48, 49, 50] (fun x : Nat × Value × List Value => [(6, .int .i64 (x.1 : Nat)), (5, x.2.1)]) (fun x W => x.1 ≤ l.length ∧ OwnLL W w.heap.size W.heap.size x.2.1 (slopRL ru l x.1) x.2.2 ∧ Blk W g1 28 #[.slice Al ru.levels.length cl, .int .i64 ru.fade.lo, .int .i64 ru.fade.hi, .slice Aa ru.allow.length ca, .slice Ap ru.apart.length cp, .slice Ak ru.kinds.length ck] ∧ Below w.heap.size w W) (fun x => l.length - x.1) (0, .slice (some ⟨g2, 0, none⟩) 0 0, []) ⟨Nat.zero_le _, hL, q1, hbw⟩ ⟨rfl, rfl, trivial⟩ ?_
 clear hL q1 hbw
 rintro ⟨i, v5, us⟩ wx ⟨hi, hL, q1, hbw⟩
 dsimp only at hi hL
 by_cases hlt : i < l.length
 ·
  obtain ⟨be, oe, eAe, _, c0, c1⟩ := evs_cells l i hlt w B _ _ _ hl;have hev : evB ru (l.getD i ev0) = true := by rw [getD_in hlt]; exact List.all_eq_true.1 hv _ (List.getElem_mem _)
  have hrt := afterR_ok hro (take_all hv i);refine EC.seq (EC.seq (EC.region (EL.mv rfl rfl (EL.mv rfl rfl (EL.val (ln_29 rfl) rfl ?_)))));refine EL.val (x_lss rfl rfl (decide_eq_true (show (((i : Nat) : Int) < ((l.length : Nat) : Int)) by omega))) rfl ?_
  refine EL.nil (EX.seq (EC.yes rfl (EC.skip (EX.seq (EC.seq (EC.block (EC.seq (EC.seq (EC.region ?_)))))))));refine EL.mv rfl rfl (EL.mv rfl rfl ?_);refine EL.val (ix_29 (by show some (Value.slice Ae _ _) = _; rw [eAe]) rfl hlt) rfl ?_
  refine EL.val (fa_50_0 rfl) rfl (EL.val (ld_48 rfl (below_load hbw c0)) rfl ?_)
  by_cases hk2 : ¬(l.getD i ev0).kind = 2
  ·
   refine EL.val (x_neq (r := true) rfl rfl (decide_eq_true hk2)) rfl (EL.nil (EX.seq (EC.yes rfl (EC.exit (EX.seq_exit (EX.blk_here (EX.seq (EC.region (EL.mv rfl rfl ?_)))))))));refine EL.val (x_add rfl rfl (c := ((i + 1 : Nat) : Int)) ((IntWalk.i64_in _ ⟨by first | omega | (simp only; omega), by first | omega | (simp only; omega)⟩).trans (by first | omega | (simp only; omega)))) rfl ?_
   refine EL.as rfl rfl (EL.nil ?_);refine EX.roundD (i + 1, v5, us) ⟨rfl, rfl, trivial⟩ (by repeat first | with_reducible exact Sub.refl _ | refine sub_past rfl ?_ | exact Sub.refl _ | refine sub_del rfl ?_ | refine sub_insL_nil ?_) ⟨hlt, by simp only; rw [slopRL_load hk2]; exact hL, q1, hbw⟩ (by simp only; omega)
  ·
   have hk2 : (l.getD i ev0).kind = 2 := Classical.byContradiction hk2;refine EL.val (x_neq (r := false) rfl rfl (decide_eq_false (fun h => h hk2))) rfl ?_
   refine EL.nil (EX.seq (EC.no rfl (EC.skip (EX.seq (EC.seq ?_)))));have hbw0 := hbw.size;obtain ⟨C, eC⟩ : ∃ z, z = wx.heap.size := ⟨_, rfl⟩;have hCW : C ≤ wx.heap.size := Nat.le_of_eq eC;have hwC : w.heap.size ≤ C := by rw [eC]; exact hbw.size
   rw [← eC] at hL;obtain ⟨Au, cu, rfl, _⟩ := (Rd.of_own hL.own).shape;have lt_1 := q1.lt;refine EC.regionS [[], [], [], [1, 2], [0, 1, 2, 3], [], [], [0, 1, 2, 3, 4, 6], [0, 1, 2, 3, 4, 5, 6, 7]] 8 [6] [7] (fun _ w_ => Below wx.heap.size wx w_) (phiS (fun i_ r => match i_ with | 0 => r 0 = .agg #[.slice Al ru.levels.length cl, .int .i64 ru.fade.lo, .int .i64 ru.fade.hi, .slice Aa ru.allow.length ca, .slice Ap ru.apart.length cp, .slice Ak ru.kinds.length ck] | 1 => r 1 = .slice Ae l.length ce | 2 => r 2 = .int .i64 (i : Nat) | 3 => r 3 = .slice (some ⟨be, oe, none⟩) i ce | _ => True) [(4, fun _ r w_ => ∃ A1 c1 A2 c2, r 4 = .agg #[.slice A1 ru.levels.length c1, .slice A2 ru.levels.length c2] ∧ w_.ownsRow w.heap.size 24 2 (.slice A1 ru.levels.length c1) ru.levels.length (bdsC (afterR ru (l.take i)).res)), (5, fun _ r w_ => ∃ g_, r 5 = .slice (some ⟨g_, 0, none⟩) 0 0 ∧ Blk w_ g_ 3 #[] ∧ wx.heap.size ≤ g_), (6, fun fl r w_ => ∃ g_, r 6 = .pointer (some ⟨g_, 0, none⟩) ∧ wx.heap.size ≤ g_ ∧ (fl 7 = false → Blk w_ g_ 62 #[.slice none 0 0, .slice none 0 0])), (7, fun _ r w_ => ∃ g A1 c1 A2 c2, r 6 = .pointer (some ⟨g, 0, none⟩) ∧ Blk w_ g 62 #[.slice A1 ru.levels.length c1, .slice A2 ru.levels.length c2] ∧ w_.ownsRow w.heap.size 24 2 (.slice A1 ru.levels.length c1) ru.levels.length (bdsC (afterR ru (l.take i)).res) ∧ wx.heap.size ≤ g)]) (by kernel_rfl) rfl rfl (by intro i hi; simp at hi; first | (subst hi; exact ⟨by simp, by omega⟩) | (rcases hi with rfl | rfl | rfl <;> exact ⟨by simp, by omega⟩) | (rcases hi with rfl | rfl <;> exact ⟨by simp, by omega⟩)) (base_below wx) (phiS_cons mono_r4 (phiS_cons monoS_bs (phiS_cons monoS_alloc (phiS_cons (fun _ _ _ _ hb ⟨g, A1, c1, A2, c2, h1, h2, h3, h4⟩ => ⟨g, A1, c1, A2, c2, h1, h2.below hb h2.lt, own_below h3 hb (Nat.le_refl _), h4⟩) (phiS_nil))))) (fun i_ hi_ hs_ => ?_) (fun i_ hi_ => ?_) ?_
   ·match i_, hi_ with
    | 0, _ =>
     intro val fl w1 a hb ha hd hfl;have ha := ha.s0 (d := 2) rfl
     exact ss_val ha rfl rfl (ld_28 rfl ((q1.below hb q1.lt).at (j := 0) rfl) ((q1.below hb q1.lt).at (j := 1) rfl) ((q1.below hb q1.lt).at (j := 2) rfl) ((q1.below hb q1.lt).at (j := 3) rfl) ((q1.below hb q1.lt).at (j := 4) rfl) ((q1.below hb q1.lt).at (j := 5) rfl)) rfl rfl
    | 1, _ =>
     intro val fl w1 a hb ha hd hfl;have ha := ha.s0 (d := 1) rfl
     exact ss_val ha rfl rfl (x_move rfl) rfl rfl
    | 2, _ =>
     intro val fl w1 a hb ha hd hfl;have ha := ha.s0 (d := 6) rfl
     exact ss_val ha rfl rfl (x_move rfl) rfl rfl
    | 3, _ =>
     intro val fl w1 a hb ha hd hfl;have e1 : val 1 = .slice Ae l.length ce := hd 1 (memB_mem.1 rfl);have e2 : val 2 = .int .i64 (i : Nat) := hd 2 (memB_mem.1 rfl);have ha := ha.sub (Sub.ins (d := 25) (Sub.ins (d := 24) (Sub.nil _) (dep_get rfl e1)) (dep_get rfl e2))
     exact ss_val ha rfl rfl (slh_29 (by show some (Value.slice Ae _ _) = _; rw [eAe]) rfl (show i ≤ ce by omega)) rfl rfl
    | 4, _ =>
     intro val fl w1 a hb ha hd hfl;have e0 : val 0 = .agg #[.slice Al ru.levels.length cl, .int .i64 ru.fade.lo, .int .i64 ru.fade.hi, .slice Aa ru.allow.length ca, .slice Ap ru.apart.length cp, .slice Ak ru.kinds.length ck] := hd 0 (memB_mem.1 rfl);have e3 : val 3 = .slice (some ⟨be, oe, none⟩) i ce := hd 3 (memB_mem.1 rfl);have ha := ha.sub (Sub.ins (d := 26) (Sub.ins (d := 23) (Sub.nil _) (dep_get rfl e0)) (dep_get rfl e3));refine ss_call ha rfl rfl (cl_27 rfl rfl) (After_any (l := l.take i) (hr.below ((hbw.trans (hb.mono hbw.size)).mono hB)) (Nat.le_trans hB (Nat.le_trans hbw.size hb.size)) hro (by have h0 := rd_pre (m := i) (hl.below ((hbw.trans (hb.mono hbw.size)).mono hB)) (by omega); rw [eAe] at h0; exact h0) (take_all hv i) (by rw [List.length_take]; omega)) rfl ?_
     rintro e w' ⟨⟨B1, d1, B2, d2, rfl, p1, p2, _⟩, hb'⟩
     exact ⟨_, rfl, hb', ⟨B1, d1, B2, d2, rfl, own_less p1 (Nat.le_trans hbw.size hb.size)⟩⟩
    | 5, _ =>
     intro val fl w1 a hb ha hd hfl;have ha := ha.sub (Sub.nil _)
     exact ss_newS ha rfl rfl bs_22_0 rfl (fun g w' hq _ hge => ⟨g, rfl, hq, Nat.le_trans hb.size hge⟩)
    | 6, _ =>
     intro val fl w1 a hb ha hd hfl;have ha := ha.sub (Sub.nil _)
     exact ss_newP ha rfl rfl al_62 (fun g w' hq _ hge => ⟨g, rfl, Nat.le_trans hb.size hge, fun _ => hq⟩)
    | 7, _ =>
     exact absurd (by simp) hs_
    | k + 8, h => exact absurd h (by omega)
   ·simp only [List.mem_singleton] at hi_; subst hi_
    intro val fl w1 a hb hfi ha hd hfl;obtain ⟨g6_, e6, hg6_, q6_⟩ := hd 6 (memB_mem.1 rfl);change val 6 = _ at e6;obtain ⟨B1_, d1_, B2_, d2_, e4, p1_⟩ := hd 4 (memB_mem.1 rfl);have ha := ha.sub (Sub.ins (d := 27) (Sub.ins (d := 7) (Sub.nil _) (dep_get rfl e6)) (dep_get rfl e4));refine ts_store ha rfl rfl rfl (q6_ hfi) sz_62 rfl rfl rfl rfl ?_;intro w' hq hgr;refine ⟨undef, rfl, hgr.size, below_store hb hgr hg6_, ⟨g6_, B1_, d1_, B2_, d2_, e6, hq, own_type p1_ (q6_ hfi) rfl hgr, hg6_⟩, fun j _ hj hn hA => ?_⟩
    exact phiS_cons_st (C := fun j => j ≠ 7 ∧ 7 ∉ clsAt [[], [], [], [1, 2], [0, 1, 2, 3], [], [], [0, 1, 2, 3, 4, 6], [0, 1, 2, 3, 4, 5, 6, 7]] j ∧ ∀ p ∈ [6], (p = j ∨ p ∈ clsAt [[], [], [], [1, 2], [0, 1, 2, 3], [], [], [0, 1, 2, 3, 4, 6], [0, 1, 2, 3, 4, 5, 6, 7]] j) → ∀ q ∈ [6], (q = 7 ∨ q ∈ clsAt [[], [], [], [1, 2], [0, 1, 2, 3], [], [], [0, 1, 2, 3, 4, 6], [0, 1, 2, 3, 4, 5, 6, 7]] 7) → p ≠ q → val p ≠ val q) (fun _ ⟨A1, c1, A2, c2, h1, h2⟩ => ⟨A1, c1, A2, c2, h1, own_type h2 (q6_ hfi) rfl hgr⟩) (phiS_cons_st (C := fun j => j ≠ 7 ∧ 7 ∉ clsAt [[], [], [], [1, 2], [0, 1, 2, 3], [], [], [0, 1, 2, 3, 4, 6], [0, 1, 2, 3, 4, 5, 6, 7]] j ∧ ∀ p ∈ [6], (p = j ∨ p ∈ clsAt [[], [], [], [1, 2], [0, 1, 2, 3], [], [], [0, 1, 2, 3, 4, 6], [0, 1, 2, 3, 4, 5, 6, 7]] j) → ∀ q ∈ [6], (q = 7 ∨ q ∈ clsAt [[], [], [], [1, 2], [0, 1, 2, 3], [], [], [0, 1, 2, 3, 4, 6], [0, 1, 2, 3, 4, 5, 6, 7]] 7) → p ≠ q → val p ≠ val q) (fun _ ⟨g, h1, h2, h3⟩ => ⟨g, h1, blk_type h2 (q6_ hfi) rfl hgr, h3⟩) (phiS_cons_st (C := fun j => j ≠ 7 ∧ 7 ∉ clsAt [[], [], [], [1, 2], [0, 1, 2, 3], [], [], [0, 1, 2, 3, 4, 6], [0, 1, 2, 3, 4, 5, 6, 7]] j ∧ ∀ p ∈ [6], (p = j ∨ p ∈ clsAt [[], [], [], [1, 2], [0, 1, 2, 3], [], [], [0, 1, 2, 3, 4, 6], [0, 1, 2, 3, 4, 5, 6, 7]] j) → ∀ q ∈ [6], (q = 7 ∨ q ∈ clsAt [[], [], [], [1, 2], [0, 1, 2, 3], [], [], [0, 1, 2, 3, 4, 6], [0, 1, 2, 3, 4, 5, 6, 7]] 7) → p ≠ q → val p ≠ val q) (fun _ ⟨g, h1, h2, _⟩ => ⟨g, h1, h2, fun h => by rw [fset_eq] at h; cases h⟩) (phiS_cons_st (C := fun j => j ≠ 7 ∧ 7 ∉ clsAt [[], [], [], [1, 2], [0, 1, 2, 3], [], [], [0, 1, 2, 3, 4, 6], [0, 1, 2, 3, 4, 5, 6, 7]] j ∧ ∀ p ∈ [6], (p = j ∨ p ∈ clsAt [[], [], [], [1, 2], [0, 1, 2, 3], [], [], [0, 1, 2, 3, 4, 6], [0, 1, 2, 3, 4, 5, 6, 7]] j) → ∀ q ∈ [6], (q = 7 ∨ q ∈ clsAt [[], [], [], [1, 2], [0, 1, 2, 3], [], [], [0, 1, 2, 3, 4, 6], [0, 1, 2, 3, 4, 5, 6, 7]] 7) → p ≠ q → val p ≠ val q) (fun hc => absurd rfl hc.1) (fun _ _ h => h)))) j ⟨hj, hn, hA⟩
   ·intro val fl wR6 hfl hb halc hd
    have e0 : val 0 = .agg #[.slice Al ru.levels.length cl, .int .i64 ru.fade.lo, .int .i64 ru.fade.hi, .slice Aa ru.allow.length ca, .slice Ap ru.apart.length cp, .slice Ak ru.kinds.length ck] := hd 0 (by omega)
    have e1 : val 1 = .slice Ae l.length ce := hd 1 (by omega)
    have e2 : val 2 = .int .i64 (i : Nat) := hd 2 (by omega)
    have e3 : val 3 = .slice (some ⟨be, oe, none⟩) i ce := hd 3 (by omega)
    obtain ⟨B1_, d1_, B2_, d2_, e4, p1_⟩ := hd 4 (by omega)
    change val 4 = _ at e4;obtain ⟨g5_, e5, q5_, h5_⟩ := hd 5 (by omega)
    change val 5 = _ at e5;obtain ⟨ga6_6, B1, d1, B2, d2, e6, qa6_6, ho1, hga6_6⟩ := hd 7 (by omega)
    change val 6 = _ at e6;refine EL.ends (cs := [.agg #[.slice Al ru.levels.length cl, .int .i64 ru.fade.lo, .int .i64 ru.fade.hi, .slice Aa ru.allow.length ca, .slice Ap ru.apart.length cp, .slice Ak ru.kinds.length ck], .slice Ae l.length ce, .int .i64 (i : Nat), .slice (some ⟨be, oe, none⟩) i ce, .agg #[.slice B1_ ru.levels.length d1_, .slice B2_ ru.levels.length d2_], .slice (some ⟨g5_, 0, none⟩) 0 0, .pointer (some ⟨ga6_6, 0, none⟩), val 7]) ⟨e0, e1, e2, e3, e4, e5, e6, rfl, trivial⟩ rfl ?_;replace q1 := q1.bl hb;replace hL := hL.below hb;replace hCW := Nat.le_trans hCW hb.size;have bge3 := alc_ge halc (i := 6) rfl rfl e6;have n1_3 : g1 ≠ ga6_6 := Nat.ne_of_lt (Nat.lt_of_lt_of_le lt_1 bge3);have bhbw_3 := Nat.le_trans hbw.size bge3;replace hbw := bo_ hbw hb;have hos : _ := own_empty (base := w.heap.size) 1 q5_ (Nat.le_trans hbw0 h5_);have hfr : C ≤ g5_ := by omega
    refine EL.as rfl rfl (EL.nil (EX.seq (EC.seq (EC.seq (EC.region (EL.as rfl rfl (EL.nil (EX.seq (EC.block ?_)))))))));refine EC.loopD [8, 9, 29, 30, 31, 32, 33, 34, 35, 36, 37, 38, 39, 40, 41, 42, 43, 44, 45, 46] (fun x : Nat × Value => [(9, .int .i64 (x.1 : Nat)), (8, x.2)]) (fun x W => x.1 ≤ ru.levels.length ∧ Blk W g1 28 #[.slice Al ru.levels.length cl, .int .i64 ru.fade.lo, .int .i64 ru.fade.hi, .slice Aa ru.allow.length ca, .slice Ap ru.apart.length cp, .slice Ak ru.kinds.length ck] ∧ Blk W ga6_6 62 #[.slice B1 ru.levels.length d1, .slice B2 ru.levels.length d2] ∧ OwnLL W w.heap.size C (.slice Au (slopRL ru l i).length cu) (slopRL ru l i) us ∧ W.ownsRow w.heap.size 24 2 (.slice B1 ru.levels.length d1) ru.levels.length (bdsC (afterR ru (l.take i)).res) ∧ W.ownsRow w.heap.size 3 1 x.2 (slR (afterR ru (l.take i)) x.1).length (ints (slR (afterR ru (l.take i)) x.1)) ∧ (∀ b, Value.ownBlock x.2 = some b → C ≤ b) ∧ C ≤ W.heap.size ∧ Below w.heap.size w W) (fun x => ru.levels.length - x.1) (0, .slice (some ⟨g5_, 0, none⟩) 0 0) ⟨Nat.zero_le _, q1, qa6_6, hL, ho1, hos, (fun b hb => by simp [Value.ownBlock] at hb; omega), hCW, hbw⟩ ⟨rfl, rfl, trivial⟩ ?_
    clear q1 qa6_6 hL ho1 hos hfr hCW hbw
    rintro ⟨p, v8⟩ wp ⟨hp, q1, qa6_6, hL, ho1, hos, hfr, hCW, hbw⟩
    dsimp only at hp hos hfr
    obtain ⟨As, cs, rfl, _⟩ := (Rd.of_own hos).shape
    by_cases hltp : p < ru.levels.length
    ·
     obtain ⟨br, or_, eR, _, h0, h1⟩ := bds_cells (afterR ru (l.take i)).res p (by rw [hrt.rl]; exact hltp) wp wp.heap.size _ _ _ (Rd.of_own ho1)
     refine EC.seq (EC.seq (EC.region (EL.mv rfl rfl (EL.val (fa_28_0 rfl) rfl (EL.val (ld_22 rfl (q1.at (j := 0) rfl)) rfl (EL.val (ln_22 rfl) rfl ?_))))));refine EL.val (x_lss rfl rfl (decide_eq_true (show (((p : Nat) : Int) < ((ru.levels.length : Nat) : Int)) by omega))) rfl ?_
     refine EL.nil (EX.seq (EC.yes rfl (EC.skip (EX.seq (EC.seq (EC.block (EC.seq (EC.region (EL.val (fa_62_0 rfl) rfl ?_)))))))));refine EL.val (ld_60 rfl (qa6_6.at (j := 0) rfl)) rfl (EL.mv rfl rfl ?_);refine EL.val (ix_60 (by show some (Value.slice B1 _ _) = _; rw [eR]) rfl hltp) rfl ?_
     refine EL.val (fa_24_1 rfl) rfl (EL.val (ld_3 rfl h1) rfl ?_)
     by_cases hh : 0 < ((afterR ru (l.take i)).res.getD p bd0).hi
     ·
      refine EL.val (x_gtr (r := true) rfl rfl (decide_eq_true hh)) rfl (EL.nil (EX.seq (EC.yes rfl (EC.region (EL.mv rfl rfl (EL.mv rfl rfl (EL.newS (bs_22_1 rfl) rfl ?_)))))));intro g4 w4 q4 hb4 hg4 hl4;have n1_4 := q1.na hg4;have n3_4 := qa6_6.na hg4;have bhbw_4 := Nat.le_trans hbw.size hg4;have hbg4 : w.heap.size ≤ g4 := Nat.le_trans hbw.size hg4;replace q1 := q1.bl hb4;replace qa6_6 := qa6_6.bl hb4;replace hL := hL.below hb4;replace hCW := Nat.le_trans hCW hb4.size;replace ho1 := own_below ho1 hb4 (Nat.le_refl _);replace hos := own_below hos hb4 (Nat.le_refl _);replace hbw := bo_ hbw hb4;clear hb4 hg4 hl4;refine EL.push ir_elem rfl rfl hos (rd_one (l := [.int .i64 (p : Nat)]) q4 rfl) (by intro u hu; simp only [List.mem_cons, List.not_mem_nil, or_false] at hu; rcases hu with rfl <;> rfl) (by have := slR_len (u := (afterR ru (l.take i))) (n := p); omega) rfl hbw.size rfl ?_
      intro v5 w5 hos2 hgr hb_ hat;replace q1 := blk_grown q1 hos rfl hgr;replace qa6_6 := blk_grown qa6_6 hos rfl hgr;replace ho1 := own_grown ho1 hos rfl hgr;replace hL := hL.fresh hgr hfr;have hfr2 : ∀ b, Value.ownBlock _ = some b → C ≤ b := fun b hb => by rcases hat with h | h; exact hfr b (h ▸ hb); rw [h] at hb; injection hb with hb; omega
      replace hCW := Nat.le_trans hCW hgr.size;clear hfr;have hfr := hfr2;clear hfr2;replace hbw := hbw.trans hb_;clear hos hgr hb_ hat;have hos := hos2;clear hos2;obtain ⟨As2, cs2, rfl, _⟩ := (Rd.of_own hos).shape;refine EL.as rfl rfl (EL.nil (EX.blk (EX.seq (EC.region (EL.mv rfl rfl ?_)))));refine EL.val (x_add rfl rfl (c := ((p + 1 : Nat) : Int)) ((IntWalk.i64_in _ ⟨by first | omega | (simp only; omega), by first | omega | (simp only; omega)⟩).trans (by first | omega | (simp only; omega)))) rfl ?_
      refine EL.as rfl rfl (EL.nil ?_);refine EX.roundD (p + 1, _) ⟨rfl, rfl, trivial⟩ (by repeat first | with_reducible exact Sub.refl _ | refine sub_past rfl ?_ | exact Sub.refl _ | refine sub_del rfl ?_ | refine sub_insL_nil ?_) ⟨hltp, q1, qa6_6, hL, ho1, own_cast hos (by rw [slR_succ, if_pos hh, List.length_append]; rfl) (by rw [slR_succ, if_pos hh, ints_app2]; rfl), hfr, hCW, hbw⟩ (by simp only; omega)
     ·
      refine EL.val (x_gtr (r := false) rfl rfl (decide_eq_false hh)) rfl (EL.nil (EX.seq (EC.no rfl (EC.skip (EX.blk (EX.seq (EC.region (EL.mv rfl rfl ?_))))))));refine EL.val (x_add rfl rfl (c := ((p + 1 : Nat) : Int)) ((IntWalk.i64_in _ ⟨by first | omega | (simp only; omega), by first | omega | (simp only; omega)⟩).trans (by first | omega | (simp only; omega)))) rfl ?_
      refine EL.as rfl rfl (EL.nil ?_);refine EX.roundD (p + 1, _) ⟨rfl, rfl, trivial⟩ (by repeat first | with_reducible exact Sub.refl _ | refine sub_past rfl ?_ | exact Sub.refl _ | refine sub_del rfl ?_ | refine sub_insL_nil ?_) ⟨hltp, q1, qa6_6, hL, ho1, own_cast hos (by rw [slR_succ, if_neg hh, List.append_nil]) (by rw [slR_succ, if_neg hh, List.append_nil]), hfr, hCW, hbw⟩ (by simp only; omega)
    ·
     have hxp : p = ru.levels.length := by omega
     have hslN : slR (afterR ru (l.take i)) ru.levels.length = slR (afterR ru (l.take i)) p := by rw [hxp]
     refine EC.seq (EC.seq (EC.region (EL.mv rfl rfl (EL.val (fa_28_0 rfl) rfl (EL.val (ld_22 rfl (q1.at (j := 0) rfl)) rfl (EL.val (ln_22 rfl) rfl ?_))))));refine EL.val (x_lss rfl rfl (decide_eq_false (show ¬(((p : Nat) : Int) < ((ru.levels.length : Nat) : Int)) by omega))) rfl ?_
     refine EL.nil (EX.seq (EC.no rfl (EC.exit (EX.seq_exit (EX.seq_exit (EX.blk_here (EX.seq (EC.region (EL.mv rfl rfl ?_)))))))));refine EL.mv rfl rfl (EL.newS (bs_25_1 rfl) rfl ?_);intro g6 w6 q6 hb6 hg6 hl6;have n1_6 := q1.na hg6;have n3_6 := qa6_6.na hg6;have bhbw_6 := Nat.le_trans hbw.size hg6;have hbg6 : w.heap.size ≤ g6 := Nat.le_trans hbw.size hg6;replace q1 := q1.bl hb6;replace qa6_6 := qa6_6.bl hb6;replace hL := hL.below hb6;replace hCW := Nat.le_trans hCW hb6.size;replace ho1 := own_below ho1 hb6 (Nat.le_refl _);replace hos := own_below hos hb6 (Nat.le_refl _);replace hbw := bo_ hbw hb6;clear hb6 hg6 hl6;refine EL.push rr_elem rfl rfl hL.own (rd_one (l := [.slice As (slR (afterR ru (l.take i)) p).length cs]) q6 rfl) (by intro u hu; rw [List.mem_singleton.1 hu]; rfl) (by have := slopRL_len (ru := ru) (l := l) (n := i); omega) rfl hbw.size rfl ?_
     intro v7 w7 ho2 hgr hb_ hat;replace q1 := blk_grown q1 hL.own rfl hgr;replace qa6_6 := blk_grown qa6_6 hL.own rfl hgr;replace hbw := hbw.trans hb_;have hL9 := hL.push (l := slR (afterR ru (l.take i)) p) ho2 hgr hos;clear hL hos hgr hb_ hat ho2 hfr ho1;refine EL.as rfl rfl (EL.nil (EX.blk (EX.seq (EC.region (EL.mv rfl rfl ?_)))));refine EL.val (x_add rfl rfl (c := ((i + 1 : Nat) : Int)) ((IntWalk.i64_in _ ⟨by first | omega | (simp only; omega), by first | omega | (simp only; omega)⟩).trans (by first | omega | (simp only; omega)))) rfl ?_
     refine EL.as rfl rfl (EL.nil ?_);refine EX.roundD (i + 1, v7, us ++ [.slice As (slR (afterR ru (l.take i)) p).length cs]) ⟨rfl, rfl, trivial⟩ (by repeat first | with_reducible exact Sub.refl _ | refine sub_past rfl ?_ | exact Sub.refl _ | refine sub_del rfl ?_ | refine sub_insL_nil ?_) ⟨hlt, by simp only; rw [slopRL_wash hk2, hslN]; exact hL9, q1, hbw⟩ (by simp only; omega)
 ·
  have hxe : i = l.length := by omega
  rw [hxe] at hL;refine EC.seq (EC.seq (EC.region (EL.mv rfl rfl (EL.mv rfl rfl (EL.val (ln_29 rfl) rfl ?_)))));refine EL.val (x_lss rfl rfl (decide_eq_false (show ¬(((i : Nat) : Int) < ((l.length : Nat) : Int)) by omega))) rfl ?_
  refine EL.nil (EX.seq (EC.no rfl (EC.exit (EX.seq_exit (EX.seq_exit (EX.blk_here (EX.seq (EC.seq (EC.region ?_)))))))));refine EL.mv rfl rfl (EL.as rfl rfl (EL.nil (EX.seq (EC.ret ?_))))
  exact EX.done (res1 rfl rfl) ⟨⟨_, _, rfl, hL⟩, hbw⟩
end Go.Proofs.Ytdkedhcbdbpccaa
namespace Go.Proofs.Ytdkedhcbdbpccaa
open Go Go.RowKit
section
variable {n : Nat} {σ : Sg} {w : World} {dst : Option Tmp} {ty : TypeId} {pos : String} {af : Array Edge} {g : Option (Nat × Bool)} {x y z : Operand} {at' : Array TypeId}
theorem cl_19 {x0 x1 : Operand} {v0 v1 : Value} (h0 : evS σ x0 = some v0) (h1 : evS σ x1 = some v1) (a : Act) (ha : Env n σ a) : (execOp a.eval ⟨dst, .call { callee := .value (.func 19), args := #[x0, x1], argTypes := at' }, ty, pos, af, g⟩).run Try.prog w = .ok (.enter 19 #[v0, v1]) w := by
 simp only [execOp, resolve, List.map_toArray, List.map_cons, List.map_nil, ha.eval h0, ha.eval h1]
 simp [go_sem, Act.eval]
theorem cl_20 {x0 x1 : Operand} {v0 v1 : Value} (h0 : evS σ x0 = some v0) (h1 : evS σ x1 = some v1) (a : Act) (ha : Env n σ a) : (execOp a.eval ⟨dst, .call { callee := .value (.func 20), args := #[x0, x1], argTypes := at' }, ty, pos, af, g⟩).run Try.prog w = .ok (.enter 20 #[v0, v1]) w := by
 simp only [execOp, resolve, List.map_toArray, List.map_cons, List.map_nil, ha.eval h0, ha.eval h1]
 simp [go_sem, Act.eval]
end
end Go.Proofs.Ytdkedhcbdbpccaa
namespace Go.Proofs.Ytdkedhcbdbpccaa
open Go Go.RowKit
theorem x_neqBr {n : Nat} {σ : Sg} {w : World} {dst : Option Tmp} {ty : TypeId} {pos : String} {af : Array Edge} {g : Option (Nat × Bool)} {x y : Operand} {a0 a1 b0 b1 : Int} {a2 b2 r : Bool} (hx : evS σ x = some (.agg #[.int .i64 a0, .int .i64 a1, .bool a2])) (hy : evS σ y = some (.agg #[.int .i64 b0, .int .i64 b1, .bool b2])) (hc : decide (¬(a0 = b0 ∧ a1 = b1 ∧ a2 = b2)) = r) : Gives Try.prog n σ w ⟨dst, .binOp .neq 46 x y 46, ty, pos, af, g⟩ (.bool r) := fun a ha => by
 subst hc
 simp only [execOp, ha.eval hx, ha.eval hy]
 go_simp
 repeat' split
 all_goals simp_all
theorem tup4 {a b c x y z : Int} {e f : Int} (h : Value.tuple #[.int .i64 a, .int .i64 b, .int .i64 c, .int .i64 e] = .tuple #[.int .i64 x, .int .i64 y, .int .i64 z, .int .i64 f]) : x = a ∧ y = b ∧ z = c := by
 simp at h
 exact ⟨h.1.symm, h.2.1.symm, h.2.2.1.symm⟩
theorem billE_t (ru : Rules) (l : List Ev) : ∃ a b c, billE ru l = .tuple #[.int .i64 a, .int .i64 b, .int .i64 c, .int .i64 (refE ru l)] := by
 unfold billE
 split
 ·rename_i h
  exact ⟨_, _, _, by rw [h]⟩
 ·exact ⟨_, _, _, rfl⟩
theorem equal_same {l : List Int} {v u : Value} {w : World} {B : Nat} (ha : Rd w B 1 v l.length (ints l)) (hb : Rd w B 1 u l.length (ints l)) (hB : B ≤ w.heap.size) (hl : l.length ≤ 9223372036854775806) : Calls Try.prog 21 #[v, u] w fun e w' => e = .returned (.bool true) ∧ Below w.heap.size w w' := by
 have h := equal_any ha hb hB hl (by omega)
 rw [decide_eq_true rfl] at h
 exact h
def sumK (f : Kd → Int) (ru : Rules) (l : List Ev) (n : Nat) : Int := ((wsL l n).map fun i => f (ru.kinds.getD (l.getD i ev0).number.toNat kd0)).sum
def remK (f : Kd → Int) (ru : Rules) (l : List Ev) (n : Nat) : Int := sumK f ru l l.length - sumK f ru l n
theorem remK_wash {f : Kd → Int} {ru : Rules} {l : List Ev} {n : Nat} (h : (l.getD n ev0).kind = 2) : remK f ru l (n + 1) = remK f ru l n - f (ru.kinds.getD (l.getD n ev0).number.toNat kd0) := by
 unfold remK sumK
 rw [wsL_succ, if_pos h, List.map_append, List.sum_append]
 simp
 omega
theorem remK_load {f : Kd → Int} {ru : Rules} {l : List Ev} {n : Nat} (h : ¬(l.getD n ev0).kind = 2) : remK f ru l (n + 1) = remK f ru l n := by
 unfold remK sumK
 rw [wsL_succ, if_neg h, List.append_nil]
theorem remK_end {f : Kd → Int} {ru : Rules} {l : List Ev} : remK f ru l l.length = 0 := Int.sub_self _
theorem sumK_bd {f : Kd → Int} {M : Int} {ru : Rules} {l : List Ev} {n : Nat} (hf : ∀ k, 0 ≤ f (ru.kinds.getD k kd0) ∧ f (ru.kinds.getD k kd0) ≤ M) : 0 ≤ sumK f ru l n ∧ sumK f ru l n ≤ n * M := by
 have h := sum_bd (M := M) ((wsL l n).map fun i => f (ru.kinds.getD (l.getD i ev0).number.toNat kd0)) fun x hx => by
  obtain ⟨i, _, rfl⟩ := List.mem_map.1 hx
  exact hf _
 refine ⟨h.1, Int.le_trans h.2 ?_⟩;rw [List.length_map];have hM : 0 ≤ M := Int.le_trans (hf 0).1 (hf 0).2;have h2 := wsL_len (l := l) (n := n)
 exact Int.mul_le_mul_of_nonneg_right (by omega) hM
theorem remK_bd {f : Kd → Int} {M : Int} {ru : Rules} {l : List Ev} {n : Nat} (hf : ∀ k, 0 ≤ f (ru.kinds.getD k kd0) ∧ f (ru.kinds.getD k kd0) ≤ M) (hM : M ≤ 100000000) (hn : l.length ≤ 100) (hi : n ≤ l.length) : -10000000000 ≤ remK f ru l n ∧ remK f ru l n ≤ 10000000000 := by
 have h1 := sumK_bd (l := l) (n := n) hf;have h2 := sumK_bd (l := l) (n := l.length) hf;have hM0 : 0 ≤ M := Int.le_trans (hf 0).1 (hf 0).2;have h3 : (n : Int) * M ≤ 100 * M := Int.mul_le_mul_of_nonneg_right (by omega) hM0
 have h4 : (l.length : Int) * M ≤ 100 * M := Int.mul_le_mul_of_nonneg_right (by omega) hM0
 unfold remK
 omega
theorem remK_bds {ru : Rules} (hro : RulesOk ru) {l : List Ev} {n : Nat} (hn : l.length ≤ 100) (hi : n ≤ l.length) : (-10000000000 ≤ remK (·.mins) ru l n ∧ remK (·.mins) ru l n ≤ 10000000000) ∧ (-10000000000 ≤ remK (·.water) ru l n ∧ remK (·.water) ru l n ≤ 10000000000) ∧ -10000000000 ≤ remK (·.cost) ru l n ∧ remK (·.cost) ru l n ≤ 10000000000 :=
 ⟨remK_bd (M := 10000) (fun k => (kd_bd hro k).1) (by decide) hn hi, remK_bd (M := 10000) (fun k => (kd_bd hro k).2.1) (by decide) hn hi, remK_bd (M := 100000000) (fun k => (kd_bd hro k).2.2) (by decide) hn hi⟩
theorem bill_rem {ru : Rules} {l : List Ev} (hz : refE ru l = 0) : billE ru l = .tuple #[.int .i64 (remK (·.mins) ru l 0), .int .i64 (remK (·.water) ru l 0), .int .i64 (remK (·.cost) ru l 0), .int .i64 (refE ru l)] := by
 have e : ∀ f : Kd → Int, billS f ru l (wsL l l.length).length = remK f ru l 0 := fun f => by
  unfold billS remK sumK
  rw [List.take_length]
  simp [wsL]
 rw [billE, if_pos hz, e, e, e, hz]
theorem flatMap_same {α β : Type} {f g : α → List β} : ∀ {l : List α}, (∀ x ∈ l, f x = g x) → l.flatMap f = l.flatMap g
 | [], _ => rfl
 | x :: l, h => by rw [List.flatMap_cons, List.flatMap_cons, h x (List.mem_cons_self ..), flatMap_same fun y hy => h y (List.mem_cons_of_mem _ hy)]
theorem audE_ref {ru : Rules} {l : List Ev} (hz : refE ru l = 0) : audE ru l = audRL ru l l.length := by
 obtain ⟨hro, hv, _⟩ := ref_ok hz;rw [audE, if_pos hz]
 unfold audL audRL
 refine flatMap_same fun i hi => ?_
 unfold audAt audRAt
 split
 ·unfold audK audRK
  refine flatMap_same fun b hb => ?_
  unfold audOne audROne
  rw [sim_forb hro (sim_after hro (take_all hv i)) (List.mem_range.1 hb)]
 ·rfl
theorem hi_zero {ru : Rules} (hro : RulesOk ru) {c : Nat} (hc : ru.levels.length ≤ c) : ∀ (l : List Ev) (tk : List Tr), l.all (evB ru) = true → (tk.getD c tr0).hi = 0 → ((l.foldl (stepT ru) tk).getD c tr0).hi = 0
 | [], _, _, h => h
 | x :: l, tk, hl, h => by
  rw [List.all_cons, Bool.and_eq_true] at hl;refine hi_zero hro hc l _ hl.2 ?_;have hm : ∀ f : Tr → Tr, (f (tk.getD c tr0)).hi = 0 → ((tk.map f).getD c tr0).hi = 0 := fun f hf => by
   by_cases hct : c < tk.length
   ·rw [map_getD (d := tr0) hct]; exact hf
   ·rw [List.getD_eq_getElem?_getD, List.getElem?_eq_none (by rw [List.length_map]; omega)]; rfl
  unfold stepT
  split
  ·have hp := kd_pow hro x.number.toNat
   refine hm _ ?_
   unfold redT
   dsimp only
   omega
  ·rename_i hk
   have hnum : x.number.toNat < ru.levels.length := by
    rcases ev_one hl.1 with ⟨h2, _⟩ | ⟨_, k, ek, hk2⟩
    ·exact absurd h2 hk
    ·omega
   have hf := hro.fade
   unfold loadT
   rw [List.getD_eq_getElem?_getD, List.getElem?_set, if_neg (by omega), ← List.getD_eq_getElem?_getD]
   refine hm _ ?_
   unfold fadeT
   dsimp only
   omega
theorem filter_same {α : Type} {p q : α → Bool} : ∀ {l : List α}, (∀ x ∈ l, p x = q x) → l.filter p = l.filter q := fun h => List.filter_congr h
theorem slopAt_ref {ru : Rules} (hro : RulesOk ru) {tk : List Tr} {u : RT} (h : Sim ru.levels.length tk u) (h0 : ∀ c, ru.levels.length ≤ c → (tk.getD c tr0).hi = 0) : slopAt tk 8 = slR u ru.levels.length := by
 have hn8 := hro.n8;have key : ∀ k, slopAt tk (ru.levels.length + k) = slopAt tk ru.levels.length := fun k => by
  induction k with
  | zero => rfl
  | succ k ih =>
   have := h0 (ru.levels.length + k) (by omega)
   rw [← Nat.add_assoc, slopAt_succ, if_neg (by omega), List.append_nil, ih]
 have e := key (8 - ru.levels.length);rw [show ru.levels.length + (8 - ru.levels.length) = 8 by omega] at e
 rw [e]
 unfold slopAt slR
 exact congrArg (List.map fun c => ((c : Nat) : Int)) (filter_same fun c hc => decide_eq_decide.2 (by rw [h.hi c (List.mem_range.1 hc)]))
theorem slopE_ref {ru : Rules} {l : List Ev} (hz : refE ru l = 0) : slopE ru l = slopRL ru l l.length := by
 obtain ⟨hro, hv, _⟩ := ref_ok hz;rw [slopE, if_pos hz]
 unfold slopL slopRL
 rw [List.take_length];refine List.map_congr_left fun i _ => slopAt_ref hro (sim_after hro (take_all hv i)) fun c hc => hi_zero hro hc _ _ (take_all hv i) ?_
 unfold tank0
 rw [List.getD_eq_getElem?_getD, List.getElem?_replicate]
 split <;> rfl
theorem audE_len {ru : Rules} {l : List Ev} (hn : ru.levels.length ≤ 12) : (audE ru l).length ≤ l.length * 12 := by
 unfold audE
 split
 ·exact Nat.le_trans audL_len (Nat.mul_le_mul_left _ hn)
 ·simp
theorem slopE_len (ru : Rules) (l : List Ev) : (slopE ru l).length ≤ l.length := by
 unfold slopE
 split
 ·rw [slopL_len (Nat.le_refl _)]; exact wsL_len
 ·simp
theorem slopE_row (ru : Rules) (l : List Ev) (k : Nat) : ((slopE ru l).getD k []).length ≤ 8 := by
 by_cases hk : k < (slopE ru l).length
 ·rw [getD_in hk]
  have hm := List.getElem_mem hk
  generalize (slopE ru l)[k] = x at hm
  unfold slopE at hm
  split at hm
  ·unfold slopL at hm
   obtain ⟨i, _, rfl⟩ := List.mem_map.1 hm
   exact slopAt_len
  ·exact absurd hm List.not_mem_nil
 ·rw [List.getD_eq_getElem?_getD, List.getElem?_eq_none (by omega)]
  simp
set_option maxHeartbeats 4000000 in
theorem audits_law {ru : Rules} {ua up : List Value} {vl va vp vk : Value} {w : World} {B : Nat} (hr : RdRules w B vl va vp vk ru ua up) (hB : B ≤ w.heap.size) {l : List Ev} {v : Value} (hl : Rd w B 2 v l.length (evsC l)) :
  Calls Try.prog 3 #[rulesV vl va vp vk ru, v] w fun e w' => e = .returned (.bool true) ∧ Below w.heap.size w w' := by
 obtain ⟨Al, cl, rfl, _⟩ := hr.levels.shape;obtain ⟨Aa, ca, rfl, _⟩ := hr.allow.rd.shape;obtain ⟨Ap, cp, rfl, _⟩ := hr.apart.rd.shape;obtain ⟨Ak, ck, rfl, _⟩ := hr.kinds.shape;obtain ⟨Ae, ce, rfl, _⟩ := hl.shape;have hbw := Below.refl w.heap.size w
 unfold rulesV
 refine EC.enter 198 Try.func3 rfl rfl rfl (EC.seq (EC.region (EL.newP (bx_28 rfl) rfl ?_)));intro g1 w1 q1 hb1 hg1 hl1;have bhbw_1 := Nat.le_trans hbw.size hg1;replace hbw := bo_ hbw hb1;clear hb1 hg1 hl1;refine EL.as rfl rfl (EL.nil (EX.seq (EC.seq (EC.seq (EC.region (EL.val (ld_28 rfl (q1.at (j := 0) rfl) (q1.at (j := 1) rfl) (q1.at (j := 2) rfl) (q1.at (j := 3) rfl) (q1.at (j := 4) rfl) (q1.at (j := 5) rfl)) rfl (EL.mv rfl rfl (EL.call (cl_11 rfl rfl) rfl (great_any (hr.below (hbw.mono hB)) (Nat.le_trans hB hbw.size) (hl.below (hbw.mono hB))) ?_))))))))
 rintro e wB ⟨⟨bB, rfl, hgr⟩, hcB⟩
 cases bB
 ·
  have hwe := hgr rfl;have hs := hwe.short;have hn := hwe.l;refine ⟨_, rfl, ?_⟩;replace q1 := q1.bl hcB;replace hbw := bo_ hbw hcB;clear hcB;refine EL.nil (EX.seq (EC.no rfl (EC.skip (EX.seq (EC.seq (EC.region (EL.val (ld_28 rfl (q1.at (j := 0) rfl) (q1.at (j := 1) rfl) (q1.at (j := 2) rfl) (q1.at (j := 3) rfl) (q1.at (j := 4) rfl) (q1.at (j := 5) rfl)) rfl (EL.call (cl_14 rfl) rfl (own_any (hr.below (hbw.mono hB)) (Nat.le_trans hB hbw.size) hwe) ?_))))))))
  rintro e w2 ⟨⟨vl2, va2, vp2, vk2, ua2, up2, rfl, hR2⟩, hc2⟩
  refine ⟨_, rfl, ?_⟩;replace q1 := q1.bl hc2;replace hbw := bo_ hbw hc2;clear hc2;refine EL.mv rfl rfl ?_;refine EL.call (cl_15 rfl) rfl (events_any (hl.below (hbw.mono hB)) (Nat.le_trans hB hbw.size) (by omega)) ?_
  rintro e w3 ⟨⟨vx, rfl, hx⟩, hc3⟩
  refine ⟨_, rfl, ?_⟩;replace q1 := q1.bl hc3;replace hR2 := (hR2.below hc3).more hc3.size;replace hbw := bo_ hbw hc3;clear hc3;refine EL.call (cl_13 rfl rfl) rfl (Audit_any hR2 (Nat.le_refl _) hs (Rd.of_own hx) (by omega)) ?_
  rintro e w4 ⟨⟨v5, rfl, hrA⟩, hc4⟩
  refine ⟨_, rfl, ?_⟩;replace hrA := own_less hrA hbw.size;clear hR2 hx;replace q1 := q1.bl hc4;replace hbw := bo_ hbw hc4;clear hc4;obtain ⟨A5, c5, rfl, _⟩ := (Rd.of_own hrA).shape;refine EL.mv rfl rfl (EL.val (x_extract rfl rfl) rfl (EL.val (x_extract rfl rfl) rfl (EL.as rfl rfl (EL.as rfl rfl (EL.nil (EX.seq (EC.seq (EC.region (EL.val (ld_28 rfl (q1.at (j := 0) rfl) (q1.at (j := 1) rfl) (q1.at (j := 2) rfl) (q1.at (j := 3) rfl) (q1.at (j := 4) rfl) (q1.at (j := 5) rfl)) rfl ?_)))))))));refine EL.call (cl_14 rfl) rfl (own_any (hr.below (hbw.mono hB)) (Nat.le_trans hB hbw.size) hwe) ?_
  rintro e w5 ⟨⟨vl2, va2, vp2, vk2, ua2, up2, rfl, hR2⟩, hc5⟩
  refine ⟨_, rfl, ?_⟩;replace q1 := q1.bl hc5;replace hrA := own_below hrA hc5 (Nat.le_refl _);replace hbw := bo_ hbw hc5;clear hc5;refine EL.mv rfl rfl ?_;refine EL.call (cl_15 rfl) rfl (events_any (hl.below (hbw.mono hB)) (Nat.le_trans hB hbw.size) (by omega)) ?_
  rintro e w6 ⟨⟨vx, rfl, hx⟩, hc6⟩
  refine ⟨_, rfl, ?_⟩;replace q1 := q1.bl hc6;replace hrA := own_below hrA hc6 (Nat.le_refl _);replace hR2 := (hR2.below hc6).more hc6.size;replace hbw := bo_ hbw hc6;clear hc6;refine EL.call (cl_16 rfl rfl) rfl (Slops_any hR2 (Nat.le_refl _) hs (Rd.of_own hx) (by omega)) ?_
  rintro e w7 ⟨⟨v7, us7, rfl, hS⟩, hc7⟩
  refine ⟨_, rfl, ?_⟩;replace hS := hS.less hbw.size;clear hR2 hx;replace q1 := q1.bl hc7;replace hrA := own_below hrA hc7 (Nat.le_refl _);replace hbw := bo_ hbw hc7;clear hc7;obtain ⟨A7, c7, rfl, _⟩ := (Rd.of_own hS.own).shape;refine EL.mv rfl rfl (EL.val (x_extract rfl rfl) rfl (EL.val (x_extract rfl rfl) rfl (EL.as rfl rfl (EL.as rfl rfl (EL.nil (EX.seq (EC.seq (EC.region (EL.val (ld_28 rfl (q1.at (j := 0) rfl) (q1.at (j := 1) rfl) (q1.at (j := 2) rfl) (q1.at (j := 3) rfl) (q1.at (j := 4) rfl) (q1.at (j := 5) rfl)) rfl ?_)))))))));refine EL.call (cl_14 rfl) rfl (own_any (hr.below (hbw.mono hB)) (Nat.le_trans hB hbw.size) hwe) ?_
  rintro e w8 ⟨⟨vl2, va2, vp2, vk2, ua2, up2, rfl, hR2⟩, hc8⟩
  refine ⟨_, rfl, ?_⟩;replace q1 := q1.bl hc8;replace hrA := own_below hrA hc8 (Nat.le_refl _);replace hS := (hS.below hc8).more hc8.size;replace hbw := bo_ hbw hc8;clear hc8;refine EL.mv rfl rfl ?_;refine EL.call (cl_15 rfl) rfl (events_any (hl.below (hbw.mono hB)) (Nat.le_trans hB hbw.size) (by omega)) ?_
  rintro e w9 ⟨⟨vx, rfl, hx⟩, hc9⟩
  refine ⟨_, rfl, ?_⟩;replace q1 := q1.bl hc9;replace hrA := own_below hrA hc9 (Nat.le_refl _);replace hS := (hS.below hc9).more hc9.size;replace hR2 := (hR2.below hc9).more hc9.size;replace hbw := bo_ hbw hc9;clear hc9;obtain ⟨b1_, b2_, b3_, hm_⟩ := billE_t ru l;have hcall := Bill_any hR2 (Nat.le_refl _) hs (Rd.of_own hx) (by omega)
  rw [hm_] at hcall;refine EL.call (cl_17 rfl rfl) rfl (hcall) ?_
  rintro e w10 ⟨rfl, hc10⟩
  refine ⟨_, rfl, ?_⟩;clear hR2 hx;replace q1 := q1.bl hc10;replace hrA := own_below hrA hc10 (Nat.le_refl _);replace hS := (hS.below hc10).more hc10.size;replace hbw := bo_ hbw hc10;clear hc10 hcall;refine EL.mv rfl rfl (EL.val (x_extract rfl rfl) rfl (EL.val (x_extract rfl rfl) rfl (EL.val (x_extract rfl rfl) rfl (EL.val (x_extract rfl rfl) rfl (EL.as rfl rfl (EL.as rfl rfl (EL.as rfl rfl (EL.as rfl rfl (EL.nil ?_)))))))));refine EX.seq (EC.seq (EC.seq (EC.region (EL.val (ld_28 rfl (q1.at (j := 0) rfl) (q1.at (j := 1) rfl) (q1.at (j := 2) rfl) (q1.at (j := 3) rfl) (q1.at (j := 4) rfl) (q1.at (j := 5) rfl)) rfl (EL.mv rfl rfl ?_)))));refine EL.call (cl_18 rfl rfl) rfl (refused_any (hr.below (hbw.mono hB)) (Nat.le_trans hB hbw.size) hs (hl.below (hbw.mono hB)) (by omega)) ?_
  rintro e w11 ⟨rfl, hc11⟩
  refine ⟨_, rfl, ?_⟩;replace q1 := q1.bl hc11;replace hrA := own_below hrA hc11 (Nat.le_refl _);replace hS := (hS.below hc11).more hc11.size;replace hbw := bo_ hbw hc11;clear hc11;refine EL.as rfl rfl (EL.nil (EX.seq (EC.seq (EC.region (EL.mv rfl rfl ?_)))))
  by_cases hz : refE ru l = 0
  ·
   obtain ⟨hro, hv, hn100⟩ := ref_ok hz;rw [bill_rem hz] at hm_;obtain ⟨rfl, rfl, rfl⟩ := tup4 hm_;have hae := audE_ref hz;have hse := slopE_ref hz;refine EL.val (x_neq (r := false) rfl rfl (decide_eq_false (fun h => h hz))) rfl ?_
   refine EL.nil (EX.seq (EC.no rfl (EC.skip (EX.seq (EC.seq ?_)))));have lt_1 := q1.lt;refine EC.regionP [[], [], [0, 1], [], [], [0, 1, 2, 3, 4], [0, 1, 2, 3, 4, 5], [0, 1, 2, 3, 4, 5, 6]] 6 [] (phi (fun i_ r => match i_ with | 0 => r 0 = .agg #[.slice Al ru.levels.length cl, .int .i64 ru.fade.lo, .int .i64 ru.fade.hi, .slice Aa ru.allow.length ca, .slice Ap ru.apart.length cp, .slice Ak ru.kinds.length ck] | 1 => r 1 = .slice Ae l.length ce | 3 => r 3 = .agg #[.slice Al ru.levels.length cl, .int .i64 ru.fade.lo, .int .i64 ru.fade.hi, .slice Aa ru.allow.length ca, .slice Ap ru.apart.length cp, .slice Ak ru.kinds.length ck] | 4 => r 4 = .slice Ae l.length ce | _ => True) [(2, fun r w_ => ∃ A c, r 2 = .slice A (audE ru l).length c ∧ w_.ownsRow w.heap.size 46 3 (.slice A (audE ru l).length c) (audE ru l).length (brsC (audE ru l))), (5, fun r w_ => ∃ A c us, r 5 = .slice A (slopE ru l).length c ∧ OwnLL w_ w.heap.size w_.heap.size (.slice A (slopE ru l).length c) (slopE ru l) us)]) (by kernel_rfl) rfl rfl (phi_cons (mono_cp (f := fun A c => .slice A (audE ru l).length c)) (phi_cons (mono_ll (f := fun A c => .slice A (slopE ru l).length c)) (phi_nil))) (fun i_ hi_ => ?_) ?_
   ·match i_, hi_ with
    | 0, _ =>
     intro val w1 a hb ha hd;have ha := ha.s0 (d := 2) rfl
     exact hs_val ha rfl rfl (ld_28 rfl ((q1.below hb q1.lt).at (j := 0) rfl) ((q1.below hb q1.lt).at (j := 1) rfl) ((q1.below hb q1.lt).at (j := 2) rfl) ((q1.below hb q1.lt).at (j := 3) rfl) ((q1.below hb q1.lt).at (j := 4) rfl) ((q1.below hb q1.lt).at (j := 5) rfl)) rfl rfl
    | 1, _ =>
     intro val w1 a hb ha hd;have ha := ha.s0 (d := 1) rfl
     exact hs_val ha rfl rfl (x_move rfl) rfl rfl
    | 2, _ =>
     intro val w1 a hb ha hd;have e0 : val 0 = .agg #[.slice Al ru.levels.length cl, .int .i64 ru.fade.lo, .int .i64 ru.fade.hi, .slice Aa ru.allow.length ca, .slice Ap ru.apart.length cp, .slice Ak ru.kinds.length ck] := hd 0 (memB_mem.1 rfl);have e1 : val 1 = .slice Ae l.length ce := hd 1 (memB_mem.1 rfl);have ha := ha.sub (Sub.ins (d := 92) (Sub.ins (d := 91) (Sub.nil _) (dep_get rfl e0)) (dep_get rfl e1));have hcall := rAudit_any (hr.below ((hbw.trans (hb.mono hbw.size)).mono hB)) (Nat.le_trans hB (Nat.le_trans hbw.size hb.size)) hro (hl.below ((hbw.trans (hb.mono hbw.size)).mono hB)) hv hn100;rw [← hae] at hcall;refine hs_call ha rfl rfl (cl_19 rfl rfl) hcall rfl ?_
     rintro e w' ⟨⟨u, rfl, h1⟩, hb'⟩
     obtain ⟨A, c, rfl, _⟩ := (Rd.of_own h1).shape
     exact ⟨_, rfl, hb', ⟨A, c, rfl, own_less h1 (Nat.le_trans hbw.size hb.size)⟩⟩
    | 3, _ =>
     intro val w1 a hb ha hd;have ha := ha.s0 (d := 2) rfl
     exact hs_val ha rfl rfl (ld_28 rfl ((q1.below hb q1.lt).at (j := 0) rfl) ((q1.below hb q1.lt).at (j := 1) rfl) ((q1.below hb q1.lt).at (j := 2) rfl) ((q1.below hb q1.lt).at (j := 3) rfl) ((q1.below hb q1.lt).at (j := 4) rfl) ((q1.below hb q1.lt).at (j := 5) rfl)) rfl rfl
    | 4, _ =>
     intro val w1 a hb ha hd;have ha := ha.s0 (d := 1) rfl
     exact hs_val ha rfl rfl (x_move rfl) rfl rfl
    | 5, _ =>
     intro val w1 a hb ha hd;have e3 : val 3 = .agg #[.slice Al ru.levels.length cl, .int .i64 ru.fade.lo, .int .i64 ru.fade.hi, .slice Aa ru.allow.length ca, .slice Ap ru.apart.length cp, .slice Ak ru.kinds.length ck] := hd 3 (memB_mem.1 rfl);have e4 : val 4 = .slice Ae l.length ce := hd 4 (memB_mem.1 rfl);have ha := ha.sub (Sub.ins (d := 95) (Sub.ins (d := 94) (Sub.nil _) (dep_get rfl e3)) (dep_get rfl e4));have hcall := rSlops_any (hr.below ((hbw.trans (hb.mono hbw.size)).mono hB)) (Nat.le_trans hB (Nat.le_trans hbw.size hb.size)) hro (hl.below ((hbw.trans (hb.mono hbw.size)).mono hB)) hv hn100;rw [← hse] at hcall;refine hs_call ha rfl rfl (cl_20 rfl rfl) hcall rfl ?_
     rintro e w' ⟨⟨u, us, rfl, h1⟩, hb'⟩
     obtain ⟨A, c, rfl, _⟩ := (Rd.of_own h1.own).shape
     exact ⟨_, rfl, hb', ⟨A, c, us, rfl, h1.less (Nat.le_trans hbw.size hb.size)⟩⟩
    | k + 6, h => exact absurd h (by omega)
   ·intro val wR9 hb halc hd
    have e0 : val 0 = .agg #[.slice Al ru.levels.length cl, .int .i64 ru.fade.lo, .int .i64 ru.fade.hi, .slice Aa ru.allow.length ca, .slice Ap ru.apart.length cp, .slice Ak ru.kinds.length ck] := hd 0 (by omega)
    have e1 : val 1 = .slice Ae l.length ce := hd 1 (by omega)
    obtain ⟨A14, c14, e2, hrR⟩ := hd 2 (by omega)
    have e3 : val 3 = .agg #[.slice Al ru.levels.length cl, .int .i64 ru.fade.lo, .int .i64 ru.fade.hi, .slice Aa ru.allow.length ca, .slice Ap ru.apart.length cp, .slice Ak ru.kinds.length ck] := hd 3 (by omega)
    have e4 : val 4 = .slice Ae l.length ce := hd 4 (by omega)
    obtain ⟨A15, c15, us15, e5, hT⟩ := hd 5 (by omega)
    refine EL.ends (cs := [.agg #[.slice Al ru.levels.length cl, .int .i64 ru.fade.lo, .int .i64 ru.fade.hi, .slice Aa ru.allow.length ca, .slice Ap ru.apart.length cp, .slice Ak ru.kinds.length ck], .slice Ae l.length ce, .slice A14 (audE ru l).length c14, .agg #[.slice Al ru.levels.length cl, .int .i64 ru.fade.lo, .int .i64 ru.fade.hi, .slice Aa ru.allow.length ca, .slice Ap ru.apart.length cp, .slice Ak ru.kinds.length ck], .slice Ae l.length ce, .slice A15 (slopE ru l).length c15]) ⟨e0, e1, e2, e3, e4, e5, trivial⟩ rfl ?_;replace q1 := q1.bl hb;replace hrA := own_below hrA hb (Nat.le_refl _);replace hS := (hS.below hb).more hb.size;replace hbw := bo_ hbw hb;clear hb;refine EL.as rfl rfl (EL.as rfl rfl (EL.nil (EX.seq (EC.seq (EC.seq (EC.region (EL.mv rfl rfl ?_)))))));refine EL.val (x_neq (r := false) rfl rfl (decide_eq_false (fun h => h hz))) rfl ?_
    refine EL.mv rfl rfl (EL.valg rfl rfl (x_move rfl) rfl ?_);refine EL.valg rfl rfl (x_neq (r := false) rfl rfl (decide_eq_false (fun h => h hz))) rfl ?_
    refine EL.val (x_pick_f rfl rfl) rfl (EL.mv rfl rfl (EL.valg rfl rfl (x_move rfl) rfl ?_));refine EL.valg rfl rfl (x_neq (r := false) rfl rfl (decide_eq_false (fun h => h hz))) rfl ?_
    refine EL.val (x_pick_f rfl rfl) rfl (EL.mv rfl rfl (EL.valg rfl rfl (x_move rfl) rfl (EL.valg rfl rfl (ln_32 rfl) rfl (EL.valg rfl rfl (x_move rfl) rfl (EL.valg rfl rfl (ln_32 rfl) rfl ?_)))));refine EL.valg rfl rfl (x_neq (r := false) rfl rfl (decide_eq_false (fun h => h rfl))) rfl ?_
    refine EL.val (x_pick_f rfl rfl) rfl (EL.mv rfl rfl (EL.valg rfl rfl (x_move rfl) rfl (EL.valg rfl rfl (ln_25 rfl) rfl (EL.valg rfl rfl (x_move rfl) rfl (EL.valg rfl rfl (ln_25 rfl) rfl ?_)))));refine EL.valg rfl rfl (x_neq (r := false) rfl rfl (decide_eq_false (fun h => h rfl))) rfl ?_
    refine EL.val (x_pick_f rfl rfl) rfl (EL.nil (EX.seq (EC.no rfl (EC.skip (EX.seq (EC.seq (EC.seq (EC.region (EL.as rfl rfl ?_)))))))));refine EL.nil (EX.seq (EC.block ?_));have hcl := Below.refl wR9.heap.size wR9;refine EC.loopD [4, 16, 121, 122, 123, 124, 125, 126, 127, 128, 129, 130, 131, 132, 133, 134, 135] (fun x : Nat => [(16, .int .i64 (x : Nat))]) (fun x W => x ≤ (audE ru l).length ∧ Below wR9.heap.size wR9 W) (fun x => (audE ru l).length - x) 0 ⟨Nat.zero_le _, hcl⟩ ⟨rfl, trivial⟩ ?_
    clear hcl
    rintro i wx13 ⟨hi13, hb13⟩
    replace q1 := q1.bl hb13;replace hrA := own_below hrA hb13 (Nat.le_refl _);replace hrR := own_below hrR hb13 (Nat.le_refl _);replace hS := (hS.below hb13).more hb13.size;replace hT := (hT.below hb13).more hb13.size;replace hbw := hbw.trans (hb13.mono hbw.size)
    by_cases hlt13 : i < (audE ru l).length
    ·
     obtain ⟨b1, o1, eb1, _, x0, x1, x2⟩ := brs_cells (audE ru l) i hlt13 wx13 wx13.heap.size _ _ _ (Rd.of_own hrA);obtain ⟨b2, o2, eb2, _, y0, y1, y2⟩ := brs_cells (audE ru l) i hlt13 wx13 wx13.heap.size _ _ _ (Rd.of_own hrR);have hal := audE_len (l := l) hwe.n;refine EC.seq (EC.seq (EC.region (EL.mv rfl rfl (EL.mv rfl rfl (EL.val (ln_32 rfl) rfl ?_)))));refine EL.val (x_lss rfl rfl (decide_eq_true (show (((i : Nat) : Int) < (((audE ru l).length : Nat) : Int)) by omega))) rfl ?_
     refine EL.nil (EX.seq (EC.yes rfl (EC.skip (EX.seq (EC.seq (EC.block (EC.seq ?_)))))));refine EC.regionQ (by kernel_rfl) (by kernel_rfl) ?_
     refine EQ.val (fun _ hw => (x_move rfl)) rfl ?_
     refine EQ.val (fun _ hw => (x_move rfl)) rfl ?_
     refine EQ.val (fun _ hw => (ix_32 (by show some (Value.slice A5 _ _) = _; rw [eb1]) rfl hlt13)) rfl ?_
     refine EQ.val (fun _ hw => (ld_46 rfl (below_load hw x0) (below_load hw x1) (below_load hw x2))) rfl ?_
     refine EQ.val (fun _ hw => (x_move rfl)) rfl ?_
     refine EQ.val (fun _ hw => (x_move rfl)) rfl ?_
     refine EQ.val (fun _ hw => (ix_32 (by show some (Value.slice A14 _ _) = _; rw [eb2]) rfl hlt13)) rfl ?_
     refine EQ.val (fun _ hw => (ld_46 rfl (below_load hw y0) (below_load hw y1) (below_load hw y2))) rfl ?_
     refine EQ.val (fun _ hw => (x_neqBr (r := false) rfl rfl (by simp))) rfl ?_
     refine EQ.fin (fun w12 hw_ => ?_)
     replace q1 := q1.bl hw_;replace hrA := own_below hrA hw_ (Nat.le_refl _);replace hrR := own_below hrR hw_ (Nat.le_refl _);replace hS := (hS.below hw_).more hw_.size;replace hT := (hT.below hw_).more hw_.size;replace hbw := bo_ hbw hw_;replace hb13 := bo_ hb13 hw_;clear hw_;refine EX.seq (EC.no rfl (EC.skip (EX.blk (EX.seq (EC.region (EL.mv rfl rfl ?_))))));refine EL.val (x_add rfl rfl (c := ((i + 1 : Nat) : Int)) ((IntWalk.i64_in _ ⟨by omega, by omega⟩).trans (by omega))) rfl ?_
     refine EL.as rfl rfl (EL.nil ?_);refine EX.roundD (i + 1) ⟨rfl, trivial⟩ (by repeat first | with_reducible exact Sub.refl _ | refine sub_past rfl ?_ | exact Sub.refl _ | refine sub_del rfl ?_ | refine sub_insL_nil ?_) ⟨hlt13, hb13⟩ (by omega)
    ·
     have hxe13 : i = (audE ru l).length := by omega
     refine EC.seq (EC.seq (EC.region (EL.mv rfl rfl (EL.mv rfl rfl (EL.val (ln_32 rfl) rfl ?_)))));refine EL.val (x_lss rfl rfl (decide_eq_false (show ¬(((i : Nat) : Int) < (((audE ru l).length : Nat) : Int)) by omega))) rfl ?_
     refine EL.nil (EX.seq (EC.no rfl (EC.exit (EX.seq_exit (EX.seq_exit (EX.blk_here (EX.seq (EC.seq (EC.seq ?_)))))))));refine EC.region (EL.as rfl rfl (EL.nil (EX.seq (EC.block ?_))));have hcl := Below.refl wx13.heap.size wx13;refine EC.loopD [4, 17, 136, 137, 138, 139, 140, 141, 142, 143, 144, 145, 146, 147, 148, 149, 150, 151] (fun x : Nat => [(17, .int .i64 (x : Nat))]) (fun x W => x ≤ (slopE ru l).length ∧ Below wx13.heap.size wx13 W) (fun x => (slopE ru l).length - x) 0 ⟨Nat.zero_le _, hcl⟩ ⟨rfl, trivial⟩ ?_
     clear hcl
     rintro k wx18 ⟨hi18, hb18⟩
     replace q1 := q1.bl hb18;replace hrA := own_below hrA hb18 (Nat.le_refl _);replace hrR := own_below hrR hb18 (Nat.le_refl _);replace hS := (hS.below hb18).more hb18.size;replace hT := (hT.below hb18).more hb18.size;replace hbw := hbw.trans (hb18.mono hbw.size)
     by_cases hlt18 : k < (slopE ru l).length
     ·
      obtain ⟨b1, o1, ec1, _, x0⟩ := vals_cells us7 k (by rw [hS.len]; exact hlt18) wx18 wx18.heap.size _ _ _ hS.rd.rd
      obtain ⟨b2, o2, ec2, _, y0⟩ := vals_cells us15 k (by rw [hT.len]; exact hlt18) wx18 wx18.heap.size _ _ _ hT.rd.rd
      have hS1 := hS.rd.row k hlt18;have hT1 := hT.rd.row k hlt18;rw [← ints_flat] at hS1 hT1;obtain ⟨As1, cs1, es1, _⟩ := hS1.shape;rw [es1] at x0 hS1;obtain ⟨At1, ct1, et1, _⟩ := hT1.shape;rw [et1] at y0 hT1;have hrow := slopE_row ru l k;have hsl := slopE_len ru l;refine EC.seq (EC.seq (EC.region (EL.mv rfl rfl (EL.mv rfl rfl (EL.val (ln_25 rfl) rfl ?_)))));refine EL.val (x_lss rfl rfl (decide_eq_true (show (((k : Nat) : Int) < (((slopE ru l).length : Nat) : Int)) by omega))) rfl ?_
      refine EL.nil (EX.seq (EC.yes rfl (EC.skip (EX.seq (EC.seq (EC.block (EC.seq ?_)))))));refine EC.regionQ (by kernel_rfl) (by kernel_rfl) ?_
      refine EQ.val (fun _ hw => (x_move rfl)) rfl ?_
      refine EQ.val (fun _ hw => (x_move rfl)) rfl ?_
      refine EQ.val (fun _ hw => (ix_25 (by show some (Value.slice A7 _ _) = _; rw [ec1]) rfl hlt18)) rfl ?_
      refine EQ.val (fun _ hw => (ld_22 rfl (below_load hw x0))) rfl ?_
      refine EQ.val (fun _ hw => (x_move rfl)) rfl ?_
      refine EQ.val (fun _ hw => (x_move rfl)) rfl ?_
      refine EQ.val (fun _ hw => (ix_25 (by show some (Value.slice A15 _ _) = _; rw [ec2]) rfl hlt18)) rfl ?_
      refine EQ.val (fun _ hw => (ld_22 rfl (below_load hw y0))) rfl ?_
      refine EQ.call (fun _ _ _ ha => cl_21 rfl rfl _ ha) rfl (fun W hw => (equal_same (hS1.below hw) (hT1.below hw) hw.size (by omega)).mono fun e w' h => ⟨h.1, hw.trans (h.2.mono hw.size)⟩) ?_
      refine EQ.val (fun _ hw => (x_not rfl)) rfl ?_
      refine EQ.fin (fun w13 hw_ => ?_)
      replace q1 := q1.bl hw_;replace hrA := own_below hrA hw_ (Nat.le_refl _);replace hrR := own_below hrR hw_ (Nat.le_refl _);replace hS := (hS.below hw_).more hw_.size;replace hT := (hT.below hw_).more hw_.size;replace hbw := bo_ hbw hw_;replace hb18 := bo_ hb18 hw_;clear hw_;refine EX.seq (EC.no rfl (EC.skip (EX.blk (EX.seq (EC.region (EL.mv rfl rfl ?_))))));refine EL.val (x_add rfl rfl (c := ((k + 1 : Nat) : Int)) ((IntWalk.i64_in _ ⟨by omega, by omega⟩).trans (by omega))) rfl ?_
      refine EL.as rfl rfl (EL.nil ?_);refine EX.roundD (k + 1) ⟨rfl, trivial⟩ (by repeat first | with_reducible exact Sub.refl _ | refine sub_past rfl ?_ | exact Sub.refl _ | refine sub_del rfl ?_ | refine sub_insL_nil ?_) ⟨hlt18, hb18⟩ (by omega)
     ·
      have hxe18 : k = (slopE ru l).length := by omega
      refine EC.seq (EC.seq (EC.region (EL.mv rfl rfl (EL.mv rfl rfl (EL.val (ln_25 rfl) rfl ?_)))));refine EL.val (x_lss rfl rfl (decide_eq_false (show ¬(((k : Nat) : Int) < (((slopE ru l).length : Nat) : Int)) by omega))) rfl ?_
      refine EL.nil (EX.seq (EC.no rfl (EC.exit (EX.seq_exit (EX.seq_exit (EX.blk_here (EX.seq (EC.seq (EC.seq ?_)))))))));refine EC.region (EL.as rfl rfl (EL.nil (EX.seq (EC.block ?_))));have hcl := Below.refl wx18.heap.size wx18;refine EC.loopD [9, 10, 11, 18, 19, 152, 153, 154, 155, 156, 157, 158, 159, 160, 161, 162, 163, 164, 165, 166, 167, 168, 169, 170, 171, 172, 173, 174, 175, 176, 177, 178, 179, 180, 181, 182, 183, 184] (fun x : Nat => [(18, .int .i64 (x : Nat)), (9, .int .i64 (remK (·.mins) ru l x)), (10, .int .i64 (remK (·.water) ru l x)), (11, .int .i64 (remK (·.cost) ru l x))]) (fun x W => x ≤ l.length ∧ Blk W g1 28 #[.slice Al ru.levels.length cl, .int .i64 ru.fade.lo, .int .i64 ru.fade.hi, .slice Aa ru.allow.length ca, .slice Ap ru.apart.length cp, .slice Ak ru.kinds.length ck] ∧ Below w.heap.size w W) (fun x => l.length - x) 0 ⟨Nat.zero_le _, q1, hbw⟩ ⟨rfl, rfl, rfl, rfl, trivial⟩ ?_
      clear hcl hbw q1
      rintro i wx ⟨hi, q1, hbw⟩
      by_cases hlt : i < l.length
      ·
       obtain ⟨be, oe, eAe, _, z0, z1⟩ := evs_cells l i hlt w B _ _ _ hl;have hev : evB ru (l.getD i ev0) = true := by rw [getD_in hlt]; exact List.all_eq_true.1 hv _ (List.getElem_mem _)
       refine EC.seq (EC.seq (EC.region (EL.mv rfl rfl (EL.mv rfl rfl (EL.val (ln_29 rfl) rfl ?_)))));refine EL.val (x_lss rfl rfl (decide_eq_true (show (((i : Nat) : Int) < ((l.length : Nat) : Int)) by omega))) rfl ?_
       refine EL.nil (EX.seq (EC.yes rfl (EC.skip (EX.seq (EC.seq (EC.block (EC.seq (EC.region (EL.mv rfl rfl ?_)))))))));refine EL.mv rfl rfl ?_;refine EL.val (ix_29 (by show some (Value.slice Ae _ _) = _; rw [eAe]) rfl hlt) rfl ?_
       refine EL.val (fa_50_0 rfl) rfl (EL.val (ld_48 rfl (below_load hbw z0)) rfl ?_)
       rcases ev_one hev with ⟨hk2, k, ek, hk⟩ | ⟨hk1, k, ek, hk⟩
       ·
        obtain ⟨bk, ok, eAk, _, hkd⟩ := kds_cells ru.kinds k hk wx B _ _ _ (hr.below (hbw.mono hB)).kinds;obtain ⟨hq1, hq2, hq3⟩ := remK_bds hro hn100 (show i ≤ l.length by omega)
        obtain ⟨hp1, hp2, hp3⟩ := kd_bd hro k;refine EL.val (x_eql (r := true) rfl rfl (decide_eq_true hk2)) rfl (EL.nil (EX.seq (EC.yes rfl (EC.seq ?_))));have lt_1 := q1.lt;refine EC.regionP [[], [0], [], [], [2, 3], [2, 3, 4], [2, 3, 4, 5], [0, 1, 2, 3, 4, 5, 6], [0, 1, 2, 3, 4, 5, 6, 7], [], [0, 1, 2, 3, 4, 5, 6, 7, 8, 9]] 10 [9] (phi (fun i_ r => match i_ with | 0 => r 0 = .pointer (some ⟨g1, 5, none⟩) | 1 => r 1 = .slice Ak ru.kinds.length ck | 2 => r 2 = .slice Ae l.length ce | 3 => r 3 = .int .i64 (i : Nat) | 4 => r 4 = .pointer (some ⟨be, oe + i * 2, none⟩) | 5 => r 5 = .pointer (some ⟨be, oe + i * 2 + 1, none⟩) | 6 => r 6 = .int .i64 (l.getD i ev0).number | 7 => r 7 = .pointer (some ⟨bk, ok + k * 5, none⟩) | 8 => r 8 = .agg #[.int .i64 (ru.kinds.getD k kd0).power.lo, .int .i64 (ru.kinds.getD k kd0).power.hi, .int .i64 (ru.kinds.getD k kd0).mins, .int .i64 (ru.kinds.getD k kd0).water, .int .i64 (ru.kinds.getD k kd0).cost] | _ => True) [(9, fun r w_ => ∃ g_, r 9 = .pointer (some ⟨g_, 0, none⟩) ∧ Blk w_ g_ 52 #[.int .i64 0, .int .i64 0, .int .i64 0, .int .i64 0, .int .i64 0])]) (by kernel_rfl) rfl rfl (phi_cons mono_alloc (phi_nil)) (fun i_ hi_ => ?_) ?_
        ·match i_, hi_ with
         | 0, _ =>
          intro val w1 a hb ha hd;have ha := ha.s0 (d := 2) rfl
          exact hs_val ha rfl rfl (fa_28_4 rfl) rfl rfl
         | 1, _ =>
          intro val w1 a hb ha hd;have e0 : val 0 = .pointer (some ⟨g1, 5, none⟩) := hd 0 (memB_mem.1 rfl);have ha := ha.s1 (d := 164) rfl e0
          exact hs_val ha rfl rfl (ld_26 rfl ((q1.below hb q1.lt).at (j := 5) rfl)) rfl rfl
         | 2, _ =>
          intro val w1 a hb ha hd;have ha := ha.s0 (d := 1) rfl
          exact hs_val ha rfl rfl (x_move rfl) rfl rfl
         | 3, _ =>
          intro val w1 a hb ha hd;have ha := ha.s0 (d := 18) rfl
          exact hs_val ha rfl rfl (x_move rfl) rfl rfl
         | 4, _ =>
          intro val w1 a hb ha hd;have e2 : val 2 = .slice Ae l.length ce := hd 2 (memB_mem.1 rfl);have e3 : val 3 = .int .i64 (i : Nat) := hd 3 (memB_mem.1 rfl);have ha := ha.sub (Sub.ins (d := 167) (Sub.ins (d := 166) (Sub.nil _) (dep_get rfl e2)) (dep_get rfl e3))
          exact hs_val ha rfl rfl (ix_29 (by show some (Value.slice Ae _ _) = _; rw [eAe]) rfl hlt) rfl rfl
         | 5, _ =>
          intro val w1 a hb ha hd;have e4 : val 4 = .pointer (some ⟨be, oe + i * 2, none⟩) := hd 4 (memB_mem.1 rfl);have ha := ha.s1 (d := 168) rfl e4
          exact hs_val ha rfl rfl (fa_50_1 rfl) rfl rfl
         | 6, _ =>
          intro val w1 a hb ha hd;have e5 : val 5 = .pointer (some ⟨be, oe + i * 2 + 1, none⟩) := hd 5 (memB_mem.1 rfl);have ha := ha.s1 (d := 169) rfl e5
          exact hs_val ha rfl rfl (ld_3 rfl (below_load hb (below_load hbw z1))) rfl rfl
         | 7, _ =>
          intro val w1 a hb ha hd;have e1 : val 1 = .slice Ak ru.kinds.length ck := hd 1 (memB_mem.1 rfl);have e6 : val 6 = .int .i64 (l.getD i ev0).number := hd 6 (memB_mem.1 rfl);have ha := ha.sub (Sub.ins (d := 170) (Sub.ins (d := 165) (Sub.nil _) (dep_get rfl e1)) (dep_get rfl e6))
          exact hs_val ha rfl rfl (ix_26 (by show some (Value.slice Ak _ _) = _; rw [eAk]) (by show some (Value.int .i64 (l.getD i ev0).number) = _; rw [ek]) hk) rfl rfl
         | 8, _ =>
          intro val w1 a hb ha hd;have e7 : val 7 = .pointer (some ⟨bk, ok + k * 5, none⟩) := hd 7 (memB_mem.1 rfl);have ha := ha.s1 (d := 171) rfl e7
          exact hs_val ha rfl rfl (ld_52 rfl (below_load hb hkd.c0) (below_load hb hkd.c1) (below_load hb hkd.c2) (below_load hb hkd.c3) (below_load hb hkd.c4)) rfl rfl
         | 9, _ =>
          intro val w1 a hb ha hd;have ha := ha.sub (Sub.nil _)
          exact hs_newP ha rfl rfl al_52 (fun g w' hq _ _ => ⟨g, rfl, hq⟩)
         | k + 10, h => exact absurd h (by omega)
        ·intro val wR26 hb halc hd
         have e0 : val 0 = .pointer (some ⟨g1, 5, none⟩) := hd 0 (by omega)
         have e1 : val 1 = .slice Ak ru.kinds.length ck := hd 1 (by omega)
         have e2 : val 2 = .slice Ae l.length ce := hd 2 (by omega)
         have e3 : val 3 = .int .i64 (i : Nat) := hd 3 (by omega)
         have e4 : val 4 = .pointer (some ⟨be, oe + i * 2, none⟩) := hd 4 (by omega)
         have e5 : val 5 = .pointer (some ⟨be, oe + i * 2 + 1, none⟩) := hd 5 (by omega)
         have e6 : val 6 = .int .i64 (l.getD i ev0).number := hd 6 (by omega)
         have e7 : val 7 = .pointer (some ⟨bk, ok + k * 5, none⟩) := hd 7 (by omega)
         have e8 : val 8 = .agg #[.int .i64 (ru.kinds.getD k kd0).power.lo, .int .i64 (ru.kinds.getD k kd0).power.hi, .int .i64 (ru.kinds.getD k kd0).mins, .int .i64 (ru.kinds.getD k kd0).water, .int .i64 (ru.kinds.getD k kd0).cost] := hd 8 (by omega)
         obtain ⟨ga9_26, e9, qa9_26⟩ := hd 9 (by omega)
         refine EL.ends (cs := [.pointer (some ⟨g1, 5, none⟩), .slice Ak ru.kinds.length ck, .slice Ae l.length ce, .int .i64 (i : Nat), .pointer (some ⟨be, oe + i * 2, none⟩), .pointer (some ⟨be, oe + i * 2 + 1, none⟩), .int .i64 (l.getD i ev0).number, .pointer (some ⟨bk, ok + k * 5, none⟩), .agg #[.int .i64 (ru.kinds.getD k kd0).power.lo, .int .i64 (ru.kinds.getD k kd0).power.hi, .int .i64 (ru.kinds.getD k kd0).mins, .int .i64 (ru.kinds.getD k kd0).water, .int .i64 (ru.kinds.getD k kd0).cost], .pointer (some ⟨ga9_26, 0, none⟩)]) ⟨e0, e1, e2, e3, e4, e5, e6, e7, e8, e9, trivial⟩ rfl ?_;replace q1 := q1.bl hb;have bge14 := alc_ge halc (i := 9) rfl rfl e9;have n1_14 : g1 ≠ ga9_26 := Nat.ne_of_lt (Nat.lt_of_lt_of_le lt_1 bge14);have bhbw_14 := Nat.le_trans hbw.size bge14;replace hbw := bo_ hbw hb;clear hb;refine EL.store rfl rfl qa9_26 sz_52 rfl rfl rfl rfl ?_;intro w15 hq15 hg15;replace q1 := q1.gr hg15 n1_14;replace hbw := below_store hbw hg15 bhbw_14;replace qa9_26 := hq15;clear hg15 hq15;refine EL.nil (EX.seq ?_);have lt_1 := q1.lt;have lt_14 := qa9_26.lt;refine EC.regionP [[], [], [1], [0, 1, 2], [], [], [5], [4, 5, 6], [], [], [9], [8, 9, 10], [0, 1, 2, 3], [0, 1, 2, 3, 4, 5, 6, 7, 12], [0, 1, 2, 3, 4, 5, 6, 7, 8, 9, 10, 11, 12, 13]] 14 [] (phi (fun i_ r => match i_ with | 0 => r 0 = .int .i64 (remK (·.mins) ru l i) | 1 => r 1 = .pointer (some ⟨ga9_26, 2, none⟩) | 2 => r 2 = .int .i64 (ru.kinds.getD k kd0).mins | 3 => r 3 = .int .i64 ((remK (·.mins) ru l i) - (ru.kinds.getD k kd0).mins) | 4 => r 4 = .int .i64 (remK (·.water) ru l i) | 5 => r 5 = .pointer (some ⟨ga9_26, 3, none⟩) | 6 => r 6 = .int .i64 (ru.kinds.getD k kd0).water | 7 => r 7 = .int .i64 ((remK (·.water) ru l i) - (ru.kinds.getD k kd0).water) | 8 => r 8 = .int .i64 (remK (·.cost) ru l i) | 9 => r 9 = .pointer (some ⟨ga9_26, 4, none⟩) | 10 => r 10 = .int .i64 (ru.kinds.getD k kd0).cost | 11 => r 11 = .int .i64 ((remK (·.cost) ru l i) - (ru.kinds.getD k kd0).cost) | 12 => r 12 = .int .i64 ((remK (·.mins) ru l i) - (ru.kinds.getD k kd0).mins) | 13 => r 13 = .int .i64 ((remK (·.water) ru l i) - (ru.kinds.getD k kd0).water) | _ => True) []) (by kernel_rfl) rfl rfl (phi_nil) (fun i_ hi_ => ?_) ?_
         ·match i_, hi_ with
          | 0, _ =>
           intro val w1 a hb ha hd;have ha := ha.s0 (d := 9) rfl
           exact hs_val ha rfl rfl (x_move rfl) rfl rfl
          | 1, _ =>
           intro val w1 a hb ha hd;have ha := ha.s0 (d := 19) rfl
           exact hs_val ha rfl rfl (fa_52_1 rfl) rfl rfl
          | 2, _ =>
           intro val w1 a hb ha hd;have e1 : val 1 = .pointer (some ⟨ga9_26, 2, none⟩) := hd 1 (memB_mem.1 rfl);have ha := ha.s1 (d := 174) rfl e1
           exact hs_val ha rfl rfl (ld_3 rfl ((qa9_26.below hb qa9_26.lt).at (j := 2) rfl)) rfl rfl
          | 3, _ =>
           intro val w1 a hb ha hd;have e0 : val 0 = .int .i64 (remK (·.mins) ru l i) := hd 0 (memB_mem.1 rfl);have e2 : val 2 = .int .i64 (ru.kinds.getD k kd0).mins := hd 2 (memB_mem.1 rfl);have ha := ha.sub (Sub.ins (d := 175) (Sub.ins (d := 173) (Sub.nil _) (dep_get rfl e0)) (dep_get rfl e2))
           exact hs_val ha rfl rfl (x_sub rfl rfl (by first | assumption | exact IntWalk.i64_in _ ⟨by omega, by omega⟩)) rfl rfl
          | 4, _ =>
           intro val w1 a hb ha hd;have ha := ha.s0 (d := 10) rfl
           exact hs_val ha rfl rfl (x_move rfl) rfl rfl
          | 5, _ =>
           intro val w1 a hb ha hd;have ha := ha.s0 (d := 19) rfl
           exact hs_val ha rfl rfl (fa_52_2 rfl) rfl rfl
          | 6, _ =>
           intro val w1 a hb ha hd;have e5 : val 5 = .pointer (some ⟨ga9_26, 3, none⟩) := hd 5 (memB_mem.1 rfl);have ha := ha.s1 (d := 178) rfl e5
           exact hs_val ha rfl rfl (ld_3 rfl ((qa9_26.below hb qa9_26.lt).at (j := 3) rfl)) rfl rfl
          | 7, _ =>
           intro val w1 a hb ha hd;have e4 : val 4 = .int .i64 (remK (·.water) ru l i) := hd 4 (memB_mem.1 rfl);have e6 : val 6 = .int .i64 (ru.kinds.getD k kd0).water := hd 6 (memB_mem.1 rfl);have ha := ha.sub (Sub.ins (d := 179) (Sub.ins (d := 177) (Sub.nil _) (dep_get rfl e4)) (dep_get rfl e6))
           exact hs_val ha rfl rfl (x_sub rfl rfl (by first | assumption | exact IntWalk.i64_in _ ⟨by omega, by omega⟩)) rfl rfl
          | 8, _ =>
           intro val w1 a hb ha hd;have ha := ha.s0 (d := 11) rfl
           exact hs_val ha rfl rfl (x_move rfl) rfl rfl
          | 9, _ =>
           intro val w1 a hb ha hd;have ha := ha.s0 (d := 19) rfl
           exact hs_val ha rfl rfl (fa_52_3 rfl) rfl rfl
          | 10, _ =>
           intro val w1 a hb ha hd;have e9 : val 9 = .pointer (some ⟨ga9_26, 4, none⟩) := hd 9 (memB_mem.1 rfl);have ha := ha.s1 (d := 182) rfl e9
           exact hs_val ha rfl rfl (ld_3 rfl ((qa9_26.below hb qa9_26.lt).at (j := 4) rfl)) rfl rfl
          | 11, _ =>
           intro val w1 a hb ha hd;have e8 : val 8 = .int .i64 (remK (·.cost) ru l i) := hd 8 (memB_mem.1 rfl);have e10 : val 10 = .int .i64 (ru.kinds.getD k kd0).cost := hd 10 (memB_mem.1 rfl);have ha := ha.sub (Sub.ins (d := 183) (Sub.ins (d := 181) (Sub.nil _) (dep_get rfl e8)) (dep_get rfl e10))
           exact hs_val ha rfl rfl (x_sub rfl rfl (by first | assumption | exact IntWalk.i64_in _ ⟨by omega, by omega⟩)) rfl rfl
          | 12, _ =>
           intro val w1 a hb ha hd;have e3 : val 3 = .int .i64 ((remK (·.mins) ru l i) - (ru.kinds.getD k kd0).mins) := hd 3 (memB_mem.1 rfl);have ha := ha.s1 (d := 176) rfl e3
           exact hs_val ha rfl rfl (x_assign rfl) rfl rfl
          | 13, _ =>
           intro val w1 a hb ha hd;have e7 : val 7 = .int .i64 ((remK (·.water) ru l i) - (ru.kinds.getD k kd0).water) := hd 7 (memB_mem.1 rfl);have ha := ha.s1 (d := 180) rfl e7
           exact hs_val ha rfl rfl (x_assign rfl) rfl rfl
          | k + 14, h => exact absurd h (by omega)
         ·intro val wR27 hb halc hd
          have e0 : val 0 = .int .i64 (remK (·.mins) ru l i) := hd 0 (by omega)
          have e1 : val 1 = .pointer (some ⟨ga9_26, 2, none⟩) := hd 1 (by omega)
          have e2 : val 2 = .int .i64 (ru.kinds.getD k kd0).mins := hd 2 (by omega)
          have e3 : val 3 = .int .i64 ((remK (·.mins) ru l i) - (ru.kinds.getD k kd0).mins) := hd 3 (by omega)
          have e4 : val 4 = .int .i64 (remK (·.water) ru l i) := hd 4 (by omega)
          have e5 : val 5 = .pointer (some ⟨ga9_26, 3, none⟩) := hd 5 (by omega)
          have e6 : val 6 = .int .i64 (ru.kinds.getD k kd0).water := hd 6 (by omega)
          have e7 : val 7 = .int .i64 ((remK (·.water) ru l i) - (ru.kinds.getD k kd0).water) := hd 7 (by omega)
          have e8 : val 8 = .int .i64 (remK (·.cost) ru l i) := hd 8 (by omega)
          have e9 : val 9 = .pointer (some ⟨ga9_26, 4, none⟩) := hd 9 (by omega)
          have e10 : val 10 = .int .i64 (ru.kinds.getD k kd0).cost := hd 10 (by omega)
          have e11 : val 11 = .int .i64 ((remK (·.cost) ru l i) - (ru.kinds.getD k kd0).cost) := hd 11 (by omega)
          have e12 : val 12 = .int .i64 ((remK (·.mins) ru l i) - (ru.kinds.getD k kd0).mins) := hd 12 (by omega)
          have e13 : val 13 = .int .i64 ((remK (·.water) ru l i) - (ru.kinds.getD k kd0).water) := hd 13 (by omega)
          refine EL.ends (cs := [.int .i64 (remK (·.mins) ru l i), .pointer (some ⟨ga9_26, 2, none⟩), .int .i64 (ru.kinds.getD k kd0).mins, .int .i64 ((remK (·.mins) ru l i) - (ru.kinds.getD k kd0).mins), .int .i64 (remK (·.water) ru l i), .pointer (some ⟨ga9_26, 3, none⟩), .int .i64 (ru.kinds.getD k kd0).water, .int .i64 ((remK (·.water) ru l i) - (ru.kinds.getD k kd0).water), .int .i64 (remK (·.cost) ru l i), .pointer (some ⟨ga9_26, 4, none⟩), .int .i64 (ru.kinds.getD k kd0).cost, .int .i64 ((remK (·.cost) ru l i) - (ru.kinds.getD k kd0).cost), .int .i64 ((remK (·.mins) ru l i) - (ru.kinds.getD k kd0).mins), .int .i64 ((remK (·.water) ru l i) - (ru.kinds.getD k kd0).water)]) ⟨e0, e1, e2, e3, e4, e5, e6, e7, e8, e9, e10, e11, e12, e13, trivial⟩ rfl ?_;replace q1 := q1.bl hb;replace qa9_26 := qa9_26.bl hb;replace hbw := bo_ hbw hb;clear hb;refine EL.as rfl rfl (EL.nil (EX.blk (EX.seq (EC.region (EL.mv rfl rfl ?_)))));refine EL.val (x_add rfl rfl (c := ((i + 1 : Nat) : Int)) ((IntWalk.i64_in _ ⟨by first | omega | (simp only; omega), by first | omega | (simp only; omega)⟩).trans (by first | omega | (simp only; omega)))) rfl ?_
          refine EL.as rfl rfl (EL.nil ?_);refine EX.roundD (i + 1) ⟨rfl, agree_i (by rw [remK_wash hk2, ek, Int.toNat_natCast]) rfl, agree_i (by rw [remK_wash hk2, ek, Int.toNat_natCast]) rfl, agree_i (by rw [remK_wash hk2, ek, Int.toNat_natCast]) rfl, trivial⟩ (by repeat first | with_reducible exact Sub.refl _ | refine sub_past rfl ?_ | exact Sub.refl _ | refine sub_del rfl ?_ | refine sub_insL_nil ?_) ⟨hlt, q1, hbw⟩ (by omega)
       ·
        have hk2 : ¬(l.getD i ev0).kind = 2 := by omega
        refine EL.val (x_eql (r := false) rfl rfl (decide_eq_false hk2)) rfl (EL.nil (EX.seq (EC.no rfl (EC.skip (EX.blk (EX.seq (EC.region (EL.mv rfl rfl ?_))))))));refine EL.val (x_add rfl rfl (c := ((i + 1 : Nat) : Int)) ((IntWalk.i64_in _ ⟨by first | omega | (simp only; omega), by first | omega | (simp only; omega)⟩).trans (by first | omega | (simp only; omega)))) rfl ?_
        refine EL.as rfl rfl (EL.nil ?_);refine EX.roundD (i + 1) ⟨rfl, agree_i (remK_load hk2).symm rfl, agree_i (remK_load hk2).symm rfl, agree_i (remK_load hk2).symm rfl, trivial⟩ (by repeat first | with_reducible exact Sub.refl _ | refine sub_past rfl ?_ | exact Sub.refl _ | refine sub_del rfl ?_ | refine sub_insL_nil ?_) ⟨hlt, q1, hbw⟩ (by omega)
      ·
       have hxe : i = l.length := by omega
       refine EC.seq (EC.seq (EC.region (EL.mv rfl rfl (EL.mv rfl rfl (EL.val (ln_29 rfl) rfl ?_)))));refine EL.val (x_lss rfl rfl (decide_eq_false (show ¬(((i : Nat) : Int) < ((l.length : Nat) : Int)) by omega))) rfl ?_
       refine EL.nil (EX.seq (EC.no rfl (EC.exit (EX.seq_exit (EX.seq_exit (EX.blk_here (EX.seq (EC.seq (EC.region ?_)))))))));refine EL.mv rfl rfl ?_;refine EL.val (x_eql (r := true) rfl rfl (decide_eq_true (by rw [hxe, remK_end]))) rfl ?_
       refine EL.mv rfl rfl (EL.valg rfl rfl (x_move rfl) rfl ?_);refine EL.valg rfl rfl (x_eql (r := true) rfl rfl (decide_eq_true (by rw [hxe, remK_end]))) rfl ?_
       refine EL.val (x_pick_t rfl rfl) rfl (EL.mv rfl rfl (EL.valg rfl rfl (x_move rfl) rfl ?_));refine EL.valg rfl rfl (x_eql (r := true) rfl rfl (decide_eq_true (by rw [hxe, remK_end]))) rfl ?_
       refine EL.val (x_pick_t rfl rfl) rfl (EL.mv rfl rfl (EL.callg rfl rfl cl_12 rfl (known_any _) ?_))
       rintro e w16 ⟨rfl, hc16⟩
       refine ⟨_, rfl, ?_⟩;replace q1 := q1.bl hc16;replace hbw := bo_ hbw hc16;clear hc16;refine EL.val (x_pick_t rfl rfl) rfl (EL.as rfl rfl (EL.nil (EX.seq (EC.ret ?_))))
       exact EX.done (res1 rfl rfl) ⟨rfl, hbw⟩
  ·
   rw [billE, if_neg hz] at hm_;obtain ⟨rfl, rfl, rfl⟩ := tup4 hm_;have ha0 : (audE ru l).length = 0 := by rw [audE, if_neg hz]; rfl
   have hs0 : (slopE ru l).length = 0 := by rw [slopE, if_neg hz]; rfl
   refine EL.val (x_neq (r := true) rfl rfl (decide_eq_true hz)) rfl (EL.nil (EX.seq (EC.yes rfl (EC.seq (EC.region (EL.mv rfl rfl (EL.mv rfl rfl (EL.val (x_eql (r := true) rfl rfl (decide_eq_true rfl)) rfl (EL.mv rfl rfl ?_)))))))));refine EL.valg rfl rfl (x_move rfl) rfl (EL.valg rfl rfl (x_move rfl) rfl (EL.valg rfl rfl (x_eql (r := true) rfl rfl (decide_eq_true rfl)) rfl (EL.val (x_pick_t rfl rfl) rfl (EL.mv rfl rfl (EL.valg rfl rfl (x_move rfl) rfl (EL.valg rfl rfl (x_move rfl) rfl (EL.valg rfl rfl (x_eql (r := true) rfl rfl (decide_eq_true rfl)) rfl (EL.val (x_pick_t rfl rfl) rfl (EL.mv rfl rfl ?_)))))))));refine EL.valg rfl rfl (x_move rfl) rfl (EL.valg rfl rfl (ln_32 rfl) rfl (EL.valg rfl rfl (x_move rfl) rfl (EL.valg rfl rfl (ln_25 rfl) rfl ?_)));refine EL.valg rfl rfl (x_add rfl rfl (c := 0) ((IntWalk.i64_in _ ⟨by omega, by omega⟩).trans (by omega))) rfl ?_
   refine EL.valg rfl rfl (x_eql (r := true) rfl rfl (decide_eq_true rfl)) rfl (EL.val (x_pick_t rfl rfl) rfl (EL.mv rfl rfl (EL.valg rfl rfl (x_move rfl) rfl (EL.valg rfl rfl (x_eql (r := true) rfl rfl (decide_eq_true rfl)) rfl (EL.val (x_pick_t rfl rfl) rfl (EL.mv rfl rfl (EL.valg rfl rfl (x_move rfl) rfl (EL.valg rfl rfl (x_eql (r := true) rfl rfl (decide_eq_true rfl)) rfl (EL.val (x_pick_t rfl rfl) rfl ?_)))))))));refine EL.mv rfl rfl (EL.valg rfl rfl (x_move rfl) rfl (EL.valg rfl rfl (x_eql (r := true) rfl rfl (decide_eq_true rfl)) rfl (EL.val (x_pick_t rfl rfl) rfl (EL.mv rfl rfl (EL.callg rfl rfl cl_12 rfl (known_any _) ?_)))))
   rintro e w17 ⟨rfl, hc17⟩
   refine ⟨_, rfl, ?_⟩;replace q1 := q1.bl hc17;replace hrA := own_below hrA hc17 (Nat.le_refl _);replace hS := (hS.below hc17).more hc17.size;replace hbw := bo_ hbw hc17;clear hc17;refine EL.val (x_pick_t rfl rfl) rfl (EL.as rfl rfl (EL.nil (EX.seq (EC.ret (EX.seq_ret ?_)))))
   exact EX.done (res1 rfl rfl) ⟨rfl, hbw⟩
 ·
  refine ⟨_, rfl, ?_⟩;replace q1 := q1.bl hcB;replace hbw := bo_ hbw hcB;clear hcB;refine EL.nil (EX.seq (EC.yes rfl (EC.seq (EC.region (EL.call cl_12 rfl (known_any _) ?_)))))
  rintro e w18 ⟨rfl, hc18⟩
  refine ⟨_, rfl, ?_⟩;replace q1 := q1.bl hc18;replace hbw := bo_ hbw hc18;clear hc18;refine EL.as rfl rfl (EL.nil (EX.seq (EC.ret (EX.seq_ret ?_))))
  exact EX.done (res1 rfl rfl) ⟨rfl, hbw⟩
end Go.Proofs.Ytdkedhcbdbpccaa
