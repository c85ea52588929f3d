/- ExX24, X24, ExX25, X25, WsLift: what WashResiduesProof needs of them (merged by trimpack.py). -/
import Derived.Test.YtdkedhcbdbpccaaResiduesT6
set_option linter.unusedVariables false
set_option linter.unusedSimpArgs false
namespace Go.Proofs.Ytdkedhcbdbpccaa
open Go Go.RowKit
section
variable {n : Nat} {σ : Sg} {w : World} {dst : Option Tmp} {ty : TypeId} {pos : String} {af : Array Edge} {g : Option (Nat × Bool)} {x y z : Operand} {at' : Array TypeId}
theorem eql_24 {a0 a1 b0 b1 : Int} {r : Bool} (hx : evS σ x = some (.agg #[.int .i64 a0, .int .i64 a1])) (hy : evS σ y = some (.agg #[.int .i64 b0, .int .i64 b1])) (hc : decide (a0 = b0 ∧ a1 = b1) = r) : Gives Try.prog n σ w ⟨dst, .binOp .eql 24 x y 24, ty, pos, af, g⟩ (.bool r) := fun a ha => by
 subst hc
 simp only [execOp, ha.eval hx, ha.eval hy]
 go_simp
 repeat' split
 all_goals simp_all
theorem ix_32 {b o m c k : Nat} (hx : evS σ x = some (.slice (some ⟨b, o, none⟩) m c)) (hy : evS σ y = some (.int .i64 (k : Int))) (hk : k < m) : Gives Try.prog n σ w ⟨dst, .indexAddr 32 x y, ty, pos, af, g⟩ (.pointer (some ⟨b, o + k * 3, none⟩)) := fun a ha => by
 have k0 : (0 : Int) ≤ (k : Int) := Int.natCast_nonneg _;have k1 : (k : Int) < (m : Int) := by omega
 simp only [execOp, ha.eval hx, ha.eval hy]
 simp [go_sem, k0, k1]
theorem eql_70 {a0 a1 b0 b1 : Int} {r : Bool} (hx : evS σ x = some (.agg #[.int .i64 a0, .int .i64 a1])) (hy : evS σ y = some (.agg #[.int .i64 b0, .int .i64 b1])) (hc : decide (a0 = b0 ∧ a1 = b1) = r) : Gives Try.prog n σ w ⟨dst, .binOp .eql 70 x y 70, ty, pos, af, g⟩ (.bool r) := fun a ha => by
 subst hc
 simp only [execOp, ha.eval hx, ha.eval hy]
 go_simp
 repeat' split
 all_goals simp_all
theorem cl_46 {x0 : Operand} {v0 : Value} (h0 : evS σ x0 = some v0) (a : Act) (ha : Env n σ a) : (execOp a.eval ⟨dst, .call { callee := .value (.func 46), args := #[x0], argTypes := at' }, ty, pos, af, g⟩).run Try.prog w = .ok (.enter 46 #[v0]) w := by
 simp only [execOp, resolve, List.map_toArray, List.map_cons, List.map_nil, ha.eval h0]
 simp [go_sem, Act.eval]
theorem cl_45 {x0 : Operand} {v0 : Value} (h0 : evS σ x0 = some v0) (a : Act) (ha : Env n σ a) : (execOp a.eval ⟨dst, .call { callee := .value (.func 45), args := #[x0], argTypes := at' }, ty, pos, af, g⟩).run Try.prog w = .ok (.enter 45 #[v0]) w := by
 simp only [execOp, resolve, List.map_toArray, List.map_cons, List.map_nil, ha.eval h0]
 simp [go_sem, Act.eval]
theorem bs_29_4 {x0 x1 x2 x3 : Operand} {v0_0 v0_1 v1_0 v1_1 v2_0 v2_1 v3_0 v3_1 : Value} (h0 : evS σ x0 = some (.agg #[v0_0, v0_1])) (h1 : evS σ x1 = some (.agg #[v1_0, v1_1])) (h2 : evS σ x2 = some (.agg #[v2_0, v2_1])) (h3 : evS σ x3 = some (.agg #[v3_0, v3_1]))  (a : Act) (ha : Env n σ a) : (execOp a.eval ⟨dst, .buildSlice 29 4 #[(0, x0), (1, x1), (2, x2), (3, x3)], ty, pos, af, g⟩).run Try.prog w = .ok (.value (.slice (some ⟨w.heap.size, 0, none⟩) 4 4)) (w.alloc (.cells #[v0_0, v0_1, v1_0, v1_1, v2_0, v2_1, v3_0, v3_1] 50)) := by
 simp only [execOp, List.map_toArray, List.map_cons, List.map_nil, ha.eval h0, ha.eval h1, ha.eval h2, ha.eval h3]
 go_simp
theorem slh_29 {b o m c hi : Nat} (hx : evS σ x = some (.slice (some ⟨b, o, none⟩) m c)) (hh : evS σ y = some (.int .i64 (hi : Int))) (h2 : hi ≤ c) : Gives Try.prog n σ w ⟨dst, .slice 29 x none (some y) none, ty, pos, af, g⟩ (.slice (some ⟨b, o, none⟩) hi c) := fun a ha => by
 have k1 : (0 : Int) ≤ (hi : Int) := Int.natCast_nonneg _;have k3 : (hi : Int) ≤ (c : Int) := by omega
 simp only [execOp, Option.map_some, Option.map_none, ha.eval hx, ha.eval hh]
 by_cases e : c = 0
 ·subst e; obtain rfl : hi = 0 := by omega
  simp [go_sem]
 ·simp [go_sem, k1, k3, h2, e]
theorem cl_47  (a : Act) (_ : Env n σ a) : (execOp a.eval ⟨dst, .call { callee := .value (.func 47), args := #[], argTypes := at' }, ty, pos, af, g⟩).run Try.prog w = .ok (.enter 47 #[]) w := by
 simp only [execOp, resolve, List.map_toArray, List.map_nil]
 simp [go_sem, Act.eval]
theorem cl_33 {x0 x1 : Operand} {v0 v1 : Value} (h0 : evS σ x0 = some v0) (h1 : evS σ x1 = some v1) (a : Act) (ha : Env n σ a) : (execOp a.eval ⟨dst, .call { callee := .value (.func 33), args := #[x0, x1], argTypes := at' }, ty, pos, af, g⟩).run Try.prog w = .ok (.enter 33 #[v0, v1]) w := by
 simp only [execOp, resolve, List.map_toArray, List.map_cons, List.map_nil, ha.eval h0, ha.eval h1]
 simp [go_sem, Act.eval]
theorem cl_13 {x0 x1 : Operand} {v0 v1 : Value} (h0 : evS σ x0 = some v0) (h1 : evS σ x1 = some v1) (a : Act) (ha : Env n σ a) : (execOp a.eval ⟨dst, .call { callee := .value (.func 13), args := #[x0, x1], argTypes := at' }, ty, pos, af, g⟩).run Try.prog w = .ok (.enter 13 #[v0, v1]) w := by
 simp only [execOp, resolve, List.map_toArray, List.map_cons, List.map_nil, ha.eval h0, ha.eval h1]
 simp [go_sem, Act.eval]
theorem cl_16 {x0 x1 : Operand} {v0 v1 : Value} (h0 : evS σ x0 = some v0) (h1 : evS σ x1 = some v1) (a : Act) (ha : Env n σ a) : (execOp a.eval ⟨dst, .call { callee := .value (.func 16), args := #[x0, x1], argTypes := at' }, ty, pos, af, g⟩).run Try.prog w = .ok (.enter 16 #[v0, v1]) w := by
 simp only [execOp, resolve, List.map_toArray, List.map_cons, List.map_nil, ha.eval h0, ha.eval h1]
 simp [go_sem, Act.eval]
theorem cl_17 {x0 x1 : Operand} {v0 v1 : Value} (h0 : evS σ x0 = some v0) (h1 : evS σ x1 = some v1) (a : Act) (ha : Env n σ a) : (execOp a.eval ⟨dst, .call { callee := .value (.func 17), args := #[x0, x1], argTypes := at' }, ty, pos, af, g⟩).run Try.prog w = .ok (.enter 17 #[v0, v1]) w := by
 simp only [execOp, resolve, List.map_toArray, List.map_cons, List.map_nil, ha.eval h0, ha.eval h1]
 simp [go_sem, Act.eval]
theorem cl_24 {x0 x1 x2 : Operand} {v0 v1 v2 : Value} (h0 : evS σ x0 = some v0) (h1 : evS σ x1 = some v1) (h2 : evS σ x2 = some v2) (a : Act) (ha : Env n σ a) : (execOp a.eval ⟨dst, .call { callee := .value (.func 24), args := #[x0, x1, x2], argTypes := at' }, ty, pos, af, g⟩).run Try.prog w = .ok (.enter 24 #[v0, v1, v2]) w := by
 simp only [execOp, resolve, List.map_toArray, List.map_cons, List.map_nil, ha.eval h0, ha.eval h1, ha.eval h2]
 simp [go_sem, Act.eval]
theorem bs_29_1 {x0 : Operand} {v0_0 v0_1 : Value} (h0 : evS σ x0 = some (.agg #[v0_0, v0_1]))  (a : Act) (ha : Env n σ a) : (execOp a.eval ⟨dst, .buildSlice 29 1 #[(0, x0)], ty, pos, af, g⟩).run Try.prog w = .ok (.value (.slice (some ⟨w.heap.size, 0, none⟩) 1 1)) (w.alloc (.cells #[v0_0, v0_1] 50)) := by
 simp only [execOp, List.map_toArray, List.map_cons, List.map_nil, ha.eval h0]
 go_simp
theorem bs_96_2 {x0 x1 : Operand} {A0 A1 : Option Addr} {m0 c0 m1 c1 : Nat} (h0 : evS σ x0 = some (.slice A0 m0 c0)) (h1 : evS σ x1 = some (.slice A1 m1 c1)) (a : Act) (ha : Env n σ a) : (execOp a.eval ⟨dst, .buildSlice 96 2 #[(0, x0), (1, x1)], ty, pos, af, g⟩).run Try.prog w = .ok (.value (.slice (some ⟨w.heap.size, 0, none⟩) 2 2)) (w.alloc (.cells #[.slice A0 m0 c0, .slice A1 m1 c1] 29)) := by
 simp only [execOp, List.map_toArray, List.map_cons, List.map_nil, ha.eval h0, ha.eval h1]
 go_simp
theorem cl_38 {x0 x1 x2 : Operand} {v0 v1 v2 : Value} (h0 : evS σ x0 = some v0) (h1 : evS σ x1 = some v1) (h2 : evS σ x2 = some v2) (a : Act) (ha : Env n σ a) : (execOp a.eval ⟨dst, .call { callee := .value (.func 38), args := #[x0, x1, x2], argTypes := at' }, ty, pos, af, g⟩).run Try.prog w = .ok (.enter 38 #[v0, v1, v2]) w := by
 simp only [execOp, resolve, List.map_toArray, List.map_cons, List.map_nil, ha.eval h0, ha.eval h1, ha.eval h2]
 simp [go_sem, Act.eval]
theorem ln_32 {A : Option Addr} {m c : Nat} (hx : evS σ x = some (.slice A m c)) : Gives Try.prog n σ w ⟨dst, .call { callee := .builtin .len, args := #[x], argTypes := #[32] }, ty, pos, af, g⟩ (.int .i64 (m : Int)) := fun a ha => by
 simp only [execOp, resolve, List.map_toArray, List.map_cons, List.map_nil, ha.eval hx]
 simp [go_sem]
theorem ld_46 {b o : Nat} {v0 v1 v2 : Value} (hx : evS σ x = some (.pointer (some ⟨b, o, none⟩))) (c0 : w.cell? ⟨b, o, none⟩ = some v0) (c1 : w.cell? ⟨b, o + 1, none⟩ = some v1) (c2 : w.cell? ⟨b, o + 2, none⟩ = some v2) : Gives Try.prog n σ w ⟨dst, .load 46 x, ty, pos, af, g⟩ (.agg #[v0, v1, v2]) := fun a ha => by
 simp only [execOp, ha.eval hx]
 simp [go_sem, c0, c1, c2]
theorem bd_46_0_2 {x0 x1 : Operand} {z0 : Int} {b1 : Bool} (h0 : evS σ x0 = some (.int .i64 z0)) (h1 : evS σ x1 = some (.bool b1)) : Gives Try.prog n σ w ⟨dst, .build 46 #[(0, x0), (2, x1)], ty, pos, af, g⟩ (.agg #[.int .i64 z0, .int .i64 0, .bool b1]) := fun a ha => by
 simp only [execOp, List.map_toArray, List.map_cons, List.map_nil, ha.eval h0, ha.eval h1]
 go_simp
theorem bd_70_1 {x0 : Operand} {z0 : Int} (h0 : evS σ x0 = some (.int .i64 z0)) : Gives Try.prog n σ w ⟨dst, .build 70 #[(1, x0)], ty, pos, af, g⟩ (.agg #[.int .i64 0, .int .i64 z0]) := fun a ha => by
 simp only [execOp, List.map_toArray, List.map_cons, List.map_nil, ha.eval h0]
 go_simp
end
end Go.Proofs.Ytdkedhcbdbpccaa
set_option linter.unusedVariables false
set_option linter.unusedSimpArgs false
namespace Go.Proofs.Ytdkedhcbdbpccaa
open Go Go.RowKit
theorem mono_th {k : Nat} : Mono fun r w => ∃ vl va vp vk ua up, r k = rulesV vl va vp vk three ∧ RdRules w w.heap.size vl va vp vk three ua up := fun _ _ _ hb ⟨vl, va, vp, vk, ua, up, h1, h2⟩ => ⟨vl, va, vp, vk, ua, up, h1, (h2.below hb).more hb.size⟩
theorem rd_pre {w : World} {B n c m : Nat} {A : Option Addr} {l : List Ev} (h : Rd w B 2 (.slice A n c) n (evsC l)) (hm : m ≤ n) : Rd w B 2 (.slice A m c) (l.take m).length (evsC (l.take m)) := by
 have hl : l.length = n := by have := h.len; rw [evsC_len] at this; omega
 have hlm : (l.take m).length = m := by rw [List.length_take]; omega
 rw [hlm];obtain ⟨hl0, A', c', h8, hc, hrd⟩ := h
 injection h8 with h8 _ h9
 subst h8 h9;refine ⟨by rw [evsC_len, hlm], A, c, rfl, by omega, fun h0 => ?_⟩
 obtain ⟨b, off, e, hb, hcell⟩ := hrd (by omega)
 refine ⟨b, off, e, hb, fun j u hj => hcell j u ?_⟩
 have e2 : evsC l = evsC (l.take m) ++ evsC (l.drop m) := by
  unfold evsC
  rw [← List.flatMap_append, List.take_append_drop]
 rw [e2, List.getElem?_append_left (List.getElem?_eq_some_iff.1 hj).1]
 exact hj
theorem brs_cells (l : List Br) (k : Nat) (hk : k < l.length) (w : World) (B : Nat) (A : Option Addr) (n c : Nat) (hr : Rd w B 3 (.slice A n c) n (brsC l)) :
  ∃ b off, A = some ⟨b, off, none⟩ ∧ b < B ∧ w.cell? ⟨b, off + k * 3, none⟩ = some (.int .i64 ((l.getD k ⟨0, 0, false⟩).event : Nat)) ∧ w.cell? ⟨b, off + k * 3 + 1, none⟩ = some (.int .i64 ((l.getD k ⟨0, 0, false⟩).cargo : Nat)) ∧ w.cell? ⟨b, off + k * 3 + 2, none⟩ = some (.bool (l.getD k ⟨0, 0, false⟩).sure) := by
 have hl : n * 3 = l.length * 3 := by rw [← hr.len]; exact flat_len brC_len l
 obtain ⟨b, off, rfl, hb, hc⟩ := hr.at_ (by omega)
 have e : l.getD k ⟨0, 0, false⟩ = l[k] := by simp [hk]
 rw [e];have g := fun j hj => flat_get brC_len l k hk j hj
 exact ⟨b, off, rfl, hb, hc (k * 3) _ (g 0 (by omega)), hc (k * 3 + 1) _ (g 1 (by omega)), hc (k * 3 + 2) _ (g 2 (by omega))⟩
theorem x_eqBr {n : Nat} {σ : Sg} {w : World} {dst : Option Tmp} {ty : TypeId} {pos : String} {af : Array Edge} {g : Option (Nat × Bool)} {x y : Operand} {a0 a1 b0 b1 : Int} {a2 b2 r : Bool} (hx : evS σ x = some (.agg #[.int .i64 a0, .int .i64 a1, .bool a2])) (hy : evS σ y = some (.agg #[.int .i64 b0, .int .i64 b1, .bool b2])) (hc : decide (a0 = b0 ∧ a1 = b1 ∧ a2 = b2) = r) : Gives Try.prog n σ w ⟨dst, .binOp .eql 46 x y 46, ty, pos, af, g⟩ (.bool r) := fun a ha => by
 subst hc
 simp only [execOp, ha.eval hx, ha.eval hy]
 go_simp
 repeat' split
 all_goals simp_all
set_option maxHeartbeats 4000000 in
theorem known_any (w : World) : Calls Try.prog 12 #[] w fun e w' => e = .returned (.bool true) ∧ Below w.heap.size w w' := by
 have hbw := Below.refl w.heap.size w;refine EC.enter 213 Try.func12 rfl rfl rfl ?_;refine EC.seq ?_;refine EC.region ?_;refine EL.val (x_assign rfl) rfl ?_;refine EL.nil ?_;refine EX.seq ?_;refine EC.seq ?_;refine EC.region ?_;refine EL.call (cl_46 rfl) rfl (lload_any _ _) ?_
 rintro e w1 ⟨rfl, hc1⟩
 refine ⟨_, rfl, ?_⟩;replace hbw := Below.on hbw hc1 hbw.size;clear hc1;refine EL.call (cl_45 rfl) rfl (lclean_any _ _) ?_
 rintro e w2 ⟨rfl, hc2⟩
 refine ⟨_, rfl, ?_⟩;replace hbw := Below.on hbw hc2 hbw.size;clear hc2;refine EL.call (cl_46 rfl) rfl (lload_any _ _) ?_
 rintro e w3 ⟨rfl, hc3⟩
 refine ⟨_, rfl, ?_⟩;replace hbw := Below.on hbw hc3 hbw.size;clear hc3;refine EL.call (cl_45 rfl) rfl (lclean_any _ _) ?_
 rintro e w4 ⟨rfl, hc4⟩
 refine ⟨_, rfl, ?_⟩;replace hbw := Below.on hbw hc4 hbw.size;clear hc4;refine EL.newS (bs_29_4 rfl rfl rfl rfl) rfl ?_;intro g5 w5 q5 hb5 hg5 hl5;have bhbw_5 := Nat.le_trans hbw.size hg5;replace hbw := Below.on hbw hb5 hbw.size;clear hb5 hg5 hl5;have hE : Rd w5 w5.heap.size 2 (.slice (some ⟨g5, 0, none⟩) 4 4) lK.length (evsC lK) := rd_blk (k := 4) (l := [.int .i64 1, .int .i64 0, .int .i64 2, .int .i64 0, .int .i64 1, .int .i64 2, .int .i64 2, .int .i64 1]) q5 rfl;refine EL.val (x_assign rfl) rfl ?_;refine EL.nil ?_;refine EX.seq ?_;refine EC.seq ?_;refine EC.regionP [[], [], [1], [0, 1, 2], [0, 1, 2, 3], [0, 1, 2, 3, 4], [0, 1, 2, 3, 4], [0, 1, 2, 3, 4, 5], [0, 1, 2, 3, 4, 5, 6, 7]] 8 [] (phi (fun i_ r => match i_ with | 1 => r 1 = .slice (some ⟨g5, 0, none⟩) 4 4 | 2 => r 2 = .slice (some ⟨g5, 0, none⟩) 3 4 | 6 => r 6 = .int .i64 0 | _ => True) [(0, fun r w_ => ∃ vl va vp vk ua up, r 0 = rulesV vl va vp vk three ∧ RdRules w_ w_.heap.size vl va vp vk three ua up), (3, fun r w_ => ∃ A c, r 3 = .tuple #[.slice A 3 c, .int .i64 0] ∧ w_.ownsRow w.heap.size 24 2 (.slice A 3 c) 3 (bdsC [⟨40, 60⟩, ⟨0, 0⟩, ⟨40, 40⟩])), (4, fun r w_ => ∃ A c, r 4 = .tuple #[.slice A 3 c, .int .i64 0] ∧ w_.ownsRow w.heap.size 24 2 (.slice A 3 c) 3 (bdsC [⟨40, 60⟩, ⟨0, 0⟩, ⟨40, 40⟩])), (5, fun r w_ => ∃ A c, r 5 = .slice A 3 c ∧ w_.ownsRow w.heap.size 24 2 (.slice A 3 c) 3 (bdsC [⟨40, 60⟩, ⟨0, 0⟩, ⟨40, 40⟩])), (7, fun r w_ => ∃ A c, r 7 = .slice A 3 c ∧ w_.ownsRow w.heap.size 24 2 (.slice A 3 c) 3 (bdsC [⟨40, 60⟩, ⟨0, 0⟩, ⟨40, 40⟩]))]) (by kernel_rfl) rfl rfl (phi_cons mono_th (phi_cons (mono_cp (f := fun A c => .tuple #[.slice A 3 c, .int .i64 0])) (phi_cons (mono_cp (f := fun A c => .tuple #[.slice A 3 c, .int .i64 0])) (phi_cons (mono_cp (f := fun A c => .slice A 3 c)) (phi_cons (mono_cp (f := fun A c => .slice A 3 c)) (phi_nil)))))) (fun i_ hi_ => ?_) ?_
 ·match i_, hi_ with
  | 0, _ =>
   intro val w1 a hb ha hd;have ha := ha.sub (Sub.nil _);refine hs_call ha rfl rfl cl_47 (three_any _) rfl ?_
   rintro e w' ⟨⟨vl, va, vp, vk, ua, up, rfl, hR⟩, hb'⟩
   exact ⟨_, rfl, hb', ⟨vl, va, vp, vk, ua, up, rfl, hR⟩⟩
  | 1, _ =>
   intro val w1 a hb ha hd;have ha := ha.sub (Sub.ins (d := 1) (Sub.nil _) rfl)
   exact hs_val ha rfl rfl (x_move rfl) rfl rfl
  | 2, _ =>
   intro val w1 a hb ha hd;have e1 : val 1 = .slice (some ⟨g5, 0, none⟩) 4 4 := hd 1 (memB_mem.1 rfl);have ha := ha.sub (Sub.ins (d := 31) (Sub.nil _) (dep_get rfl e1))
   exact hs_val ha rfl rfl (slh_29 (hi := 3) rfl rfl (by decide)) rfl rfl
  | 3, _ =>
   intro val w1 a hb ha hd;obtain ⟨vl0_, va0_, vp0_, vk0_, ua0_, up0_, e0, hR0_⟩ := hd 0 (memB_mem.1 rfl);have e2 : val 2 = .slice (some ⟨g5, 0, none⟩) 3 4 := hd 2 (memB_mem.1 rfl);have ha := ha.sub (Sub.ins (d := 32) (Sub.ins (d := 30) (Sub.nil _) (dep_get rfl e0)) (dep_get rfl e2));refine hs_call ha rfl rfl (cl_33 rfl rfl) (kRes hR0_ (Nat.le_refl _) (rd_pre (m := 3) ((hE.below hb).more hb.size) (by decide))) rfl ?_
   rintro e w' ⟨⟨u, rfl, ho⟩, hb'⟩
   obtain ⟨A, c9, rfl, _⟩ := (Rd.of_own ho).shape
   exact ⟨_, rfl, hb', ⟨A, c9, rfl, own_less ho (Nat.le_trans hbw.size hb.size)⟩⟩
  | 4, _ =>
   intro val w1 a hb ha hd;obtain ⟨A2_3, c2_3, e3, ho2_3⟩ := hd 3 (memB_mem.1 rfl);have ha := ha.sub (Sub.ins (d := 33) (Sub.nil _) (dep_get rfl e3))
   exact hs_val ha rfl rfl (x_move rfl) ⟨A2_3, c2_3, rfl, ho2_3⟩ rfl
  | 5, _ =>
   intro val w1 a hb ha hd;obtain ⟨A2_4, c2_4, e4, ho2_4⟩ := hd 4 (memB_mem.1 rfl);have ha := ha.sub (Sub.ins (d := 29) (Sub.nil _) (dep_get rfl e4))
   exact hs_val ha rfl rfl (x_extract rfl rfl) ⟨A2_4, c2_4, rfl, ho2_4⟩ rfl
  | 6, _ =>
   intro val w1 a hb ha hd;obtain ⟨A2_4, c2_4, e4, ho2_4⟩ := hd 4 (memB_mem.1 rfl);have ha := ha.sub (Sub.ins (d := 29) (Sub.nil _) (dep_get rfl e4))
   exact hs_val ha rfl rfl (x_extract rfl rfl) rfl rfl
  | 7, _ =>
   intro val w1 a hb ha hd;obtain ⟨A2_5, c2_5, e5, ho2_5⟩ := hd 5 (memB_mem.1 rfl);have ha := ha.sub (Sub.ins (d := 34) (Sub.nil _) (dep_get rfl e5))
   exact hs_val ha rfl rfl (x_assign rfl) ⟨A2_5, c2_5, rfl, ho2_5⟩ rfl
  | k + 8, h => exact absurd h (by omega)
 ·intro val wR2 hb halc hd
  obtain ⟨vl0_, va0_, vp0_, vk0_, ua0_, up0_, e0, hR0_⟩ := hd 0 (by omega)
  have e1 : val 1 = .slice (some ⟨g5, 0, none⟩) 4 4 := hd 1 (by omega)
  have e2 : val 2 = .slice (some ⟨g5, 0, none⟩) 3 4 := hd 2 (by omega)
  obtain ⟨A2_3, c2_3, e3, ho2_3⟩ := hd 3 (by omega)
  obtain ⟨A2_4, c2_4, e4, ho2_4⟩ := hd 4 (by omega)
  obtain ⟨A2_5, c2_5, e5, ho2_5⟩ := hd 5 (by omega)
  have e6 : val 6 = .int .i64 0 := hd 6 (by omega)
  obtain ⟨A2_7, c2_7, e7, ho2_7⟩ := hd 7 (by omega)
  refine EL.ends (cs := [rulesV vl0_ va0_ vp0_ vk0_ three, .slice (some ⟨g5, 0, none⟩) 4 4, .slice (some ⟨g5, 0, none⟩) 3 4, .tuple #[.slice A2_3 3 c2_3, .int .i64 0], .tuple #[.slice A2_4 3 c2_4, .int .i64 0], .slice A2_5 3 c2_5, .int .i64 0, .slice A2_7 3 c2_7]) ⟨e0, e1, e2, e3, e4, e5, e6, e7, trivial⟩ rfl ?_;replace hE := (hE.below hb).more hb.size;replace hbw := Below.on hbw hb hbw.size;clear hb;have hr2 := ho2_7;clear ho2_3 ho2_4 ho2_5 ho2_7 hR0_;refine EL.val (x_assign rfl) rfl ?_;refine EL.nil ?_;refine EX.seq ?_;refine EC.seq ?_;refine EC.region ?_;refine EL.call cl_47 rfl (three_any _) ?_
  rintro e w6 ⟨⟨vl6, va6, vp6, vk6, ua6, up6, rfl, hR⟩, hc6⟩
  refine ⟨_, rfl, ?_⟩;replace hE := (hE.below hc6).more hc6.size;replace hr2 := own_below hr2 hc6 (Nat.le_refl _);replace hbw := Below.on hbw hc6 hbw.size;clear hc6;refine EL.val (x_move rfl) rfl ?_;refine EL.call (cl_13 rfl rfl) rfl (kAud hR (Nat.le_refl _) hE) ?_
  rintro e w7 ⟨⟨u7, rfl, ho7⟩, hc7⟩
  refine ⟨_, rfl, ?_⟩;have hrA := own_less ho7 hbw.size;clear ho7;replace hE := (hE.below hc7).more hc7.size;replace hr2 := own_below hr2 hc7 (Nat.le_refl _);replace hbw := Below.on hbw hc7 hbw.size;clear hc7 hR;obtain ⟨AhrA, chrA, rfl, _⟩ := (Rd.of_own hrA).shape;refine EL.val (x_move rfl) rfl ?_;refine EL.val (x_extract rfl rfl) rfl ?_;refine EL.val (x_extract rfl rfl) rfl ?_;refine EL.val (x_assign rfl) rfl ?_;refine EL.val (x_assign rfl) rfl ?_;refine EL.nil ?_;refine EX.seq ?_;refine EC.seq ?_;refine EC.region ?_;refine EL.call cl_47 rfl (three_any _) ?_
  rintro e w8 ⟨⟨vl8, va8, vp8, vk8, ua8, up8, rfl, hR⟩, hc8⟩
  refine ⟨_, rfl, ?_⟩;replace hE := (hE.below hc8).more hc8.size;replace hr2 := own_below hr2 hc8 (Nat.le_refl _);replace hrA := own_below hrA hc8 (Nat.le_refl _);replace hbw := Below.on hbw hc8 hbw.size;clear hc8;refine EL.val (x_move rfl) rfl ?_;refine EL.call (cl_16 rfl rfl) rfl (kSlop hR (Nat.le_refl _) hE) ?_
  rintro e w9 ⟨⟨u9, usS, rfl, ho9⟩, hc9⟩
  refine ⟨_, rfl, ?_⟩;have hS := ho9.less hbw.size;clear ho9;replace hE := (hE.below hc9).more hc9.size;replace hr2 := own_below hr2 hc9 (Nat.le_refl _);replace hrA := own_below hrA hc9 (Nat.le_refl _);replace hbw := Below.on hbw hc9 hbw.size;clear hc9 hR;obtain ⟨AS, cS, rfl, _⟩ := hS.rd.rd.shape;refine EL.val (x_move rfl) rfl ?_;refine EL.val (x_extract rfl rfl) rfl ?_;refine EL.val (x_extract rfl rfl) rfl ?_;refine EL.val (x_assign rfl) rfl ?_;refine EL.val (x_assign rfl) rfl ?_;refine EL.nil ?_;refine EX.seq ?_;refine EC.seq ?_;refine EC.region ?_;refine EL.call cl_47 rfl (three_any _) ?_
  rintro e w10 ⟨⟨vl10, va10, vp10, vk10, ua10, up10, rfl, hR⟩, hc10⟩
  refine ⟨_, rfl, ?_⟩;replace hE := (hE.below hc10).more hc10.size;replace hr2 := own_below hr2 hc10 (Nat.le_refl _);replace hrA := own_below hrA hc10 (Nat.le_refl _);replace hS := (hS.below hc10).more hc10.size;replace hbw := Below.on hbw hc10 hbw.size;clear hc10;refine EL.val (x_move rfl) rfl ?_;refine EL.call (cl_17 rfl rfl) rfl (kBill hR (Nat.le_refl _) hE) ?_
  rintro e w11 ⟨rfl, hc11⟩
  refine ⟨_, rfl, ?_⟩;replace hE := (hE.below hc11).more hc11.size;replace hr2 := own_below hr2 hc11 (Nat.le_refl _);replace hrA := own_below hrA hc11 (Nat.le_refl _);replace hS := (hS.below hc11).more hc11.size;replace hR := (hR.below hc11).more hc11.size;replace hbw := Below.on hbw hc11 hbw.size;clear hc11;clear hR;refine EL.val (x_move rfl) rfl ?_;refine EL.val (x_extract rfl rfl) rfl ?_;refine EL.val (x_extract rfl rfl) rfl ?_;refine EL.val (x_extract rfl rfl) rfl ?_;refine EL.val (x_extract rfl rfl) rfl ?_;refine EL.val (x_assign rfl) rfl ?_;refine EL.val (x_assign rfl) rfl ?_;refine EL.val (x_assign rfl) rfl ?_;refine EL.val (x_assign rfl) rfl ?_;refine EL.nil ?_;refine EX.seq ?_;refine EC.seq ?_;refine EC.regionP [[], [], [1], [], [0, 1, 2, 3], [0, 1, 2, 3, 4], [0, 1, 2, 3, 4, 5], [0, 1, 2, 3, 4, 5], [0, 1, 2, 3, 4, 5], [0, 1, 2, 3, 4, 5], [0, 1, 2, 3, 4, 5, 6], [0, 1, 2, 3, 4, 5, 6, 7, 10], [0, 1, 2, 3, 4, 5, 6, 7, 8, 10, 11], [0, 1, 2, 3, 4, 5, 6, 7, 8, 9, 10, 11, 12]] 13 [] (phi (fun i_ r => match i_ with | 1 => r 1 = .slice (some ⟨g5, 0, none⟩) 4 4 | 2 => r 2 = .slice (some ⟨g5, 0, none⟩) 1 4 | 7 => r 7 = .int .i64 90000 | 8 => r 8 = .int .i64 0 | 9 => r 9 = .int .i64 0 | 11 => r 11 = .int .i64 90000 | 12 => r 12 = .int .i64 0 | _ => True) [(0, fun r w_ => ∃ vl va vp vk ua up, r 0 = rulesV vl va vp vk three ∧ RdRules w_ w_.heap.size vl va vp vk three ua up), (3, fun r w_ => ∃ g_, r 3 = .slice (some ⟨g_, 0, none⟩) 2 2 ∧ Blk w_ g_ 3 #[.int .i64 2, .int .i64 1] ∧ w11.heap.size ≤ g_), (4, fun r w_ => ∃ A c, r 4 = .tuple #[.slice A 2 c, .int .i64 90000, .int .i64 0, .int .i64 0] ∧ w_.ownsRow w.heap.size 3 1 (.slice A 2 c) 2 (ints [1, -1])), (5, fun r w_ => ∃ A c, r 5 = .tuple #[.slice A 2 c, .int .i64 90000, .int .i64 0, .int .i64 0] ∧ w_.ownsRow w.heap.size 3 1 (.slice A 2 c) 2 (ints [1, -1])), (6, fun r w_ => ∃ A c, r 6 = .slice A 2 c ∧ w_.ownsRow w.heap.size 3 1 (.slice A 2 c) 2 (ints [1, -1])), (10, fun r w_ => ∃ A c, r 10 = .slice A 2 c ∧ w_.ownsRow w.heap.size 3 1 (.slice A 2 c) 2 (ints [1, -1]))]) (by kernel_rfl) rfl rfl (phi_cons mono_th (phi_cons mono_bs (phi_cons (mono_cp (f := fun A c => .tuple #[.slice A 2 c, .int .i64 90000, .int .i64 0, .int .i64 0])) (phi_cons (mono_cp (f := fun A c => .tuple #[.slice A 2 c, .int .i64 90000, .int .i64 0, .int .i64 0])) (phi_cons (mono_cp (f := fun A c => .slice A 2 c)) (phi_cons (mono_cp (f := fun A c => .slice A 2 c)) (phi_nil))))))) (fun i_ hi_ => ?_) ?_
  ·match i_, hi_ with
   | 0, _ =>
    intro val w1 a hb ha hd;have ha := ha.sub (Sub.nil _);refine hs_call ha rfl rfl cl_47 (three_any _) rfl ?_
    rintro e w' ⟨⟨vl, va, vp, vk, ua, up, rfl, hR⟩, hb'⟩
    exact ⟨_, rfl, hb', ⟨vl, va, vp, vk, ua, up, rfl, hR⟩⟩
   | 1, _ =>
    intro val w1 a hb ha hd;have ha := ha.sub (Sub.ins (d := 1) (Sub.nil _) rfl)
    exact hs_val ha rfl rfl (x_move rfl) rfl rfl
   | 2, _ =>
    intro val w1 a hb ha hd;have e1 : val 1 = .slice (some ⟨g5, 0, none⟩) 4 4 := hd 1 (memB_mem.1 rfl);have ha := ha.sub (Sub.ins (d := 58) (Sub.nil _) (dep_get rfl e1))
    exact hs_val ha rfl rfl (slh_29 (hi := 1) rfl rfl (by decide)) rfl rfl
   | 3, _ =>
    intro val w1 a hb ha hd;have ha := ha.sub (Sub.nil _)
    exact hs_newS ha rfl rfl (bs_22_2 rfl rfl) rfl (fun g w' hq _ hge => ⟨g, rfl, hq, Nat.le_trans hb.size hge⟩)
   | 4, _ =>
    intro val w1 a hb ha hd;obtain ⟨vl0_, va0_, vp0_, vk0_, ua0_, up0_, e0, hR0_⟩ := hd 0 (memB_mem.1 rfl);have e2 : val 2 = .slice (some ⟨g5, 0, none⟩) 1 4 := hd 2 (memB_mem.1 rfl);obtain ⟨g3_, e3, q3_, h3_⟩ := hd 3 (memB_mem.1 rfl);change val 3 = _ at e3;have ha := ha.sub (Sub.ins (d := 60) (Sub.ins (d := 59) (Sub.ins (d := 57) (Sub.nil _) (dep_get rfl e0)) (dep_get rfl e2)) (dep_get rfl e3));refine hs_call ha rfl rfl (cl_24 rfl rfl rfl) (kPlan hR0_ (Nat.le_refl _) (rd_pre (m := 1) ((hE.below hb).more hb.size) (by decide)) (rd_blk (k := 2) (l := [.int .i64 2, .int .i64 1]) q3_ rfl)) rfl ?_
    rintro e w' ⟨⟨u, rfl, ho⟩, hb'⟩
    obtain ⟨A, c9, rfl, _⟩ := (Rd.of_own ho).shape
    exact ⟨_, rfl, hb', ⟨A, c9, rfl, own_less ho (Nat.le_trans hbw.size hb.size)⟩⟩
   | 5, _ =>
    intro val w1 a hb ha hd;obtain ⟨A6_4, c6_4, e4, ho6_4⟩ := hd 4 (memB_mem.1 rfl);have ha := ha.sub (Sub.ins (d := 61) (Sub.nil _) (dep_get rfl e4))
    exact hs_val ha rfl rfl (x_move rfl) ⟨A6_4, c6_4, rfl, ho6_4⟩ rfl
   | 6, _ =>
    intro val w1 a hb ha hd;obtain ⟨A6_5, c6_5, e5, ho6_5⟩ := hd 5 (memB_mem.1 rfl);have ha := ha.sub (Sub.ins (d := 56) (Sub.nil _) (dep_get rfl e5))
    exact hs_val ha rfl rfl (x_extract rfl rfl) ⟨A6_5, c6_5, rfl, ho6_5⟩ rfl
   | 7, _ =>
    intro val w1 a hb ha hd;obtain ⟨A6_5, c6_5, e5, ho6_5⟩ := hd 5 (memB_mem.1 rfl);have ha := ha.sub (Sub.ins (d := 56) (Sub.nil _) (dep_get rfl e5))
    exact hs_val ha rfl rfl (x_extract rfl rfl) rfl rfl
   | 8, _ =>
    intro val w1 a hb ha hd;obtain ⟨A6_5, c6_5, e5, ho6_5⟩ := hd 5 (memB_mem.1 rfl);have ha := ha.sub (Sub.ins (d := 56) (Sub.nil _) (dep_get rfl e5))
    exact hs_val ha rfl rfl (x_extract rfl rfl) rfl rfl
   | 9, _ =>
    intro val w1 a hb ha hd;obtain ⟨A6_5, c6_5, e5, ho6_5⟩ := hd 5 (memB_mem.1 rfl);have ha := ha.sub (Sub.ins (d := 56) (Sub.nil _) (dep_get rfl e5))
    exact hs_val ha rfl rfl (x_extract rfl rfl) rfl rfl
   | 10, _ =>
    intro val w1 a hb ha hd;obtain ⟨A6_6, c6_6, e6, ho6_6⟩ := hd 6 (memB_mem.1 rfl);have ha := ha.sub (Sub.ins (d := 62) (Sub.nil _) (dep_get rfl e6))
    exact hs_val ha rfl rfl (x_assign rfl) ⟨A6_6, c6_6, rfl, ho6_6⟩ rfl
   | 11, _ =>
    intro val w1 a hb ha hd;have e7 : val 7 = .int .i64 90000 := hd 7 (memB_mem.1 rfl);have ha := ha.sub (Sub.ins (d := 63) (Sub.nil _) (dep_get rfl e7))
    exact hs_val ha rfl rfl (x_assign rfl) rfl rfl
   | 12, _ =>
    intro val w1 a hb ha hd;have e8 : val 8 = .int .i64 0 := hd 8 (memB_mem.1 rfl);have ha := ha.sub (Sub.ins (d := 64) (Sub.nil _) (dep_get rfl e8))
    exact hs_val ha rfl rfl (x_assign rfl) rfl rfl
   | k + 13, h => exact absurd h (by omega)
  ·intro val wR6 hb halc hd
   obtain ⟨vl0_, va0_, vp0_, vk0_, ua0_, up0_, e0, hR0_⟩ := hd 0 (by omega)
   have e1 : val 1 = .slice (some ⟨g5, 0, none⟩) 4 4 := hd 1 (by omega)
   have e2 : val 2 = .slice (some ⟨g5, 0, none⟩) 1 4 := hd 2 (by omega)
   obtain ⟨ga3_6, e3, qa3_6, hga3_6⟩ := hd 3 (by omega)
   change val 3 = _ at e3;change Blk wR6 ga3_6 3 #[.int .i64 2, .int .i64 1] at qa3_6;obtain ⟨A6_4, c6_4, e4, ho6_4⟩ := hd 4 (by omega)
   obtain ⟨A6_5, c6_5, e5, ho6_5⟩ := hd 5 (by omega)
   obtain ⟨A6_6, c6_6, e6, ho6_6⟩ := hd 6 (by omega)
   have e7 : val 7 = .int .i64 90000 := hd 7 (by omega)
   have e8 : val 8 = .int .i64 0 := hd 8 (by omega)
   have e9 : val 9 = .int .i64 0 := hd 9 (by omega)
   obtain ⟨A6_10, c6_10, e10, ho6_10⟩ := hd 10 (by omega)
   have e11 : val 11 = .int .i64 90000 := hd 11 (by omega)
   have e12 : val 12 = .int .i64 0 := hd 12 (by omega)
   refine EL.ends (cs := [rulesV vl0_ va0_ vp0_ vk0_ three, .slice (some ⟨g5, 0, none⟩) 4 4, .slice (some ⟨g5, 0, none⟩) 1 4, .slice (some ⟨ga3_6, 0, none⟩) 2 2, .tuple #[.slice A6_4 2 c6_4, .int .i64 90000, .int .i64 0, .int .i64 0], .tuple #[.slice A6_5 2 c6_5, .int .i64 90000, .int .i64 0, .int .i64 0], .slice A6_6 2 c6_6, .int .i64 90000, .int .i64 0, .int .i64 0, .slice A6_10 2 c6_10, .int .i64 90000, .int .i64 0]) ⟨e0, e1, e2, e3, e4, e5, e6, e7, e8, e9, e10, e11, e12, trivial⟩ rfl ?_;replace hE := (hE.below hb).more hb.size;replace hr2 := own_below hr2 hb (Nat.le_refl _);replace hrA := own_below hrA hb (Nat.le_refl _);replace hS := (hS.below hb).more hb.size;have bhbw_12 := Nat.le_trans hbw.size hga3_6;replace hbw := Below.on hbw hb hbw.size;clear hb;have hr6 := ho6_10;clear ho6_4 ho6_5 ho6_6 ho6_10 hR0_;refine EL.val (x_assign rfl) rfl ?_;refine EL.nil ?_;refine EX.seq ?_;refine EC.seq ?_;refine EC.region ?_;refine EL.call cl_47 rfl (three_any _) ?_
   rintro e w13 ⟨⟨vl13, va13, vp13, vk13, ua13, up13, rfl, hR⟩, hc13⟩
   refine ⟨_, rfl, ?_⟩;replace hE := (hE.below hc13).more hc13.size;replace hr2 := own_below hr2 hc13 (Nat.le_refl _);replace hrA := own_below hrA hc13 (Nat.le_refl _);replace hS := (hS.below hc13).more hc13.size;replace hr6 := own_below hr6 hc13 (Nat.le_refl _);replace hbw := Below.on hbw hc13 hbw.size;clear hc13;refine EL.call (cl_46 rfl) rfl (lload_any _ _) ?_
   rintro e w14 ⟨rfl, hc14⟩
   refine ⟨_, rfl, ?_⟩;replace hE := (hE.below hc14).more hc14.size;replace hr2 := own_below hr2 hc14 (Nat.le_refl _);replace hrA := own_below hrA hc14 (Nat.le_refl _);replace hS := (hS.below hc14).more hc14.size;replace hr6 := own_below hr6 hc14 (Nat.le_refl _);replace hR := (hR.below hc14).more hc14.size;replace hbw := Below.on hbw hc14 hbw.size;clear hc14;refine EL.newS (bs_29_1 rfl) rfl ?_;intro g15 w15 q15 hb15 hg15 hl15;have bhbw_15 := Nat.le_trans hbw.size hg15;replace hE := (hE.below hb15).more hb15.size;replace hr2 := own_below hr2 hb15 (Nat.le_refl _);replace hrA := own_below hrA hb15 (Nat.le_refl _);replace hS := (hS.below hb15).more hb15.size;replace hr6 := own_below hr6 hb15 (Nat.le_refl _);replace hR := (hR.below hb15).more hb15.size;replace hbw := Below.on hbw hb15 hbw.size;clear hb15 hg15 hl15;refine EL.call (cl_46 rfl) rfl (lload_any _ _) ?_
   rintro e w16 ⟨rfl, hc16⟩
   refine ⟨_, rfl, ?_⟩;replace q15 := q15.below hc16 q15.lt;replace hE := (hE.below hc16).more hc16.size;replace hr2 := own_below hr2 hc16 (Nat.le_refl _);replace hrA := own_below hrA hc16 (Nat.le_refl _);replace hS := (hS.below hc16).more hc16.size;replace hr6 := own_below hr6 hc16 (Nat.le_refl _);replace hR := (hR.below hc16).more hc16.size;replace hbw := Below.on hbw hc16 hbw.size;clear hc16;refine EL.newS (bs_29_1 rfl) rfl ?_;intro g17 w17 q17 hb17 hg17 hl17;have n15_17 : g15 ≠ g17 := Nat.ne_of_lt (Nat.lt_of_lt_of_le q15.lt hg17);have bhbw_17 := Nat.le_trans hbw.size hg17;replace q15 := q15.below hb17 q15.lt;replace hE := (hE.below hb17).more hb17.size;replace hr2 := own_below hr2 hb17 (Nat.le_refl _);replace hrA := own_below hrA hb17 (Nat.le_refl _);replace hS := (hS.below hb17).more hb17.size;replace hr6 := own_below hr6 hb17 (Nat.le_refl _);replace hR := (hR.below hb17).more hb17.size;replace hbw := Below.on hbw hb17 hbw.size;clear hb17 hg17 hl17;refine EL.newS (bs_96_2 rfl rfl) rfl ?_;intro g18 w18 q18 hb18 hg18 hl18;have n15_18 : g15 ≠ g18 := Nat.ne_of_lt (Nat.lt_of_lt_of_le q15.lt hg18);have n17_18 : g17 ≠ g18 := Nat.ne_of_lt (Nat.lt_of_lt_of_le q17.lt hg18);have bhbw_18 := Nat.le_trans hbw.size hg18;replace q15 := q15.below hb18 q15.lt;replace q17 := q17.below hb18 q17.lt;replace hE := (hE.below hb18).more hb18.size;replace hr2 := own_below hr2 hb18 (Nat.le_refl _);replace hrA := own_below hrA hb18 (Nat.le_refl _);replace hS := (hS.below hb18).more hb18.size;replace hr6 := own_below hr6 hb18 (Nat.le_refl _);replace hR := (hR.below hb18).more hb18.size;replace hbw := Below.on hbw hb18 hbw.size;clear hb18 hg18 hl18;refine EL.newS (bs_22_2 rfl rfl) rfl ?_;intro g19 w19 q19 hb19 hg19 hl19;have n15_19 : g15 ≠ g19 := Nat.ne_of_lt (Nat.lt_of_lt_of_le q15.lt hg19);have n17_19 : g17 ≠ g19 := Nat.ne_of_lt (Nat.lt_of_lt_of_le q17.lt hg19);have n18_19 : g18 ≠ g19 := Nat.ne_of_lt (Nat.lt_of_lt_of_le q18.lt hg19);have bhbw_19 := Nat.le_trans hbw.size hg19;replace q15 := q15.below hb19 q15.lt;replace q17 := q17.below hb19 q17.lt;replace q18 := q18.below hb19 q18.lt;replace hE := (hE.below hb19).more hb19.size;replace hr2 := own_below hr2 hb19 (Nat.le_refl _);replace hrA := own_below hrA hb19 (Nat.le_refl _);replace hS := (hS.below hb19).more hb19.size;replace hr6 := own_below hr6 hb19 (Nat.le_refl _);replace hR := (hR.below hb19).more hb19.size;replace hbw := Below.on hbw hb19 hbw.size;clear hb19 hg19 hl19;have hT : RdLL evC 2 w19 w19.heap.size (.slice (some ⟨g18, 0, none⟩) 2 2) tK [.slice (some ⟨g15, 0, none⟩) 1 1, .slice (some ⟨g17, 0, none⟩) 1 1] := ⟨rfl, rd_blk (k := 2) (l := [.slice (some ⟨g15, 0, none⟩) 1 1, .slice (some ⟨g17, 0, none⟩) 1 1]) q18 rfl, fun i hi => by (have hi : i < 2 := hi); exact (match i, hi with | 0, _ => rd_blk (k := 1) (l := [.int .i64 1, .int .i64 0]) q15 rfl | 1, _ => rd_blk (k := 1) (l := [.int .i64 1, .int .i64 1]) q17 rfl)⟩
   have hJ := rd_blk (size := 1) (k := 2) (l := [.int .i64 2, .int .i64 1]) q19 rfl;refine EL.call (cl_38 rfl rfl rfl) rfl (kFleet hR (Nat.le_refl _) hT hJ) ?_
   rintro e w20 ⟨⟨u20, rfl, ho20⟩, hc20⟩
   refine ⟨_, rfl, ?_⟩;have hrF := own_less ho20 hbw.size;clear ho20;replace hE := (hE.below hc20).more hc20.size;replace hr2 := own_below hr2 hc20 (Nat.le_refl _);replace hrA := own_below hrA hc20 (Nat.le_refl _);replace hS := (hS.below hc20).more hc20.size;replace hr6 := own_below hr6 hc20 (Nat.le_refl _);replace hbw := Below.on hbw hc20 hbw.size;clear hc20 hR;obtain ⟨AhrF, chrF, rfl, _⟩ := (Rd.of_own hrF).shape;refine EL.val (x_move rfl) rfl ?_;refine EL.val (x_extract rfl rfl) rfl ?_;refine EL.val (x_extract rfl rfl) rfl ?_;refine EL.val (x_extract rfl rfl) rfl ?_;refine EL.val (x_extract rfl rfl) rfl ?_;refine EL.val (x_assign rfl) rfl ?_;refine EL.val (x_assign rfl) rfl ?_;refine EL.val (x_assign rfl) rfl ?_;refine EL.val (x_assign rfl) rfl ?_;refine EL.nil ?_;refine EX.seq ?_;refine EC.seq ?_;refine EC.regionP [[], [], [1], [], [0, 1, 2, 3], [0, 1, 2, 3, 4], [0, 1, 2, 3, 4, 5], [0, 1, 2, 3, 4, 5], [0, 1, 2, 3, 4, 5], [0, 1, 2, 3, 4, 5], [0, 1, 2, 3, 4, 5, 6], [0, 1, 2, 3, 4, 5, 6, 7, 10], [0, 1, 2, 3, 4, 5, 6, 7, 8, 10, 11], [0, 1, 2, 3, 4, 5, 6, 7, 8, 9, 10, 11, 12]] 13 [] (phi (fun i_ r => match i_ with | 1 => r 1 = .slice (some ⟨g5, 0, none⟩) 4 4 | 2 => r 2 = .slice (some ⟨g5, 0, none⟩) 1 4 | 7 => r 7 = .int .i64 0 | 8 => r 8 = .int .i64 0 | 9 => r 9 = .int .i64 7 | 11 => r 11 = .int .i64 0 | 12 => r 12 = .int .i64 0 | _ => True) [(0, fun r w_ => ∃ vl va vp vk ua up, r 0 = rulesV vl va vp vk three ∧ RdRules w_ w_.heap.size vl va vp vk three ua up), (3, fun r w_ => ∃ g_, r 3 = .slice (some ⟨g_, 0, none⟩) 1 1 ∧ Blk w_ g_ 3 #[.int .i64 1] ∧ w20.heap.size ≤ g_), (4, fun r w_ => ∃ A c, r 4 = .tuple #[.slice A 0 c, .int .i64 0, .int .i64 0, .int .i64 7] ∧ w_.ownsRow w.heap.size 3 1 (.slice A 0 c) 0 []), (5, fun r w_ => ∃ A c, r 5 = .tuple #[.slice A 0 c, .int .i64 0, .int .i64 0, .int .i64 7] ∧ w_.ownsRow w.heap.size 3 1 (.slice A 0 c) 0 []), (6, fun r w_ => ∃ A c, r 6 = .slice A 0 c ∧ w_.ownsRow w.heap.size 3 1 (.slice A 0 c) 0 []), (10, fun r w_ => ∃ A c, r 10 = .slice A 0 c ∧ w_.ownsRow w.heap.size 3 1 (.slice A 0 c) 0 [])]) (by kernel_rfl) rfl rfl (phi_cons mono_th (phi_cons mono_bs (phi_cons (mono_cp (f := fun A c => .tuple #[.slice A 0 c, .int .i64 0, .int .i64 0, .int .i64 7])) (phi_cons (mono_cp (f := fun A c => .tuple #[.slice A 0 c, .int .i64 0, .int .i64 0, .int .i64 7])) (phi_cons (mono_cp (f := fun A c => .slice A 0 c)) (phi_cons (mono_cp (f := fun A c => .slice A 0 c)) (phi_nil))))))) (fun i_ hi_ => ?_) ?_
   ·match i_, hi_ with
    | 0, _ =>
     intro val w1 a hb ha hd;have ha := ha.sub (Sub.nil _);refine hs_call ha rfl rfl cl_47 (three_any _) rfl ?_
     rintro e w' ⟨⟨vl, va, vp, vk, ua, up, rfl, hR⟩, hb'⟩
     exact ⟨_, rfl, hb', ⟨vl, va, vp, vk, ua, up, rfl, hR⟩⟩
    | 1, _ =>
     intro val w1 a hb ha hd;have ha := ha.sub (Sub.ins (d := 1) (Sub.nil _) rfl)
     exact hs_val ha rfl rfl (x_move rfl) rfl rfl
    | 2, _ =>
     intro val w1 a hb ha hd;have e1 : val 1 = .slice (some ⟨g5, 0, none⟩) 4 4 := hd 1 (memB_mem.1 rfl);have ha := ha.sub (Sub.ins (d := 81) (Sub.nil _) (dep_get rfl e1))
     exact hs_val ha rfl rfl (slh_29 (hi := 1) rfl rfl (by decide)) rfl rfl
    | 3, _ =>
     intro val w1 a hb ha hd;have ha := ha.sub (Sub.nil _)
     exact hs_newS ha rfl rfl (bs_22_1 rfl) rfl (fun g w' hq _ hge => ⟨g, rfl, hq, Nat.le_trans hb.size hge⟩)
    | 4, _ =>
     intro val w1 a hb ha hd;obtain ⟨vl0_, va0_, vp0_, vk0_, ua0_, up0_, e0, hR0_⟩ := hd 0 (memB_mem.1 rfl);have e2 : val 2 = .slice (some ⟨g5, 0, none⟩) 1 4 := hd 2 (memB_mem.1 rfl);obtain ⟨g3_, e3, q3_, h3_⟩ := hd 3 (memB_mem.1 rfl);change val 3 = _ at e3;have ha := ha.sub (Sub.ins (d := 83) (Sub.ins (d := 82) (Sub.ins (d := 80) (Sub.nil _) (dep_get rfl e0)) (dep_get rfl e2)) (dep_get rfl e3));refine hs_call ha rfl rfl (cl_24 rfl rfl rfl) (kPlan1 hR0_ (Nat.le_refl _) (rd_pre (m := 1) ((hE.below hb).more hb.size) (by decide)) (rd_blk (k := 1) (l := [.int .i64 1]) q3_ rfl)) rfl ?_
     rintro e w' ⟨⟨u, rfl, ho⟩, hb'⟩
     obtain ⟨A, c9, rfl, _⟩ := (Rd.of_own ho).shape
     exact ⟨_, rfl, hb', ⟨A, c9, rfl, own_less ho (Nat.le_trans hbw.size hb.size)⟩⟩
    | 5, _ =>
     intro val w1 a hb ha hd;obtain ⟨A8_4, c8_4, e4, ho8_4⟩ := hd 4 (memB_mem.1 rfl);have ha := ha.sub (Sub.ins (d := 84) (Sub.nil _) (dep_get rfl e4))
     exact hs_val ha rfl rfl (x_move rfl) ⟨A8_4, c8_4, rfl, ho8_4⟩ rfl
    | 6, _ =>
     intro val w1 a hb ha hd;obtain ⟨A8_5, c8_5, e5, ho8_5⟩ := hd 5 (memB_mem.1 rfl);have ha := ha.sub (Sub.ins (d := 79) (Sub.nil _) (dep_get rfl e5))
     exact hs_val ha rfl rfl (x_extract rfl rfl) ⟨A8_5, c8_5, rfl, ho8_5⟩ rfl
    | 7, _ =>
     intro val w1 a hb ha hd;obtain ⟨A8_5, c8_5, e5, ho8_5⟩ := hd 5 (memB_mem.1 rfl);have ha := ha.sub (Sub.ins (d := 79) (Sub.nil _) (dep_get rfl e5))
     exact hs_val ha rfl rfl (x_extract rfl rfl) rfl rfl
    | 8, _ =>
     intro val w1 a hb ha hd;obtain ⟨A8_5, c8_5, e5, ho8_5⟩ := hd 5 (memB_mem.1 rfl);have ha := ha.sub (Sub.ins (d := 79) (Sub.nil _) (dep_get rfl e5))
     exact hs_val ha rfl rfl (x_extract rfl rfl) rfl rfl
    | 9, _ =>
     intro val w1 a hb ha hd;obtain ⟨A8_5, c8_5, e5, ho8_5⟩ := hd 5 (memB_mem.1 rfl);have ha := ha.sub (Sub.ins (d := 79) (Sub.nil _) (dep_get rfl e5))
     exact hs_val ha rfl rfl (x_extract rfl rfl) rfl rfl
    | 10, _ =>
     intro val w1 a hb ha hd;obtain ⟨A8_6, c8_6, e6, ho8_6⟩ := hd 6 (memB_mem.1 rfl);have ha := ha.sub (Sub.ins (d := 85) (Sub.nil _) (dep_get rfl e6))
     exact hs_val ha rfl rfl (x_assign rfl) ⟨A8_6, c8_6, rfl, ho8_6⟩ rfl
    | 11, _ =>
     intro val w1 a hb ha hd;have e7 : val 7 = .int .i64 0 := hd 7 (memB_mem.1 rfl);have ha := ha.sub (Sub.ins (d := 86) (Sub.nil _) (dep_get rfl e7))
     exact hs_val ha rfl rfl (x_assign rfl) rfl rfl
    | 12, _ =>
     intro val w1 a hb ha hd;have e8 : val 8 = .int .i64 0 := hd 8 (memB_mem.1 rfl);have ha := ha.sub (Sub.ins (d := 87) (Sub.nil _) (dep_get rfl e8))
     exact hs_val ha rfl rfl (x_assign rfl) rfl rfl
    | k + 13, h => exact absurd h (by omega)
   ·intro val wR8 hb halc hd
    obtain ⟨vl0_, va0_, vp0_, vk0_, ua0_, up0_, e0, hR0_⟩ := hd 0 (by omega)
    have e1 : val 1 = .slice (some ⟨g5, 0, none⟩) 4 4 := hd 1 (by omega)
    have e2 : val 2 = .slice (some ⟨g5, 0, none⟩) 1 4 := hd 2 (by omega)
    obtain ⟨ga3_8, e3, qa3_8, hga3_8⟩ := hd 3 (by omega)
    change val 3 = _ at e3;change Blk wR8 ga3_8 3 #[.int .i64 1] at qa3_8;obtain ⟨A8_4, c8_4, e4, ho8_4⟩ := hd 4 (by omega)
    obtain ⟨A8_5, c8_5, e5, ho8_5⟩ := hd 5 (by omega)
    obtain ⟨A8_6, c8_6, e6, ho8_6⟩ := hd 6 (by omega)
    have e7 : val 7 = .int .i64 0 := hd 7 (by omega)
    have e8 : val 8 = .int .i64 0 := hd 8 (by omega)
    have e9 : val 9 = .int .i64 7 := hd 9 (by omega)
    obtain ⟨A8_10, c8_10, e10, ho8_10⟩ := hd 10 (by omega)
    have e11 : val 11 = .int .i64 0 := hd 11 (by omega)
    have e12 : val 12 = .int .i64 0 := hd 12 (by omega)
    refine EL.ends (cs := [rulesV vl0_ va0_ vp0_ vk0_ three, .slice (some ⟨g5, 0, none⟩) 4 4, .slice (some ⟨g5, 0, none⟩) 1 4, .slice (some ⟨ga3_8, 0, none⟩) 1 1, .tuple #[.slice A8_4 0 c8_4, .int .i64 0, .int .i64 0, .int .i64 7], .tuple #[.slice A8_5 0 c8_5, .int .i64 0, .int .i64 0, .int .i64 7], .slice A8_6 0 c8_6, .int .i64 0, .int .i64 0, .int .i64 7, .slice A8_10 0 c8_10, .int .i64 0, .int .i64 0]) ⟨e0, e1, e2, e3, e4, e5, e6, e7, e8, e9, e10, e11, e12, trivial⟩ rfl ?_;replace hE := (hE.below hb).more hb.size;replace hr2 := own_below hr2 hb (Nat.le_refl _);replace hrA := own_below hrA hb (Nat.le_refl _);replace hS := (hS.below hb).more hb.size;replace hr6 := own_below hr6 hb (Nat.le_refl _);replace hrF := own_below hrF hb (Nat.le_refl _);have bhbw_21 := Nat.le_trans hbw.size hga3_8;replace hbw := Below.on hbw hb hbw.size;clear hb;have hr8 := ho8_10;clear ho8_4 ho8_5 ho8_6 ho8_10 hR0_;refine EL.val (x_assign rfl) rfl ?_;refine EL.nil ?_;refine EX.seq ?_;refine EC.seq ?_;refine EC.seq ?_;refine EC.region ?_;have h1S : 1 < (slopE three lK).length := by rw [three_slop.1]; decide
    obtain ⟨bS, oS, eS, _, hsc⟩ := vals_cells usS 1 (by rw [hS.len]; exact h1S) wR8 wR8.heap.size _ _ _ hS.rd.rd
    have hSr := hS.rd.row 1 h1S;rw [← ints_flat] at hSr;obtain ⟨AS1, cS1, eS1, _⟩ := hSr.shape;rw [eS1] at hsc hSr;obtain ⟨bS1, oS1, eA1, _, hs1⟩ := ints_cells _ 1 (by rw [three_slop.2]; decide) wR8 wR8.heap.size _ _ _ hSr
    rw [three_slop.2] at hs1;obtain ⟨b2, o2, eR2, _, r0, r1⟩ := bds_cells _ 0 (by decide) wR8 wR8.heap.size _ _ _ (Rd.of_own hr2)
    obtain ⟨bA, oA, eAA, _, a0, a1, a2⟩ := brs_cells _ 0 (by decide) wR8 wR8.heap.size _ _ _ (Rd.of_own hrA)
    obtain ⟨b6, o6, eR6, _, p0⟩ := ints_cells [1, -1] 0 (by decide) wR8 wR8.heap.size _ _ _ (Rd.of_own hr6)
    obtain ⟨b6b, o6b, eR6b, _, p1⟩ := ints_cells [1, -1] 1 (by decide) wR8 wR8.heap.size _ _ _ (Rd.of_own hr6)
    obtain ⟨bF, oF, eRF, _, f0, f1⟩ := sts_cells _ 0 (by decide) wR8 wR8.heap.size _ _ _ (Rd.of_own hrF)
    obtain ⟨bFb, oFb, eRFb, _, f2, f3⟩ := sts_cells _ 1 (by decide) wR8 wR8.heap.size _ _ _ (Rd.of_own hrF)
    refine EL.val (x_move rfl) rfl ?_;refine EL.val (x_neq (r := false) rfl rfl (decide_eq_false (by decide))) rfl ?_
    refine EL.val (x_move rfl) rfl ?_;refine EL.valg rfl rfl (x_move rfl) rfl ?_;refine EL.valg rfl rfl (x_neq (r := false) rfl rfl (decide_eq_false (by decide))) rfl ?_
    refine EL.val (x_pick_f rfl rfl) rfl ?_;refine EL.val (x_move rfl) rfl ?_;refine EL.valg rfl rfl (x_move rfl) rfl ?_;refine EL.valg rfl rfl (x_neq (r := false) rfl rfl (decide_eq_false (by decide))) rfl ?_
    refine EL.val (x_pick_f rfl rfl) rfl ?_;refine EL.val (x_move rfl) rfl ?_;refine EL.valg rfl rfl (x_move rfl) rfl ?_;refine EL.valg rfl rfl (x_neq (r := false) rfl rfl (decide_eq_false (by decide))) rfl ?_
    refine EL.val (x_pick_f rfl rfl) rfl ?_;refine EL.val (x_move rfl) rfl ?_;refine EL.valg rfl rfl (x_move rfl) rfl ?_;refine EL.valg rfl rfl (x_neq (r := false) rfl rfl (decide_eq_false (by decide))) rfl ?_
    refine EL.val (x_pick_f rfl rfl) rfl ?_;refine EL.val (x_move rfl) rfl ?_;refine EL.valg rfl rfl (x_move rfl) rfl ?_;refine EL.valg rfl rfl (x_neq (r := false) rfl rfl (decide_eq_false (by decide))) rfl ?_
    refine EL.val (x_pick_f rfl rfl) rfl ?_;refine EL.val (x_move rfl) rfl ?_;refine EL.valg rfl rfl (x_move rfl) rfl ?_;refine EL.valg rfl rfl (x_neq (r := false) rfl rfl (decide_eq_false (by decide))) rfl ?_
    refine EL.val (x_pick_f rfl rfl) rfl ?_;refine EL.val (x_move rfl) rfl ?_;refine EL.valg rfl rfl (x_move rfl) rfl ?_;refine EL.valg rfl rfl (x_neq (r := false) rfl rfl (decide_eq_false (by decide))) rfl ?_
    refine EL.val (x_pick_f rfl rfl) rfl ?_;refine EL.val (x_move rfl) rfl ?_;refine EL.valg rfl rfl (x_move rfl) rfl ?_;refine EL.valg rfl rfl (ln_60 rfl) rfl ?_;refine EL.valg rfl rfl (x_neq (r := false) rfl rfl (decide_eq_false (by decide))) rfl ?_
    refine EL.val (x_pick_f rfl rfl) rfl ?_;refine EL.val (x_move rfl) rfl ?_;refine EL.valg rfl rfl (x_move rfl) rfl ?_;refine EL.valg rfl rfl (ln_32 rfl) rfl ?_;refine EL.valg rfl rfl (x_neq (r := false) rfl rfl (decide_eq_false (by decide))) rfl ?_
    refine EL.val (x_pick_f rfl rfl) rfl ?_;refine EL.val (x_move rfl) rfl ?_;refine EL.valg rfl rfl (x_move rfl) rfl ?_;refine EL.valg rfl rfl (ln_25 rfl) rfl ?_;refine EL.valg rfl rfl (x_neq (r := false) rfl rfl (decide_eq_false (by rw [three_slop.1]; decide))) rfl ?_
    refine EL.val (x_pick_f rfl rfl) rfl ?_;refine EL.val (x_move rfl) rfl ?_;refine EL.valg rfl rfl (x_move rfl) rfl ?_;refine EL.valg rfl rfl (ix_25 (k := 1) (by show some (Value.slice AS _ _) = _; rw [eS]) rfl (h1S)) rfl ?_
    refine EL.valg rfl rfl (ld_22 rfl hsc) rfl ?_;refine EL.valg rfl rfl (ln_22 rfl) rfl ?_;refine EL.valg rfl rfl (x_neq (r := false) rfl rfl (decide_eq_false (by rw [three_slop.2]; decide))) rfl ?_
    refine EL.val (x_pick_f rfl rfl) rfl ?_;refine EL.val (x_move rfl) rfl ?_;refine EL.valg rfl rfl (x_move rfl) rfl ?_;refine EL.valg rfl rfl (ln_22 rfl) rfl ?_;refine EL.valg rfl rfl (x_neq (r := false) rfl rfl (decide_eq_false (by decide))) rfl ?_
    refine EL.val (x_pick_f rfl rfl) rfl ?_;refine EL.val (x_move rfl) rfl ?_;refine EL.valg rfl rfl (x_move rfl) rfl ?_;refine EL.valg rfl rfl (ln_65 rfl) rfl ?_;refine EL.valg rfl rfl (x_neq (r := false) rfl rfl (decide_eq_false (by decide))) rfl ?_
    refine EL.val (x_pick_f rfl rfl) rfl ?_;refine EL.nil ?_;refine EX.seq ?_;refine EC.no rfl ?_;refine EC.skip ?_;refine EX.seq ?_;refine EC.seq ?_;refine EC.region ?_;refine EL.val (x_move rfl) rfl ?_;refine EL.val (ix_60 (k := 0) (by show some (Value.slice A2_7 _ _) = _; rw [eR2]) rfl (by decide)) rfl ?_
    refine EL.val (ld_24 rfl r0 r1) rfl ?_;refine EL.val (bd_24_0_1 rfl rfl) rfl ?_;refine EL.val (eql_24 (r := true) rfl rfl (by decide)) rfl ?_
    refine EL.val (x_move rfl) rfl ?_;refine EL.valg rfl rfl (x_move rfl) rfl ?_;refine EL.valg rfl rfl (ix_32 (k := 0) (by show some (Value.slice AhrA _ _) = _; rw [eAA]) rfl (by decide)) rfl ?_
    refine EL.valg rfl rfl (ld_46 rfl a0 a1 a2) rfl ?_;refine EL.valg rfl rfl (bd_46_0_2 rfl rfl) rfl ?_;refine EL.valg rfl rfl (x_eqBr (r := true) rfl rfl (by decide)) rfl ?_
    refine EL.val (x_pick_t rfl rfl) rfl ?_;refine EL.val (x_move rfl) rfl ?_;refine EL.valg rfl rfl (x_move rfl) rfl ?_;refine EL.valg rfl rfl (ix_25 (k := 1) (by show some (Value.slice AS _ _) = _; rw [eS]) rfl (h1S)) rfl ?_
    refine EL.valg rfl rfl (ld_22 rfl hsc) rfl ?_;refine EL.valg rfl rfl (ix_22 (k := 1) (by show some (Value.slice AS1 _ _) = _; rw [eA1]) rfl (by rw [three_slop.2]; decide)) rfl ?_
    refine EL.valg rfl rfl (ld_3 rfl hs1) rfl ?_;refine EL.valg rfl rfl (x_eql (r := true) rfl rfl (decide_eq_true (by decide))) rfl ?_
    refine EL.val (x_pick_t rfl rfl) rfl ?_;refine EL.val (x_move rfl) rfl ?_;refine EL.valg rfl rfl (x_move rfl) rfl ?_;refine EL.valg rfl rfl (x_eql (r := true) rfl rfl (decide_eq_true (by decide))) rfl ?_
    refine EL.val (x_pick_t rfl rfl) rfl ?_;refine EL.val (x_move rfl) rfl ?_;refine EL.valg rfl rfl (x_move rfl) rfl ?_;refine EL.valg rfl rfl (x_eql (r := true) rfl rfl (decide_eq_true (by decide))) rfl ?_
    refine EL.val (x_pick_t rfl rfl) rfl ?_;refine EL.val (x_move rfl) rfl ?_;refine EL.valg rfl rfl (x_move rfl) rfl ?_;refine EL.valg rfl rfl (x_eql (r := true) rfl rfl (decide_eq_true (by decide))) rfl ?_
    refine EL.val (x_pick_t rfl rfl) rfl ?_;refine EL.val (x_move rfl) rfl ?_;refine EL.valg rfl rfl (x_move rfl) rfl ?_;refine EL.valg rfl rfl (ix_22 (k := 0) (by show some (Value.slice A6_10 _ _) = _; rw [eR6]) rfl (by decide)) rfl ?_
    refine EL.valg rfl rfl (ld_3 rfl p0) rfl ?_;refine EL.valg rfl rfl (x_eql (r := true) rfl rfl (decide_eq_true (by decide))) rfl ?_
    refine EL.val (x_pick_t rfl rfl) rfl ?_;refine EL.val (x_move rfl) rfl ?_;refine EL.valg rfl rfl (x_move rfl) rfl ?_;refine EL.valg rfl rfl (ix_22 (k := 1) (by show some (Value.slice A6_10 _ _) = _; rw [eR6b]) rfl (by decide)) rfl ?_
    refine EL.valg rfl rfl (ld_3 rfl p1) rfl ?_;refine EL.valg rfl rfl (x_eql (r := true) rfl rfl (decide_eq_true (by decide))) rfl ?_
    refine EL.val (x_pick_t rfl rfl) rfl ?_;refine EL.val (x_move rfl) rfl ?_;refine EL.valg rfl rfl (x_move rfl) rfl ?_;refine EL.valg rfl rfl (x_eql (r := true) rfl rfl (decide_eq_true (by decide))) rfl ?_
    refine EL.val (x_pick_t rfl rfl) rfl ?_;refine EL.val (x_move rfl) rfl ?_;refine EL.valg rfl rfl (x_move rfl) rfl ?_;refine EL.valg rfl rfl (ix_65 (k := 0) (by show some (Value.slice AhrF _ _) = _; rw [eRF]) rfl (by decide)) rfl ?_
    refine EL.valg rfl rfl (ld_70 rfl f0 f1) rfl ?_;refine EL.valg rfl rfl (bd_70_1 rfl) rfl ?_;refine EL.valg rfl rfl (eql_70 (r := true) rfl rfl (by decide)) rfl ?_
    refine EL.val (x_pick_t rfl rfl) rfl ?_;refine EL.val (x_move rfl) rfl ?_;refine EL.valg rfl rfl (x_move rfl) rfl ?_;refine EL.valg rfl rfl (ix_65 (k := 1) (by show some (Value.slice AhrF _ _) = _; rw [eRFb]) rfl (by decide)) rfl ?_
    refine EL.valg rfl rfl (ld_70 rfl f2 f3) rfl ?_;refine EL.valg rfl rfl (bd_70_1 rfl) rfl ?_;refine EL.valg rfl rfl (eql_70 (r := true) rfl rfl (by decide)) rfl ?_
    refine EL.val (x_pick_t rfl rfl) rfl ?_;refine EL.val (x_assign rfl) rfl ?_;refine EL.nil ?_;refine EX.seq ?_;refine EC.ret ?_
    exact EX.done (res1 rfl rfl) ⟨rfl, hbw⟩
end Go.Proofs.Ytdkedhcbdbpccaa
set_option linter.unusedVariables false
set_option linter.unusedSimpArgs false
namespace Go.Proofs.Ytdkedhcbdbpccaa
open Go Go.RowKit
section
variable {n : Nat} {σ : Sg} {w : World} {dst : Option Tmp} {ty : TypeId} {pos : String} {af : Array Edge} {g : Option (Nat × Bool)} {x y z : Operand} {at' : Array TypeId}
theorem cl_11 {x0 x1 : Operand} {v0 v1 : Value} (h0 : evS σ x0 = some v0) (h1 : evS σ x1 = some v1) (a : Act) (ha : Env n σ a) : (execOp a.eval ⟨dst, .call { callee := .value (.func 11), args := #[x0, x1], argTypes := at' }, ty, pos, af, g⟩).run Try.prog w = .ok (.enter 11 #[v0, v1]) w := by
 simp only [execOp, resolve, List.map_toArray, List.map_cons, List.map_nil, ha.eval h0, ha.eval h1]
 simp [go_sem, Act.eval]
theorem cl_14 {x0 : Operand} {v0 : Value} (h0 : evS σ x0 = some v0) (a : Act) (ha : Env n σ a) : (execOp a.eval ⟨dst, .call { callee := .value (.func 14), args := #[x0], argTypes := at' }, ty, pos, af, g⟩).run Try.prog w = .ok (.enter 14 #[v0]) w := by
 simp only [execOp, resolve, List.map_toArray, List.map_cons, List.map_nil, ha.eval h0]
 simp [go_sem, Act.eval]
theorem cl_15 {x0 : Operand} {v0 : Value} (h0 : evS σ x0 = some v0) (a : Act) (ha : Env n σ a) : (execOp a.eval ⟨dst, .call { callee := .value (.func 15), args := #[x0], argTypes := at' }, ty, pos, af, g⟩).run Try.prog w = .ok (.enter 15 #[v0]) w := by
 simp only [execOp, resolve, List.map_toArray, List.map_cons, List.map_nil, ha.eval h0]
 simp [go_sem, Act.eval]
theorem cl_34 {x0 x1 x2 : Operand} {v0 v1 v2 : Value} (h0 : evS σ x0 = some v0) (h1 : evS σ x1 = some v1) (h2 : evS σ x2 = some v2) (a : Act) (ha : Env n σ a) : (execOp a.eval ⟨dst, .call { callee := .value (.func 34), args := #[x0, x1, x2], argTypes := at' }, ty, pos, af, g⟩).run Try.prog w = .ok (.enter 34 #[v0, v1, v2]) w := by
 simp only [execOp, resolve, List.map_toArray, List.map_cons, List.map_nil, ha.eval h0, ha.eval h1, ha.eval h2]
 simp [go_sem, Act.eval]
theorem neq_50 {a0 a1 b0 b1 : Int} {r : Bool} (hx : evS σ x = some (.agg #[.int .i64 a0, .int .i64 a1])) (hy : evS σ y = some (.agg #[.int .i64 b0, .int .i64 b1])) (hc : decide (¬ (a0 = b0 ∧ a1 = b1)) = r) : Gives Try.prog n σ w ⟨dst, .binOp .neq 50 x y 50, ty, pos, af, g⟩ (.bool r) := fun a ha => by
 subst hc
 simp only [execOp, ha.eval hx, ha.eval hy]
 go_simp
 repeat' split
 all_goals simp_all
theorem cl_21 {x0 x1 : Operand} {v0 v1 : Value} (h0 : evS σ x0 = some v0) (h1 : evS σ x1 = some v1) (a : Act) (ha : Env n σ a) : (execOp a.eval ⟨dst, .call { callee := .value (.func 21), args := #[x0, x1], argTypes := at' }, ty, pos, af, g⟩).run Try.prog w = .ok (.enter 21 #[v0, v1]) w := by
 simp only [execOp, resolve, List.map_toArray, List.map_cons, List.map_nil, ha.eval h0, ha.eval h1]
 simp [go_sem, Act.eval]
theorem cl_18 {x0 x1 : Operand} {v0 v1 : Value} (h0 : evS σ x0 = some v0) (h1 : evS σ x1 = some v1) (a : Act) (ha : Env n σ a) : (execOp a.eval ⟨dst, .call { callee := .value (.func 18), args := #[x0, x1], argTypes := at' }, ty, pos, af, g⟩).run Try.prog w = .ok (.enter 18 #[v0, v1]) w := by
 simp only [execOp, resolve, List.map_toArray, List.map_cons, List.map_nil, ha.eval h0, ha.eval h1]
 simp [go_sem, Act.eval]
theorem cl_12  (a : Act) (_ : Env n σ a) : (execOp a.eval ⟨dst, .call { callee := .value (.func 12), args := #[], argTypes := at' }, ty, pos, af, g⟩).run Try.prog w = .ok (.enter 12 #[]) w := by
 simp only [execOp, resolve, List.map_toArray, List.map_nil]
 simp [go_sem, Act.eval]
theorem cl_27 {x0 x1 : Operand} {v0 v1 : Value} (h0 : evS σ x0 = some v0) (h1 : evS σ x1 = some v1) (a : Act) (ha : Env n σ a) : (execOp a.eval ⟨dst, .call { callee := .value (.func 27), args := #[x0, x1], argTypes := at' }, ty, pos, af, g⟩).run Try.prog w = .ok (.enter 27 #[v0, v1]) w := by
 simp only [execOp, resolve, List.map_toArray, List.map_cons, List.map_nil, ha.eval h0, ha.eval h1]
 simp [go_sem, Act.eval]
theorem neq_24 {a0 a1 b0 b1 : Int} {r : Bool} (hx : evS σ x = some (.agg #[.int .i64 a0, .int .i64 a1])) (hy : evS σ y = some (.agg #[.int .i64 b0, .int .i64 b1])) (hc : decide (¬ (a0 = b0 ∧ a1 = b1)) = r) : Gives Try.prog n σ w ⟨dst, .binOp .neq 24 x y 24, ty, pos, af, g⟩ (.bool r) := fun a ha => by
 subst hc
 simp only [execOp, ha.eval hx, ha.eval hy]
 go_simp
 repeat' split
 all_goals simp_all
theorem cl_36 {x0 x1 x2 : Operand} {v0 v1 v2 : Value} (h0 : evS σ x0 = some v0) (h1 : evS σ x1 = some v1) (h2 : evS σ x2 = some v2) (a : Act) (ha : Env n σ a) : (execOp a.eval ⟨dst, .call { callee := .value (.func 36), args := #[x0, x1, x2], argTypes := at' }, ty, pos, af, g⟩).run Try.prog w = .ok (.enter 36 #[v0, v1, v2]) w := by
 simp only [execOp, resolve, List.map_toArray, List.map_cons, List.map_nil, ha.eval h0, ha.eval h1, ha.eval h2]
 simp [go_sem, Act.eval]
end
end Go.Proofs.Ytdkedhcbdbpccaa
set_option linter.unusedVariables false
set_option linter.unusedSimpArgs false
namespace Go.Proofs.Ytdkedhcbdbpccaa
open Go Go.RowKit
section
variable {P : Program} {n : Nat} {σ : Sg} {w : World} {dst : Option Tmp} {ty t t' : TypeId} {pos : String} {af : Array Edge} {g : Option (Nat × Bool)} {x y : Operand} {a b r : Bool}
theorem x_eqlB (hx : evS σ x = some (.bool a)) (hy : evS σ y = some (.bool b)) (hc : decide (a = b) = r) : Gives Try.prog n σ w ⟨dst, .binOp .eql 4 x y 4, ty, pos, af, g⟩ (.bool r) := fun _ ha => by
 subst hc
 simp only [execOp, ha.eval hx, ha.eval hy]
 cases a <;> cases b <;> kernel_rfl
theorem x_neqB (hx : evS σ x = some (.bool a)) (hy : evS σ y = some (.bool b)) (hc : decide (a ≠ b) = r) : Gives Try.prog n σ w ⟨dst, .binOp .neq 4 x y 4, ty, pos, af, g⟩ (.bool r) := fun _ ha => by
 subst hc
 simp only [execOp, ha.eval hx, ha.eval hy]
 cases a <;> cases b <;> kernel_rfl
end
theorem tup3 {a b x y : Bool} {c z : Int} (h : Value.tuple #[.bool a, .bool b, .int .i64 c] = .tuple #[.bool x, .bool y, .int .i64 z]) : x = a ∧ y = b ∧ z = c := by
 simp at h
 exact ⟨h.1.symm, h.2.1.symm, h.2.2.symm⟩
theorem mayE_t (ru : Rules) (l : List Ev) (cg : Int) : ∃ b1 b2 c, mayE ru l cg = .tuple #[.bool b1, .bool b2, .int .i64 c] := by
 unfold mayE
 split
 ·split
  ·exact ⟨_, _, _, rfl⟩
  ·exact ⟨_, _, _, rfl⟩
 ·exact ⟨_, _, _, rfl⟩
theorem ref_cases (ru : Rules) (l : List Ev) (cg : Int) : (rulesB ru = false ∧ refE ru l = 2) ∨ (rulesB ru = true ∧ refE ru l ≠ 0) ∨ (rulesB ru = true ∧ refE ru l = 0 ∧ inB 0 ((ru.levels.length : Nat) - 1 : Int) cg = false) ∨ (rulesB ru = true ∧ refE ru l = 0 ∧ inB 0 ((ru.levels.length : Nat) - 1 : Int) cg = true) := by
 cases hrb : rulesB ru
 ·exact .inl ⟨rfl, by rw [refE, hrb]; rfl⟩
 ·by_cases hz : refE ru l = 0
  ·cases hin : inB 0 ((ru.levels.length : Nat) - 1 : Int) cg
   ·exact .inr (.inr (.inl ⟨rfl, hz, rfl⟩))
   ·exact .inr (.inr (.inr ⟨rfl, hz, rfl⟩))
  ·exact .inr (.inl ⟨rfl, hz⟩)
set_option maxHeartbeats 4000000 in
theorem residues_law {ru : Rules} {ua up : List Value} {vl va vp vk : Value} {w : World} {B : Nat} (hr : RdRules w B vl va vp vk ru ua up) (hB : B ≤ w.heap.size) {l : List Ev} {v : Value} (hl : Rd w B 2 v l.length (evsC l)) (cg : Int) :
  Calls Try.prog 6 #[rulesV vl va vp vk ru, v, .int .i64 cg] w fun e w' => e = .returned (.bool true) ∧ Below w.heap.size w w' := by
 obtain ⟨Al, cl, rfl, _⟩ := hr.levels.shape;obtain ⟨Aa, ca, rfl, _⟩ := hr.allow.rd.shape;obtain ⟨Ap, cp, rfl, _⟩ := hr.apart.rd.shape;obtain ⟨Ak, ck, rfl, _⟩ := hr.kinds.shape;obtain ⟨Ae, ce, rfl, _⟩ := hl.shape;have hbw := Below.refl w.heap.size w
 unfold rulesV
 refine EC.enter 181 Try.func6 rfl rfl rfl ?_;refine EC.seq ?_;refine EC.region ?_;refine EL.newP (bx_28 rfl) rfl ?_;intro g1 w1 q1 hb1 hg1 hl1;have bhbw_1 := Nat.le_trans hbw.size hg1;replace hbw := Below.on hbw hb1 hbw.size;clear hb1 hg1 hl1;refine EL.val (x_assign rfl) rfl ?_;refine EL.nil ?_;refine EX.seq ?_;refine EC.seq ?_;refine EC.seq ?_;refine EC.region ?_;refine EL.val (ld_28 rfl (q1.at (j := 0) rfl) (q1.at (j := 1) rfl) (q1.at (j := 2) rfl) (q1.at (j := 3) rfl) (q1.at (j := 4) rfl) (q1.at (j := 5) rfl)) rfl ?_;refine EL.val (x_move rfl) rfl ?_;refine EL.call (cl_11 rfl rfl) rfl (great_any (hr.below (hbw.mono hB)) (Nat.le_trans hB hbw.size) (hl.below (hbw.mono hB))) ?_
 rintro e wB ⟨⟨bB, rfl, hgr⟩, hcB⟩
 cases bB
 ·
  have hwe := hgr rfl;have hs := hwe.short;have hn := hwe.l;refine ⟨_, rfl, ?_⟩;replace q1 := q1.below hcB q1.lt;replace hbw := Below.on hbw hcB hbw.size;clear hcB;refine EL.nil ?_;refine EX.seq ?_;refine EC.no rfl ?_;refine EC.skip ?_;refine EX.seq ?_;refine EC.seq ?_;refine EC.region ?_;refine EL.val (ld_28 rfl (q1.at (j := 0) rfl) (q1.at (j := 1) rfl) (q1.at (j := 2) rfl) (q1.at (j := 3) rfl) (q1.at (j := 4) rfl) (q1.at (j := 5) rfl)) rfl ?_;refine EL.call (cl_14 rfl) rfl (own_any (hr.below (hbw.mono hB)) (Nat.le_trans hB hbw.size) hwe) ?_
  rintro e w2 ⟨⟨vl2, va2, vp2, vk2, ua2, up2, rfl, hR2⟩, hc2⟩
  refine ⟨_, rfl, ?_⟩;replace q1 := q1.below hc2 q1.lt;replace hbw := Below.on hbw hc2 hbw.size;clear hc2;obtain ⟨Al2, cl2, rfl, _⟩ := hR2.levels.shape;obtain ⟨Aa2, ca2, rfl, _⟩ := hR2.allow.rd.shape;obtain ⟨Ap2, cp2, rfl, _⟩ := hR2.apart.rd.shape;obtain ⟨Ak2, ck2, rfl, _⟩ := hR2.kinds.shape
  unfold rulesV
  have hbo := Below.refl w2.heap.size w2;have hbo0 := hbw.size;refine EL.val (x_move rfl) rfl ?_;refine EL.call (cl_15 rfl) rfl (events_any (hl.below (hbw.mono hB)) (Nat.le_trans hB hbw.size) (by omega)) ?_
  rintro e w3 ⟨⟨vx, rfl, hx⟩, hc3⟩
  refine ⟨_, rfl, ?_⟩;replace hx := own_less hx hbw.size;replace q1 := q1.below hc3 q1.lt;replace hbw := Below.on hbw hc3 hbw.size;replace hbo := Below.on hbo hc3 hbo.size;clear hc3;obtain ⟨Ax, cx, rfl, _⟩ := (Rd.of_own hx).shape;refine EL.newP al_28 rfl ?_;intro g4 w4 q4 hb4 hg4 hl4;have n1_4 : g1 ≠ g4 := Nat.ne_of_lt (Nat.lt_of_lt_of_le q1.lt hg4);have bhbw_4 := Nat.le_trans hbw.size hg4;have bhbo_4 := Nat.le_trans hbo.size hg4;replace q1 := q1.below hb4 q1.lt;replace hx := own_below hx hb4 (Nat.le_refl _);replace hbw := Below.on hbw hb4 hbw.size;replace hbo := Below.on hbo hb4 hbo.size;clear hb4 hg4 hl4;refine EL.store rfl rfl q4 sz_28 rfl rfl rfl rfl ?_;intro w5 hq5 hg5;replace q1 := q1.grown hg5 (fun h => n1_4 (Option.some.inj h))
  replace hx := own_type hx q4 rfl hg5;replace hbw := below_store hbw hg5 bhbw_4;replace hbo := below_store hbo hg5 bhbo_4;replace q4 := hq5;clear hg5 hq5;refine EL.val (x_assign rfl) rfl ?_;refine EL.nil ?_;refine EX.seq ?_;refine EC.seq ?_;refine EC.region ?_;refine EL.val (ld_28 rfl (q4.at (j := 0) rfl) (q4.at (j := 1) rfl) (q4.at (j := 2) rfl) (q4.at (j := 3) rfl) (q4.at (j := 4) rfl) (q4.at (j := 5) rfl)) rfl ?_;refine EL.call (cl_32 rfl) rfl (check_any ru _ _ _ _ _ _ _ _ ((hR2.below hbo).more hbo.size) (Nat.le_refl _) hs) ?_
  rintro e w6 ⟨rfl, hc6⟩
  refine ⟨_, rfl, ?_⟩;replace q1 := q1.below hc6 q1.lt;replace q4 := q4.below hc6 q4.lt;replace hx := own_below hx hc6 (Nat.le_refl _);replace hbw := Below.on hbw hc6 hbw.size;replace hbo := Below.on hbo hc6 hbo.size;clear hc6;refine EL.val (x_assign rfl) rfl ?_;refine EL.nil ?_;refine EX.seq ?_;refine EC.seq ?_;refine EC.region ?_;refine EL.val (ld_28 rfl (q4.at (j := 0) rfl) (q4.at (j := 1) rfl) (q4.at (j := 2) rfl) (q4.at (j := 3) rfl) (q4.at (j := 4) rfl) (q4.at (j := 5) rfl)) rfl ?_;refine EL.val (x_move rfl) rfl ?_;refine EL.call (cl_33 rfl rfl) rfl (Residues_any ((hR2.below hbo).more hbo.size) (Nat.le_refl _) hs (Rd.of_own hx) (by omega)) ?_
  rintro e w7 ⟨⟨vb, rfl, hres⟩, hc7⟩
  refine ⟨_, rfl, ?_⟩;replace hres := own_less hres hbw.size;replace q1 := q1.below hc7 q1.lt;replace q4 := q4.below hc7 q4.lt;replace hx := own_below hx hc7 (Nat.le_refl _);replace hbw := Below.on hbw hc7 hbw.size;replace hbo := Below.on hbo hc7 hbo.size;clear hc7;obtain ⟨Ab, cb_, rfl, _⟩ := (Rd.of_own hres).shape;refine EL.val (x_move rfl) rfl ?_;refine EL.val (x_extract rfl rfl) rfl ?_;refine EL.val (x_extract rfl rfl) rfl ?_;refine EL.val (x_assign rfl) rfl ?_;refine EL.val (x_assign rfl) rfl ?_;refine EL.nil ?_;refine EX.seq ?_;refine EC.seq ?_;refine EC.region ?_;refine EL.val (ld_28 rfl (q4.at (j := 0) rfl) (q4.at (j := 1) rfl) (q4.at (j := 2) rfl) (q4.at (j := 3) rfl) (q4.at (j := 4) rfl) (q4.at (j := 5) rfl)) rfl ?_;refine EL.val (x_move rfl) rfl ?_;refine EL.val (x_move rfl) rfl ?_;obtain ⟨b1_, b2_, c3_, hm_⟩ := mayE_t ru l cg;have hcall := May_any ((hR2.below hbo).more hbo.size) (Nat.le_refl _) hs (Rd.of_own hx) (by omega) cg
  rw [hm_] at hcall;refine EL.call (cl_34 rfl rfl rfl) rfl (hcall) ?_
  rintro e w8 ⟨rfl, hc8⟩
  refine ⟨_, rfl, ?_⟩;replace q1 := q1.below hc8 q1.lt;replace q4 := q4.below hc8 q4.lt;replace hx := own_below hx hc8 (Nat.le_refl _);replace hres := own_below hres hc8 (Nat.le_refl _);replace hbw := Below.on hbw hc8 hbw.size;replace hbo := Below.on hbo hc8 hbo.size;clear hc8;clear hcall;refine EL.val (x_move rfl) rfl ?_;refine EL.val (x_extract rfl rfl) rfl ?_;refine EL.val (x_extract rfl rfl) rfl ?_;refine EL.val (x_extract rfl rfl) rfl ?_;refine EL.val (x_assign rfl) rfl ?_;refine EL.val (x_assign rfl) rfl ?_;refine EL.val (x_assign rfl) rfl ?_;refine EL.nil ?_;refine EX.seq ?_;refine EC.seq ?_;refine EC.seq ?_;refine EC.region ?_;refine EL.val (x_assign rfl) rfl ?_;refine EL.nil ?_;refine EX.seq ?_;refine EC.block ?_;have hcl8 := Below.refl w8.heap.size w8;refine EC.loopD [6, 15, 45, 46, 47, 48, 49, 50, 51, 52, 53, 54, 55, 56, 57, 58, 59] (fun x : Nat => [(15, .int .i64 (x : Nat))]) (fun x W => x ≤ l.length ∧ Below w8.heap.size w8 W) (fun x => l.length - x) 0 ⟨Nat.zero_le _, hcl8⟩ ⟨rfl, trivial⟩ ?_
  clear hcl8
  rintro i wx ⟨hi, hb8⟩
  replace q1 := q1.below hb8 q1.lt;replace q4 := q4.below hb8 q4.lt;replace hx := own_below hx hb8 (Nat.le_refl _);replace hres := own_below hres hb8 (Nat.le_refl _);replace hbw := hbw.trans (hb8.mono hbw.size);replace hbo := hbo.trans (hb8.mono hbo.size)
  by_cases hlt : i < l.length
  ·
   obtain ⟨bx, ox, ebx, _, x0, x1⟩ := evs_cells l i hlt wx wx.heap.size _ _ _ (Rd.of_own hx);obtain ⟨bl, ol, ebl, _, y0, y1⟩ := evs_cells l i hlt wx B _ _ _ (hl.below (hbw.mono hB));refine EC.seq ?_;refine EC.seq ?_;refine EC.region ?_;refine EL.val (x_move rfl) rfl ?_;refine EL.val (x_move rfl) rfl ?_;refine EL.val (ln_29 rfl) rfl ?_;refine EL.val (x_lss rfl rfl (decide_eq_true (show (((i : Nat) : Int) < ((l.length : Nat) : Int)) by omega))) rfl ?_
   refine EL.nil ?_;refine EX.seq ?_;refine EC.yes rfl ?_;refine EC.skip ?_;refine EX.seq ?_;refine EC.seq ?_;refine EC.block ?_;refine EC.seq ?_;refine EC.regionQ (by kernel_rfl) (by kernel_rfl) ?_
   refine EQ.val (fun _ hw => (x_move rfl)) rfl ?_
   refine EQ.val (fun _ hw => (x_move rfl)) rfl ?_
   refine EQ.val (fun _ hw => (ix_29 (by show some (Value.slice Ax _ _) = _; rw [ebx]) rfl hlt)) rfl ?_
   refine EQ.val (fun _ hw => (ld_50 rfl (below_load hw x0) (below_load hw x1))) rfl ?_
   refine EQ.val (fun _ hw => (x_move rfl)) rfl ?_
   refine EQ.val (fun _ hw => (x_move rfl)) rfl ?_
   refine EQ.val (fun _ hw => (ix_29 (by show some (Value.slice Ae _ _) = _; rw [ebl]) rfl hlt)) rfl ?_
   refine EQ.val (fun _ hw => (ld_50 rfl (below_load hw y0) (below_load hw y1))) rfl ?_
   refine EQ.val (fun _ hw => (neq_50 (r := false) rfl rfl (by simp))) rfl ?_
   refine EQ.fin (fun w9 hw_ => ?_)
   replace q1 := q1.below hw_ q1.lt;replace q4 := q4.below hw_ q4.lt;replace hx := own_below hx hw_ (Nat.le_refl _);replace hres := own_below hres hw_ (Nat.le_refl _);replace hbw := Below.on hbw hw_ hbw.size;replace hbo := Below.on hbo hw_ hbo.size;replace hb8 := Below.on hb8 hw_ hb8.size;clear hw_;refine EX.seq ?_;refine EC.no rfl ?_;refine EC.skip ?_;refine EX.blk ?_;refine EX.seq ?_;refine EC.region ?_;refine EL.val (x_move rfl) rfl ?_;refine EL.val (x_add rfl rfl (c := ((i + 1 : Nat) : Int)) ((IntWalk.i64_in _ ⟨by first | omega | (simp only; omega), by first | omega | (simp only; omega)⟩).trans (by first | omega | (simp only; omega)))) rfl ?_
   refine EL.val (x_assign rfl) rfl ?_;refine EL.nil ?_;refine EX.roundD (i + 1) ⟨rfl, trivial⟩ (by repeat first | with_reducible exact Sub.refl _ | refine sub_past rfl ?_ | exact Sub.refl _ | refine sub_del rfl ?_ | refine sub_insL_nil ?_) ⟨hlt, hb8⟩ (by omega)
  ·
   have hxe8 : i = l.length := by omega
   refine EC.seq ?_;refine EC.seq ?_;refine EC.region ?_;refine EL.val (x_move rfl) rfl ?_;refine EL.val (x_move rfl) rfl ?_;refine EL.val (ln_29 rfl) rfl ?_;refine EL.val (x_lss rfl rfl (decide_eq_false (show ¬(((i : Nat) : Int) < ((l.length : Nat) : Int)) by omega))) rfl ?_
   refine EL.nil ?_;refine EX.seq ?_;refine EC.no rfl ?_;refine EC.exit ?_;refine EX.seq_exit ?_;refine EX.seq_exit ?_;refine EX.blk_here ?_;refine EX.seq ?_;refine EC.seq ?_;refine EC.seq ?_;refine EC.region ?_;refine EL.val (fa_28_0 rfl) rfl ?_;refine EL.val (ld_22 rfl (q4.at (j := 0) rfl)) rfl ?_;refine EL.val (fa_28_0 rfl) rfl ?_;refine EL.val (ld_22 rfl (q1.at (j := 0) rfl)) rfl ?_;have hcall := equal_any ((hR2.below hbo).more hbo.size).levels ((hr.below (hbw.mono hB)).levels.more (Nat.le_trans hB hbw.size)) (Nat.le_refl _) (by have := hwe.n; omega) (by have := hwe.n; omega)
   rw [decide_eq_true rfl] at hcall;refine EL.call (cl_21 rfl rfl) rfl (hcall) ?_
   rintro e w10 ⟨rfl, hc10⟩
   refine ⟨_, rfl, ?_⟩;replace q1 := q1.below hc10 q1.lt;replace q4 := q4.below hc10 q4.lt;replace hx := own_below hx hc10 (Nat.le_refl _);replace hres := own_below hres hc10 (Nat.le_refl _);replace hbw := Below.on hbw hc10 hbw.size;replace hbo := Below.on hbo hc10 hbo.size;clear hc10;clear hcall;refine EL.val (x_not rfl) rfl ?_;refine EL.nil ?_;refine EX.seq ?_;refine EC.no rfl ?_;refine EC.skip ?_;refine EX.seq ?_;refine EC.seq ?_;refine EC.seq ?_;refine EC.region ?_;refine EL.val (x_move rfl) rfl ?_;have hcase : (rulesB ru = false ∧ refE ru l = 2) ∨ (rulesB ru = true ∧ refE ru l ≠ 0) ∨ (rulesB ru = true ∧ refE ru l = 0 ∧ inB 0 ((ru.levels.length : Nat) - 1 : Int) cg = false) ∨ (rulesB ru = true ∧ refE ru l = 0 ∧ inB 0 ((ru.levels.length : Nat) - 1 : Int) cg = true) := ref_cases ru l cg
   rcases hcase with ⟨hrb, hz2⟩ | ⟨hrb, hz⟩ | ⟨hrb, hz, hin⟩ | ⟨hrb, hz, hin⟩
   ·
    rw [mayE, if_neg (by rw [hz2]; decide)] at hm_
    obtain ⟨rfl, rfl, rfl⟩ := tup3 hm_;refine EL.val (x_eql (r := false) rfl rfl (by rw [hrb]; decide)) rfl ?_
    refine EL.val (ld_28 rfl (q1.at (j := 0) rfl) (q1.at (j := 1) rfl) (q1.at (j := 2) rfl) (q1.at (j := 3) rfl) (q1.at (j := 4) rfl) (q1.at (j := 5) rfl)) rfl ?_;refine EL.call (cl_35 rfl) rfl (Rules_to (hr.below (hbw.mono hB)) (Nat.le_trans hB hbw.size) hs hrb) ?_
    rintro e w11 ⟨rfl, hc11⟩
    refine ⟨_, rfl, ?_⟩;replace q1 := q1.below hc11 q1.lt;replace q4 := q4.below hc11 q4.lt;replace hx := own_below hx hc11 (Nat.le_refl _);replace hres := own_below hres hc11 (Nat.le_refl _);replace hbw := Below.on hbw hc11 hbw.size;replace hbo := Below.on hbo hc11 hbo.size;clear hc11;refine EL.val (x_neqB (r := false) rfl rfl (by decide)) rfl ?_
    refine EL.val (x_move rfl) rfl ?_;refine EL.valg rfl rfl (x_move rfl) rfl ?_;refine EL.valg rfl rfl (x_neq (r := true) rfl rfl (by rw [hrb]; decide)) rfl ?_
    refine EL.valg rfl rfl (x_move rfl) rfl ?_;refine EL.valg rfl rfl (x_move rfl) rfl ?_;refine EL.valg rfl rfl (x_neq (r := false) rfl rfl (by rw [hrb]; decide)) rfl ?_
    refine EL.valg rfl rfl (x_pick_t rfl rfl) rfl ?_;refine EL.val (x_pick_f rfl rfl) rfl ?_;refine EL.nil ?_;refine EX.seq ?_;refine EC.no rfl ?_;refine EC.skip ?_;refine EX.seq ?_;refine EC.seq ?_;refine EC.seq ?_;refine EC.region ?_;refine EL.val (ld_28 rfl (q1.at (j := 0) rfl) (q1.at (j := 1) rfl) (q1.at (j := 2) rfl) (q1.at (j := 3) rfl) (q1.at (j := 4) rfl) (q1.at (j := 5) rfl)) rfl ?_;refine EL.val (x_move rfl) rfl ?_;refine EL.call (cl_18 rfl rfl) rfl (refused_any (hr.below (hbw.mono hB)) (Nat.le_trans hB hbw.size) hs (hl.below (hbw.mono hB)) (by omega)) ?_
    rintro e w12 ⟨rfl, hc12⟩
    refine ⟨_, rfl, ?_⟩;replace q1 := q1.below hc12 q1.lt;replace q4 := q4.below hc12 q4.lt;replace hx := own_below hx hc12 (Nat.le_refl _);replace hres := own_below hres hc12 (Nat.le_refl _);replace hbw := Below.on hbw hc12 hbw.size;replace hbo := Below.on hbo hc12 hbo.size;clear hc12;refine EL.val (x_assign rfl) rfl ?_;refine EL.nil ?_;refine EX.seq ?_;refine EC.seq ?_;refine EC.region ?_;refine EL.val (x_move rfl) rfl ?_;refine EL.val (x_neq (r := true) rfl rfl (decide_eq_true (by rw [hz2]; decide))) rfl ?_
    refine EL.nil ?_;refine EX.seq ?_;refine EC.yes rfl ?_;refine EC.seq ?_;refine EC.region ?_;refine EL.val (x_move rfl) rfl ?_;refine EL.val (x_move rfl) rfl ?_;refine EL.val (x_eql (r := true) rfl rfl (decide_eq_true rfl)) rfl ?_;refine EL.val (x_move rfl) rfl ?_;refine EL.valg rfl rfl (x_move rfl) rfl ?_;refine EL.valg rfl rfl (x_move rfl) rfl ?_;refine EL.valg rfl rfl (x_eql (r := true) rfl rfl (decide_eq_true rfl)) rfl ?_;refine EL.val (x_pick_t rfl rfl) rfl ?_;refine EL.val (x_move rfl) rfl ?_;refine EL.valg rfl rfl (x_move rfl) rfl ?_;refine EL.valg rfl rfl (ln_60 rfl) rfl ?_;refine EL.valg rfl rfl (x_eql (r := true) rfl rfl (decide_eq_true (by rw [resE, if_neg (by rw [hz2]; decide)]; rfl))) rfl ?_
    refine EL.val (x_pick_t rfl rfl) rfl ?_;refine EL.val (x_move rfl) rfl ?_;refine EL.valg rfl rfl (x_move rfl) rfl ?_;refine EL.valg rfl rfl (x_not rfl) rfl ?_;refine EL.val (x_pick_t rfl rfl) rfl ?_;refine EL.val (x_move rfl) rfl ?_;refine EL.valg rfl rfl (x_move rfl) rfl ?_;refine EL.valg rfl rfl (x_not rfl) rfl ?_;refine EL.val (x_pick_t rfl rfl) rfl ?_;refine EL.val (x_move rfl) rfl ?_;refine EL.callg rfl rfl cl_12 rfl (known_any _) ?_
    rintro e w13 ⟨rfl, hc13⟩
    refine ⟨_, rfl, ?_⟩;replace q1 := q1.below hc13 q1.lt;replace q4 := q4.below hc13 q4.lt;replace hx := own_below hx hc13 (Nat.le_refl _);replace hres := own_below hres hc13 (Nat.le_refl _);replace hbw := Below.on hbw hc13 hbw.size;replace hbo := Below.on hbo hc13 hbo.size;clear hc13;refine EL.val (x_pick_t rfl rfl) rfl ?_;refine EL.val (x_assign rfl) rfl ?_;refine EL.nil ?_;refine EX.seq ?_;refine EC.ret ?_;refine EX.seq_ret ?_
    exact EX.done (res1 rfl rfl) ⟨rfl, hbw⟩
   ·
    rw [mayE, if_neg hz] at hm_;obtain ⟨rfl, rfl, rfl⟩ := tup3 hm_;refine EL.val (x_eql (r := true) rfl rfl (by rw [hrb]; decide)) rfl ?_
    refine EL.val (ld_28 rfl (q1.at (j := 0) rfl) (q1.at (j := 1) rfl) (q1.at (j := 2) rfl) (q1.at (j := 3) rfl) (q1.at (j := 4) rfl) (q1.at (j := 5) rfl)) rfl ?_;refine EL.call (cl_35 rfl) rfl (Rules_to (hr.below (hbw.mono hB)) (Nat.le_trans hB hbw.size) hs hrb) ?_
    rintro e w14 ⟨rfl, hc14⟩
    refine ⟨_, rfl, ?_⟩;replace q1 := q1.below hc14 q1.lt;replace q4 := q4.below hc14 q4.lt;replace hx := own_below hx hc14 (Nat.le_refl _);replace hres := own_below hres hc14 (Nat.le_refl _);replace hbw := Below.on hbw hc14 hbw.size;replace hbo := Below.on hbo hc14 hbo.size;clear hc14;refine EL.val (x_neqB (r := false) rfl rfl (by decide)) rfl ?_
    refine EL.val (x_move rfl) rfl ?_;refine EL.valg rfl rfl (x_move rfl) rfl ?_;refine EL.valg rfl rfl (x_neq (r := false) rfl rfl (by rw [hrb]; decide)) rfl ?_
    refine EL.valg rfl rfl (x_move rfl) rfl ?_;refine EL.skip rfl rfl rfl rfl ?_;refine EL.skip rfl rfl rfl rfl ?_;refine EL.valg rfl rfl (x_pick_f rfl rfl) rfl ?_;refine EL.val (x_pick_f rfl rfl) rfl ?_;refine EL.nil ?_;refine EX.seq ?_;refine EC.no rfl ?_;refine EC.skip ?_;refine EX.seq ?_;refine EC.seq ?_;refine EC.seq ?_;refine EC.region ?_;refine EL.val (ld_28 rfl (q1.at (j := 0) rfl) (q1.at (j := 1) rfl) (q1.at (j := 2) rfl) (q1.at (j := 3) rfl) (q1.at (j := 4) rfl) (q1.at (j := 5) rfl)) rfl ?_;refine EL.val (x_move rfl) rfl ?_;refine EL.call (cl_18 rfl rfl) rfl (refused_any (hr.below (hbw.mono hB)) (Nat.le_trans hB hbw.size) hs (hl.below (hbw.mono hB)) (by omega)) ?_
    rintro e w15 ⟨rfl, hc15⟩
    refine ⟨_, rfl, ?_⟩;replace q1 := q1.below hc15 q1.lt;replace q4 := q4.below hc15 q4.lt;replace hx := own_below hx hc15 (Nat.le_refl _);replace hres := own_below hres hc15 (Nat.le_refl _);replace hbw := Below.on hbw hc15 hbw.size;replace hbo := Below.on hbo hc15 hbo.size;clear hc15;refine EL.val (x_assign rfl) rfl ?_;refine EL.nil ?_;refine EX.seq ?_;refine EC.seq ?_;refine EC.region ?_;refine EL.val (x_move rfl) rfl ?_;refine EL.val (x_neq (r := true) rfl rfl (decide_eq_true hz)) rfl ?_;refine EL.nil ?_;refine EX.seq ?_;refine EC.yes rfl ?_;refine EC.seq ?_;refine EC.region ?_;refine EL.val (x_move rfl) rfl ?_;refine EL.val (x_move rfl) rfl ?_;refine EL.val (x_eql (r := true) rfl rfl (decide_eq_true rfl)) rfl ?_;refine EL.val (x_move rfl) rfl ?_;refine EL.valg rfl rfl (x_move rfl) rfl ?_;refine EL.valg rfl rfl (x_move rfl) rfl ?_;refine EL.valg rfl rfl (x_eql (r := true) rfl rfl (decide_eq_true rfl)) rfl ?_;refine EL.val (x_pick_t rfl rfl) rfl ?_;refine EL.val (x_move rfl) rfl ?_;refine EL.valg rfl rfl (x_move rfl) rfl ?_;refine EL.valg rfl rfl (ln_60 rfl) rfl ?_;refine EL.valg rfl rfl (x_eql (r := true) rfl rfl (decide_eq_true (by rw [resE, if_neg hz]; rfl))) rfl ?_
    refine EL.val (x_pick_t rfl rfl) rfl ?_;refine EL.val (x_move rfl) rfl ?_;refine EL.valg rfl rfl (x_move rfl) rfl ?_;refine EL.valg rfl rfl (x_not rfl) rfl ?_;refine EL.val (x_pick_t rfl rfl) rfl ?_;refine EL.val (x_move rfl) rfl ?_;refine EL.valg rfl rfl (x_move rfl) rfl ?_;refine EL.valg rfl rfl (x_not rfl) rfl ?_;refine EL.val (x_pick_t rfl rfl) rfl ?_;refine EL.val (x_move rfl) rfl ?_;refine EL.callg rfl rfl cl_12 rfl (known_any _) ?_
    rintro e w16 ⟨rfl, hc16⟩
    refine ⟨_, rfl, ?_⟩;replace q1 := q1.below hc16 q1.lt;replace q4 := q4.below hc16 q4.lt;replace hx := own_below hx hc16 (Nat.le_refl _);replace hres := own_below hres hc16 (Nat.le_refl _);replace hbw := Below.on hbw hc16 hbw.size;replace hbo := Below.on hbo hc16 hbo.size;clear hc16;refine EL.val (x_pick_t rfl rfl) rfl ?_;refine EL.val (x_assign rfl) rfl ?_;refine EL.nil ?_;refine EX.seq ?_;refine EC.ret ?_;refine EX.seq_ret ?_
    exact EX.done (res1 rfl rfl) ⟨rfl, hbw⟩
   ·
    rw [mayE, if_pos hz, hin, if_neg (by decide)] at hm_
    obtain ⟨rfl, rfl, rfl⟩ := tup3 hm_;refine EL.val (x_eql (r := true) rfl rfl (by rw [hrb]; decide)) rfl ?_
    refine EL.val (ld_28 rfl (q1.at (j := 0) rfl) (q1.at (j := 1) rfl) (q1.at (j := 2) rfl) (q1.at (j := 3) rfl) (q1.at (j := 4) rfl) (q1.at (j := 5) rfl)) rfl ?_;refine EL.call (cl_35 rfl) rfl (Rules_to (hr.below (hbw.mono hB)) (Nat.le_trans hB hbw.size) hs hrb) ?_
    rintro e w17 ⟨rfl, hc17⟩
    refine ⟨_, rfl, ?_⟩;replace q1 := q1.below hc17 q1.lt;replace q4 := q4.below hc17 q4.lt;replace hx := own_below hx hc17 (Nat.le_refl _);replace hres := own_below hres hc17 (Nat.le_refl _);replace hbw := Below.on hbw hc17 hbw.size;replace hbo := Below.on hbo hc17 hbo.size;clear hc17;refine EL.val (x_neqB (r := false) rfl rfl (by decide)) rfl ?_
    refine EL.val (x_move rfl) rfl ?_;refine EL.valg rfl rfl (x_move rfl) rfl ?_;refine EL.valg rfl rfl (x_neq (r := false) rfl rfl (by rw [hrb]; decide)) rfl ?_
    refine EL.valg rfl rfl (x_move rfl) rfl ?_;refine EL.skip rfl rfl rfl rfl ?_;refine EL.skip rfl rfl rfl rfl ?_;refine EL.valg rfl rfl (x_pick_f rfl rfl) rfl ?_;refine EL.val (x_pick_f rfl rfl) rfl ?_;refine EL.nil ?_;refine EX.seq ?_;refine EC.no rfl ?_;refine EC.skip ?_;refine EX.seq ?_;refine EC.seq ?_;refine EC.seq ?_;refine EC.region ?_;refine EL.val (ld_28 rfl (q1.at (j := 0) rfl) (q1.at (j := 1) rfl) (q1.at (j := 2) rfl) (q1.at (j := 3) rfl) (q1.at (j := 4) rfl) (q1.at (j := 5) rfl)) rfl ?_;refine EL.val (x_move rfl) rfl ?_;refine EL.call (cl_18 rfl rfl) rfl (refused_any (hr.below (hbw.mono hB)) (Nat.le_trans hB hbw.size) hs (hl.below (hbw.mono hB)) (by omega)) ?_
    rintro e w18 ⟨rfl, hc18⟩
    refine ⟨_, rfl, ?_⟩;replace q1 := q1.below hc18 q1.lt;replace q4 := q4.below hc18 q4.lt;replace hx := own_below hx hc18 (Nat.le_refl _);replace hres := own_below hres hc18 (Nat.le_refl _);replace hbw := Below.on hbw hc18 hbw.size;replace hbo := Below.on hbo hc18 hbo.size;clear hc18;refine EL.val (x_assign rfl) rfl ?_;refine EL.nil ?_;refine EX.seq ?_;refine EC.seq ?_;refine EC.region ?_;refine EL.val (x_move rfl) rfl ?_;refine EL.val (x_neq (r := false) rfl rfl (decide_eq_false (fun h => h hz))) rfl ?_
    refine EL.nil ?_;refine EX.seq ?_;refine EC.no rfl ?_;refine EC.skip ?_;refine EX.seq ?_;refine EC.seq ?_;refine EC.region ?_;refine EL.val (ld_28 rfl (q1.at (j := 0) rfl) (q1.at (j := 1) rfl) (q1.at (j := 2) rfl) (q1.at (j := 3) rfl) (q1.at (j := 4) rfl) (q1.at (j := 5) rfl)) rfl ?_;refine EL.val (x_move rfl) rfl ?_;obtain ⟨hro, hv, hn100⟩ := ref_ok hz;have hre : resE ru l = resK (afterT ru l) ru.levels.length := by rw [resE, if_pos hz]
    rw [hre] at hres;have hrl : (resK (afterT ru l) ru.levels.length).length = ru.levels.length := by simp [resK]
    have hsim := sim_after hro hv;refine EL.call (cl_27 rfl rfl) rfl (After_any (hr.below (hbw.mono hB)) (Nat.le_trans hB hbw.size) hro (hl.below (hbw.mono hB)) hv (by omega)) ?_
    rintro e w19 ⟨⟨T1, cT1, T2, cT2, rfl, ho1, ho2, hrt⟩, hc19⟩
    refine ⟨_, rfl, ?_⟩;replace ho1 := own_less ho1 hbw.size;replace ho2 := own_less ho2 hbw.size;replace q1 := q1.below hc19 q1.lt;replace q4 := q4.below hc19 q4.lt;replace hx := own_below hx hc19 (Nat.le_refl _);replace hres := own_below hres hc19 (Nat.le_refl _);replace hbw := Below.on hbw hc19 hbw.size;replace hbo := Below.on hbo hc19 hbo.size;clear hc19;refine EL.newP al_62 rfl ?_;intro g20 w20 q20 hb20 hg20 hl20;have n1_20 : g1 ≠ g20 := Nat.ne_of_lt (Nat.lt_of_lt_of_le q1.lt hg20);have n4_20 : g4 ≠ g20 := Nat.ne_of_lt (Nat.lt_of_lt_of_le q4.lt hg20);have bhbw_20 := Nat.le_trans hbw.size hg20;have bhbo_20 := Nat.le_trans hbo.size hg20;replace q1 := q1.below hb20 q1.lt;replace q4 := q4.below hb20 q4.lt;replace hx := own_below hx hb20 (Nat.le_refl _);replace hres := own_below hres hb20 (Nat.le_refl _);replace ho1 := own_below ho1 hb20 (Nat.le_refl _);replace ho2 := own_below ho2 hb20 (Nat.le_refl _);replace hbw := Below.on hbw hb20 hbw.size;replace hbo := Below.on hbo hb20 hbo.size;clear hb20 hg20 hl20;refine EL.store rfl rfl q20 sz_62 rfl rfl rfl rfl ?_;intro w21 hq21 hg21;replace q1 := q1.grown hg21 (fun h => n1_20 (Option.some.inj h))
    replace q4 := q4.grown hg21 (fun h => n4_20 (Option.some.inj h))
    replace hx := own_type hx q20 rfl hg21;replace hres := own_type hres q20 rfl hg21;replace ho1 := own_type ho1 q20 rfl hg21;replace ho2 := own_type ho2 q20 rfl hg21;replace hbw := below_store hbw hg21 bhbw_20;replace hbo := below_store hbo hg21 bhbo_20;replace q20 := hq21;clear hg21 hq21;refine EL.nil ?_;refine EX.seq ?_;refine EC.seq ?_;refine EC.seq ?_;refine EC.region ?_;refine EL.val (x_move rfl) rfl ?_;refine EL.val (x_neq (r := false) rfl rfl (decide_eq_false (fun h => h hz))) rfl ?_
    refine EL.val (x_move rfl) rfl ?_;refine EL.valg rfl rfl (x_move rfl) rfl ?_;refine EL.valg rfl rfl (ln_60 rfl) rfl ?_;refine EL.valg rfl rfl (fa_62_0 rfl) rfl ?_;refine EL.valg rfl rfl (ld_60 rfl (q20.at (j := 0) rfl)) rfl ?_;refine EL.valg rfl rfl (ln_60 rfl) rfl ?_;refine EL.valg rfl rfl (x_neq (r := false) rfl rfl (decide_eq_false (by rw [hre, hrl]; exact fun h => h rfl))) rfl ?_
    refine EL.val (x_pick_f rfl rfl) rfl ?_;refine EL.nil ?_;refine EX.seq ?_;refine EC.no rfl ?_;refine EC.skip ?_;refine EX.seq ?_;refine EC.seq ?_;refine EC.seq ?_;refine EC.region ?_;refine EL.val (x_assign rfl) rfl ?_;refine EL.nil ?_;refine EX.seq ?_;refine EC.block ?_;have hcl9 := Below.refl w21.heap.size w21;refine EC.loopD [6, 18, 121, 122, 123, 124, 125, 126, 127, 128, 129, 130, 131, 132, 133, 134, 135, 136] (fun x : Nat => [(18, .int .i64 (x : Nat))]) (fun x W => x ≤ ru.levels.length ∧ Below w21.heap.size w21 W) (fun x => ru.levels.length - x) 0 ⟨Nat.zero_le _, hcl9⟩ ⟨rfl, trivial⟩ ?_
    clear hcl9
    rintro j wy ⟨hj, hb9⟩
    replace q1 := q1.below hb9 q1.lt;replace q20 := q20.below hb9 q20.lt;replace hres := own_below hres hb9 (Nat.le_refl _);replace ho1 := own_below ho1 hb9 (Nat.le_refl _);replace ho2 := own_below ho2 hb9 (Nat.le_refl _);replace hbw := hbw.trans (hb9.mono hbw.size)
    by_cases hlt9 : j < ru.levels.length
    ·
     obtain ⟨bx, ox, ebx, _, x0, x1⟩ := bds_cells _ j (by rw [hrl]; exact hlt9) wy wy.heap.size _ _ _ (Rd.of_own hres)
     obtain ⟨by_, oy, eby, _, y0, y1⟩ := bds_cells _ j (by rw [hrt.rl]; exact hlt9) wy wy.heap.size _ _ _ (Rd.of_own ho1)
     rw [hsim.lo j hlt9] at y0;rw [hsim.hi j hlt9] at y1;have hk9 : (resK (afterT ru l) ru.levels.length).getD j bd0 = ⟨((afterT ru l).getD j tr0).lo, ((afterT ru l).getD j tr0).hi⟩ := by unfold resK; rw [rm_getD, if_pos hlt9]
     rw [hk9] at x0 x1;refine EC.seq ?_;refine EC.seq ?_;refine EC.region ?_;refine EL.val (x_move rfl) rfl ?_;refine EL.val (x_move rfl) rfl ?_;refine EL.val (ln_60 rfl) rfl ?_;refine EL.val (x_lss (r := true) rfl rfl (decide_eq_true (by rw [hre, hrl]; omega))) rfl ?_
     refine EL.nil ?_;refine EX.seq ?_;refine EC.yes rfl ?_;refine EC.skip ?_;refine EX.seq ?_;refine EC.seq ?_;refine EC.block ?_;refine EC.seq ?_;refine EC.regionQ (by kernel_rfl) (by kernel_rfl) ?_
     refine EQ.val (fun _ hw => (x_move rfl)) rfl ?_
     refine EQ.val (fun _ hw => (x_move rfl)) rfl ?_
     refine EQ.val (fun _ hw => (ix_60 (by show some (Value.slice Ab _ _) = _; rw [ebx]) rfl (by rw [hre, hrl]; exact hlt9))) rfl ?_
     refine EQ.val (fun _ hw => (ld_24 rfl (below_load hw x0) (below_load hw x1))) rfl ?_
     refine EQ.val (fun _ hw => (fa_62_0 rfl)) rfl ?_
     refine EQ.val (fun _ hw => (ld_60 rfl (below_load hw (q20.at (j := 0) rfl)))) rfl ?_
     refine EQ.val (fun _ hw => (x_move rfl)) rfl ?_
     refine EQ.val (fun _ hw => (ix_60 (by show some (Value.slice T1 _ _) = _; rw [eby]) rfl hlt9)) rfl ?_
     refine EQ.val (fun _ hw => (ld_24 rfl (below_load hw y0) (below_load hw y1))) rfl ?_
     refine EQ.val (fun _ hw => (neq_24 (r := false) rfl rfl (by simp))) rfl ?_
     refine EQ.fin (fun w22 hw_ => ?_)
     replace q1 := q1.below hw_ q1.lt;replace q20 := q20.below hw_ q20.lt;replace hres := own_below hres hw_ (Nat.le_refl _);replace ho1 := own_below ho1 hw_ (Nat.le_refl _);replace ho2 := own_below ho2 hw_ (Nat.le_refl _);replace hbw := Below.on hbw hw_ hbw.size;replace hb9 := Below.on hb9 hw_ hb9.size;clear hw_;refine EX.seq ?_;refine EC.no rfl ?_;refine EC.skip ?_;refine EX.blk ?_;refine EX.seq ?_;refine EC.region ?_;refine EL.val (x_move rfl) rfl ?_;refine EL.val (x_add rfl rfl (c := ((j + 1 : Nat) : Int)) ((IntWalk.i64_in _ ⟨by have := hwe.n; omega, by have := hwe.n; omega⟩).trans (by omega))) rfl ?_
     refine EL.val (x_assign rfl) rfl ?_;refine EL.nil ?_;refine EX.roundD (j + 1) ⟨rfl, trivial⟩ (by repeat first | with_reducible exact Sub.refl _ | refine sub_past rfl ?_ | exact Sub.refl _ | refine sub_del rfl ?_ | refine sub_insL_nil ?_) ⟨hlt9, hb9⟩ (by omega)
    ·
     have hxe9 : j = ru.levels.length := by omega
     refine EC.seq ?_;refine EC.seq ?_;refine EC.region ?_;refine EL.val (x_move rfl) rfl ?_;refine EL.val (x_move rfl) rfl ?_;refine EL.val (ln_60 rfl) rfl ?_;refine EL.val (x_lss (r := false) rfl rfl (decide_eq_false (by rw [hre, hrl]; omega))) rfl ?_
     refine EL.nil ?_;refine EX.seq ?_;refine EC.no rfl ?_;refine EC.exit ?_;refine EX.seq_exit ?_;refine EX.seq_exit ?_;refine EX.blk_here ?_;refine EX.seq ?_;refine EC.seq ?_;refine EC.seq ?_;refine EC.region ?_;have hro8 := hro.n8;rw [inB_not] at hin;refine EL.val (x_move rfl) rfl ?_
     by_cases hneg : cg < 0
     ·
      refine EL.val (x_lss (r := true) rfl rfl (decide_eq_true hneg)) rfl ?_;refine EL.val (x_move rfl) rfl ?_;refine EL.skip rfl rfl rfl rfl ?_;refine EL.skip rfl rfl rfl rfl ?_;refine EL.skip rfl rfl rfl rfl ?_;refine EL.skip rfl rfl rfl rfl ?_;refine EL.skip rfl rfl rfl rfl ?_;refine EL.val (x_pick_t rfl rfl) rfl ?_;refine EL.nil ?_;refine EX.seq ?_;refine EC.yes rfl ?_;refine EC.seq ?_;refine EC.region ?_;refine EL.val (x_move rfl) rfl ?_;refine EL.val (x_eql (r := true) rfl rfl (by decide)) rfl ?_
      refine EL.val (x_move rfl) rfl ?_;refine EL.valg rfl rfl (x_move rfl) rfl ?_;refine EL.valg rfl rfl (x_not rfl) rfl ?_;refine EL.val (x_pick_t rfl rfl) rfl ?_;refine EL.val (x_move rfl) rfl ?_;refine EL.valg rfl rfl (x_move rfl) rfl ?_;refine EL.valg rfl rfl (x_not rfl) rfl ?_;refine EL.val (x_pick_t rfl rfl) rfl ?_;refine EL.val (x_move rfl) rfl ?_;refine EL.callg rfl rfl cl_12 rfl (known_any _) ?_
      rintro e w23 ⟨rfl, hc23⟩
      refine ⟨_, rfl, ?_⟩;replace q1 := q1.below hc23 q1.lt;replace q20 := q20.below hc23 q20.lt;replace hres := own_below hres hc23 (Nat.le_refl _);replace ho1 := own_below ho1 hc23 (Nat.le_refl _);replace ho2 := own_below ho2 hc23 (Nat.le_refl _);replace hbw := Below.on hbw hc23 hbw.size;clear hc23;refine EL.val (x_pick_t rfl rfl) rfl ?_;refine EL.val (x_assign rfl) rfl ?_;refine EL.nil ?_;refine EX.seq ?_;refine EC.ret ?_;refine EX.seq_ret ?_
      exact EX.done (res1 rfl rfl) ⟨rfl, hbw⟩
     ·
      refine EL.val (x_lss (r := false) rfl rfl (decide_eq_false hneg)) rfl ?_;refine EL.val (x_move rfl) rfl ?_;refine EL.valg rfl rfl (x_move rfl) rfl ?_;refine EL.valg rfl rfl (fa_28_0 rfl) rfl ?_;refine EL.valg rfl rfl (ld_22 rfl (q1.at (j := 0) rfl)) rfl ?_;refine EL.valg rfl rfl (ln_22 rfl) rfl ?_;refine EL.valg rfl rfl (x_geq (r := true) rfl rfl (decide_eq_true (by omega))) rfl ?_
      refine EL.val (x_pick_f rfl rfl) rfl ?_;refine EL.nil ?_;refine EX.seq ?_;refine EC.yes rfl ?_;refine EC.seq ?_;refine EC.region ?_;refine EL.val (x_move rfl) rfl ?_;refine EL.val (x_eql (r := true) rfl rfl (by decide)) rfl ?_
      refine EL.val (x_move rfl) rfl ?_;refine EL.valg rfl rfl (x_move rfl) rfl ?_;refine EL.valg rfl rfl (x_not rfl) rfl ?_;refine EL.val (x_pick_t rfl rfl) rfl ?_;refine EL.val (x_move rfl) rfl ?_;refine EL.valg rfl rfl (x_move rfl) rfl ?_;refine EL.valg rfl rfl (x_not rfl) rfl ?_;refine EL.val (x_pick_t rfl rfl) rfl ?_;refine EL.val (x_move rfl) rfl ?_;refine EL.callg rfl rfl cl_12 rfl (known_any _) ?_
      rintro e w24 ⟨rfl, hc24⟩
      refine ⟨_, rfl, ?_⟩;replace q1 := q1.below hc24 q1.lt;replace q20 := q20.below hc24 q20.lt;replace hres := own_below hres hc24 (Nat.le_refl _);replace ho1 := own_below ho1 hc24 (Nat.le_refl _);replace ho2 := own_below ho2 hc24 (Nat.le_refl _);replace hbw := Below.on hbw hc24 hbw.size;clear hc24;refine EL.val (x_pick_t rfl rfl) rfl ?_;refine EL.val (x_assign rfl) rfl ?_;refine EL.nil ?_;refine EX.seq ?_;refine EC.ret ?_;refine EX.seq_ret ?_
      exact EX.done (res1 rfl rfl) ⟨rfl, hbw⟩
   ·
    rw [mayE, if_pos hz, if_pos hin] at hm_;obtain ⟨rfl, rfl, rfl⟩ := tup3 hm_;refine EL.val (x_eql (r := true) rfl rfl (by rw [hrb]; decide)) rfl ?_
    refine EL.val (ld_28 rfl (q1.at (j := 0) rfl) (q1.at (j := 1) rfl) (q1.at (j := 2) rfl) (q1.at (j := 3) rfl) (q1.at (j := 4) rfl) (q1.at (j := 5) rfl)) rfl ?_;refine EL.call (cl_35 rfl) rfl (Rules_to (hr.below (hbw.mono hB)) (Nat.le_trans hB hbw.size) hs hrb) ?_
    rintro e w25 ⟨rfl, hc25⟩
    refine ⟨_, rfl, ?_⟩;replace q1 := q1.below hc25 q1.lt;replace q4 := q4.below hc25 q4.lt;replace hx := own_below hx hc25 (Nat.le_refl _);replace hres := own_below hres hc25 (Nat.le_refl _);replace hbw := Below.on hbw hc25 hbw.size;replace hbo := Below.on hbo hc25 hbo.size;clear hc25;refine EL.val (x_neqB (r := false) rfl rfl (by decide)) rfl ?_
    refine EL.val (x_move rfl) rfl ?_;refine EL.valg rfl rfl (x_move rfl) rfl ?_;refine EL.valg rfl rfl (x_neq (r := false) rfl rfl (by rw [hrb]; decide)) rfl ?_
    refine EL.valg rfl rfl (x_move rfl) rfl ?_;refine EL.skip rfl rfl rfl rfl ?_;refine EL.skip rfl rfl rfl rfl ?_;refine EL.valg rfl rfl (x_pick_f rfl rfl) rfl ?_;refine EL.val (x_pick_f rfl rfl) rfl ?_;refine EL.nil ?_;refine EX.seq ?_;refine EC.no rfl ?_;refine EC.skip ?_;refine EX.seq ?_;refine EC.seq ?_;refine EC.seq ?_;refine EC.region ?_;refine EL.val (ld_28 rfl (q1.at (j := 0) rfl) (q1.at (j := 1) rfl) (q1.at (j := 2) rfl) (q1.at (j := 3) rfl) (q1.at (j := 4) rfl) (q1.at (j := 5) rfl)) rfl ?_;refine EL.val (x_move rfl) rfl ?_;refine EL.call (cl_18 rfl rfl) rfl (refused_any (hr.below (hbw.mono hB)) (Nat.le_trans hB hbw.size) hs (hl.below (hbw.mono hB)) (by omega)) ?_
    rintro e w26 ⟨rfl, hc26⟩
    refine ⟨_, rfl, ?_⟩;replace q1 := q1.below hc26 q1.lt;replace q4 := q4.below hc26 q4.lt;replace hx := own_below hx hc26 (Nat.le_refl _);replace hres := own_below hres hc26 (Nat.le_refl _);replace hbw := Below.on hbw hc26 hbw.size;replace hbo := Below.on hbo hc26 hbo.size;clear hc26;refine EL.val (x_assign rfl) rfl ?_;refine EL.nil ?_;refine EX.seq ?_;refine EC.seq ?_;refine EC.region ?_;refine EL.val (x_move rfl) rfl ?_;refine EL.val (x_neq (r := false) rfl rfl (decide_eq_false (fun h => h hz))) rfl ?_
    refine EL.nil ?_;refine EX.seq ?_;refine EC.no rfl ?_;refine EC.skip ?_;refine EX.seq ?_;refine EC.seq ?_;refine EC.region ?_;refine EL.val (ld_28 rfl (q1.at (j := 0) rfl) (q1.at (j := 1) rfl) (q1.at (j := 2) rfl) (q1.at (j := 3) rfl) (q1.at (j := 4) rfl) (q1.at (j := 5) rfl)) rfl ?_;refine EL.val (x_move rfl) rfl ?_;obtain ⟨hro, hv, hn100⟩ := ref_ok hz;have hre : resE ru l = resK (afterT ru l) ru.levels.length := by rw [resE, if_pos hz]
    rw [hre] at hres;have hrl : (resK (afterT ru l) ru.levels.length).length = ru.levels.length := by simp [resK]
    have hsim := sim_after hro hv;refine EL.call (cl_27 rfl rfl) rfl (After_any (hr.below (hbw.mono hB)) (Nat.le_trans hB hbw.size) hro (hl.below (hbw.mono hB)) hv (by omega)) ?_
    rintro e w27 ⟨⟨T1, cT1, T2, cT2, rfl, ho1, ho2, hrt⟩, hc27⟩
    refine ⟨_, rfl, ?_⟩;replace ho1 := own_less ho1 hbw.size;replace ho2 := own_less ho2 hbw.size;replace q1 := q1.below hc27 q1.lt;replace q4 := q4.below hc27 q4.lt;replace hx := own_below hx hc27 (Nat.le_refl _);replace hres := own_below hres hc27 (Nat.le_refl _);replace hbw := Below.on hbw hc27 hbw.size;replace hbo := Below.on hbo hc27 hbo.size;clear hc27;refine EL.newP al_62 rfl ?_;intro g28 w28 q28 hb28 hg28 hl28;have n1_28 : g1 ≠ g28 := Nat.ne_of_lt (Nat.lt_of_lt_of_le q1.lt hg28);have n4_28 : g4 ≠ g28 := Nat.ne_of_lt (Nat.lt_of_lt_of_le q4.lt hg28);have bhbw_28 := Nat.le_trans hbw.size hg28;have bhbo_28 := Nat.le_trans hbo.size hg28;replace q1 := q1.below hb28 q1.lt;replace q4 := q4.below hb28 q4.lt;replace hx := own_below hx hb28 (Nat.le_refl _);replace hres := own_below hres hb28 (Nat.le_refl _);replace ho1 := own_below ho1 hb28 (Nat.le_refl _);replace ho2 := own_below ho2 hb28 (Nat.le_refl _);replace hbw := Below.on hbw hb28 hbw.size;replace hbo := Below.on hbo hb28 hbo.size;clear hb28 hg28 hl28;refine EL.store rfl rfl q28 sz_62 rfl rfl rfl rfl ?_;intro w29 hq29 hg29;replace q1 := q1.grown hg29 (fun h => n1_28 (Option.some.inj h))
    replace q4 := q4.grown hg29 (fun h => n4_28 (Option.some.inj h))
    replace hx := own_type hx q28 rfl hg29;replace hres := own_type hres q28 rfl hg29;replace ho1 := own_type ho1 q28 rfl hg29;replace ho2 := own_type ho2 q28 rfl hg29;replace hbw := below_store hbw hg29 bhbw_28;replace hbo := below_store hbo hg29 bhbo_28;replace q28 := hq29;clear hg29 hq29;refine EL.nil ?_;refine EX.seq ?_;refine EC.seq ?_;refine EC.seq ?_;refine EC.region ?_;refine EL.val (x_move rfl) rfl ?_;refine EL.val (x_neq (r := false) rfl rfl (decide_eq_false (fun h => h hz))) rfl ?_
    refine EL.val (x_move rfl) rfl ?_;refine EL.valg rfl rfl (x_move rfl) rfl ?_;refine EL.valg rfl rfl (ln_60 rfl) rfl ?_;refine EL.valg rfl rfl (fa_62_0 rfl) rfl ?_;refine EL.valg rfl rfl (ld_60 rfl (q28.at (j := 0) rfl)) rfl ?_;refine EL.valg rfl rfl (ln_60 rfl) rfl ?_;refine EL.valg rfl rfl (x_neq (r := false) rfl rfl (decide_eq_false (by rw [hre, hrl]; exact fun h => h rfl))) rfl ?_
    refine EL.val (x_pick_f rfl rfl) rfl ?_;refine EL.nil ?_;refine EX.seq ?_;refine EC.no rfl ?_;refine EC.skip ?_;refine EX.seq ?_;refine EC.seq ?_;refine EC.seq ?_;refine EC.region ?_;refine EL.val (x_assign rfl) rfl ?_;refine EL.nil ?_;refine EX.seq ?_;refine EC.block ?_;have hcl9 := Below.refl w29.heap.size w29;refine EC.loopD [6, 18, 121, 122, 123, 124, 125, 126, 127, 128, 129, 130, 131, 132, 133, 134, 135, 136] (fun x : Nat => [(18, .int .i64 (x : Nat))]) (fun x W => x ≤ ru.levels.length ∧ Below w29.heap.size w29 W) (fun x => ru.levels.length - x) 0 ⟨Nat.zero_le _, hcl9⟩ ⟨rfl, trivial⟩ ?_
    clear hcl9
    rintro j wy ⟨hj, hb9⟩
    replace q1 := q1.below hb9 q1.lt;replace q28 := q28.below hb9 q28.lt;replace hres := own_below hres hb9 (Nat.le_refl _);replace ho1 := own_below ho1 hb9 (Nat.le_refl _);replace ho2 := own_below ho2 hb9 (Nat.le_refl _);replace hbw := hbw.trans (hb9.mono hbw.size)
    by_cases hlt9 : j < ru.levels.length
    ·
     obtain ⟨bx, ox, ebx, _, x0, x1⟩ := bds_cells _ j (by rw [hrl]; exact hlt9) wy wy.heap.size _ _ _ (Rd.of_own hres)
     obtain ⟨by_, oy, eby, _, y0, y1⟩ := bds_cells _ j (by rw [hrt.rl]; exact hlt9) wy wy.heap.size _ _ _ (Rd.of_own ho1)
     rw [hsim.lo j hlt9] at y0;rw [hsim.hi j hlt9] at y1;have hk9 : (resK (afterT ru l) ru.levels.length).getD j bd0 = ⟨((afterT ru l).getD j tr0).lo, ((afterT ru l).getD j tr0).hi⟩ := by unfold resK; rw [rm_getD, if_pos hlt9]
     rw [hk9] at x0 x1;refine EC.seq ?_;refine EC.seq ?_;refine EC.region ?_;refine EL.val (x_move rfl) rfl ?_;refine EL.val (x_move rfl) rfl ?_;refine EL.val (ln_60 rfl) rfl ?_;refine EL.val (x_lss (r := true) rfl rfl (decide_eq_true (by rw [hre, hrl]; omega))) rfl ?_
     refine EL.nil ?_;refine EX.seq ?_;refine EC.yes rfl ?_;refine EC.skip ?_;refine EX.seq ?_;refine EC.seq ?_;refine EC.block ?_;refine EC.seq ?_;refine EC.regionQ (by kernel_rfl) (by kernel_rfl) ?_
     refine EQ.val (fun _ hw => (x_move rfl)) rfl ?_
     refine EQ.val (fun _ hw => (x_move rfl)) rfl ?_
     refine EQ.val (fun _ hw => (ix_60 (by show some (Value.slice Ab _ _) = _; rw [ebx]) rfl (by rw [hre, hrl]; exact hlt9))) rfl ?_
     refine EQ.val (fun _ hw => (ld_24 rfl (below_load hw x0) (below_load hw x1))) rfl ?_
     refine EQ.val (fun _ hw => (fa_62_0 rfl)) rfl ?_
     refine EQ.val (fun _ hw => (ld_60 rfl (below_load hw (q28.at (j := 0) rfl)))) rfl ?_
     refine EQ.val (fun _ hw => (x_move rfl)) rfl ?_
     refine EQ.val (fun _ hw => (ix_60 (by show some (Value.slice T1 _ _) = _; rw [eby]) rfl hlt9)) rfl ?_
     refine EQ.val (fun _ hw => (ld_24 rfl (below_load hw y0) (below_load hw y1))) rfl ?_
     refine EQ.val (fun _ hw => (neq_24 (r := false) rfl rfl (by simp))) rfl ?_
     refine EQ.fin (fun w30 hw_ => ?_)
     replace q1 := q1.below hw_ q1.lt;replace q28 := q28.below hw_ q28.lt;replace hres := own_below hres hw_ (Nat.le_refl _);replace ho1 := own_below ho1 hw_ (Nat.le_refl _);replace ho2 := own_below ho2 hw_ (Nat.le_refl _);replace hbw := Below.on hbw hw_ hbw.size;replace hb9 := Below.on hb9 hw_ hb9.size;clear hw_;refine EX.seq ?_;refine EC.no rfl ?_;refine EC.skip ?_;refine EX.blk ?_;refine EX.seq ?_;refine EC.region ?_;refine EL.val (x_move rfl) rfl ?_;refine EL.val (x_add rfl rfl (c := ((j + 1 : Nat) : Int)) ((IntWalk.i64_in _ ⟨by have := hwe.n; omega, by have := hwe.n; omega⟩).trans (by omega))) rfl ?_
     refine EL.val (x_assign rfl) rfl ?_;refine EL.nil ?_;refine EX.roundD (j + 1) ⟨rfl, trivial⟩ (by repeat first | with_reducible exact Sub.refl _ | refine sub_past rfl ?_ | exact Sub.refl _ | refine sub_del rfl ?_ | refine sub_insL_nil ?_) ⟨hlt9, hb9⟩ (by omega)
    ·
     have hxe9 : j = ru.levels.length := by omega
     refine EC.seq ?_;refine EC.seq ?_;refine EC.region ?_;refine EL.val (x_move rfl) rfl ?_;refine EL.val (x_move rfl) rfl ?_;refine EL.val (ln_60 rfl) rfl ?_;refine EL.val (x_lss (r := false) rfl rfl (decide_eq_false (by rw [hre, hrl]; omega))) rfl ?_
     refine EL.nil ?_;refine EX.seq ?_;refine EC.no rfl ?_;refine EC.exit ?_;refine EX.seq_exit ?_;refine EX.seq_exit ?_;refine EX.blk_here ?_;refine EX.seq ?_;refine EC.seq ?_;refine EC.seq ?_;refine EC.region ?_;have hro8 := hro.n8;rw [inB_iff] at hin;refine EL.val (x_move rfl) rfl ?_;refine EL.val (x_lss (r := false) rfl rfl (decide_eq_false (by omega))) rfl ?_
     refine EL.val (x_move rfl) rfl ?_;refine EL.valg rfl rfl (x_move rfl) rfl ?_;refine EL.valg rfl rfl (fa_28_0 rfl) rfl ?_;refine EL.valg rfl rfl (ld_22 rfl (q1.at (j := 0) rfl)) rfl ?_;refine EL.valg rfl rfl (ln_22 rfl) rfl ?_;refine EL.valg rfl rfl (x_geq (r := false) rfl rfl (decide_eq_false (by omega))) rfl ?_
     refine EL.val (x_pick_f rfl rfl) rfl ?_;refine EL.nil ?_;refine EX.seq ?_;refine EC.no rfl ?_;refine EC.skip ?_;refine EX.seq ?_;refine EC.seq ?_;refine EC.region ?_;refine EL.val (ld_28 rfl (q1.at (j := 0) rfl) (q1.at (j := 1) rfl) (q1.at (j := 2) rfl) (q1.at (j := 3) rfl) (q1.at (j := 4) rfl) (q1.at (j := 5) rfl)) rfl ?_;refine EL.val (ld_62 rfl (q28.at (j := 0) rfl) (q28.at (j := 1) rfl)) rfl ?_;refine EL.val (x_move rfl) rfl ?_;obtain ⟨cn, ecn⟩ : ∃ cn : Nat, cg = ((cn : Nat) : Int) := ⟨cg.toNat, by omega⟩
     subst ecn;have hcall := rMay_any (hr.below (hbw.mono hB)) (Nat.le_trans hB hbw.size) hro hrt (Rd.of_own ho1) (Rd.of_own ho2) (Nat.le_refl _) (c := cn) (by omega)
     rw [mayR_sim hro hsim ru.levels.length (Nat.le_refl _)] at hcall;refine EL.call (cl_36 rfl rfl rfl) rfl (hcall) ?_
     rintro e w31 ⟨rfl, hc31⟩
     refine ⟨_, rfl, ?_⟩;replace q1 := q1.below hc31 q1.lt;replace q28 := q28.below hc31 q28.lt;replace hres := own_below hres hc31 (Nat.le_refl _);replace ho1 := own_below ho1 hc31 (Nat.le_refl _);replace ho2 := own_below ho2 hc31 (Nat.le_refl _);replace hbw := Below.on hbw hc31 hbw.size;clear hc31;clear hcall;refine EL.val (x_move rfl) rfl ?_;refine EL.val (x_extract rfl rfl) rfl ?_;refine EL.val (x_extract rfl rfl) rfl ?_;refine EL.val (x_assign rfl) rfl ?_;refine EL.val (x_assign rfl) rfl ?_;refine EL.nil ?_;refine EX.seq ?_;refine EC.seq ?_;refine EC.region ?_;refine EL.val (x_move rfl) rfl ?_;refine EL.val (x_eql (r := true) rfl rfl (by decide)) rfl ?_
     refine EL.val (x_move rfl) rfl ?_;refine EL.valg rfl rfl (x_move rfl) rfl ?_;refine EL.valg rfl rfl (x_move rfl) rfl ?_;refine EL.valg rfl rfl (x_eqlB (r := true) rfl rfl (decide_eq_true (by rw [Int.toNat_natCast]))) rfl ?_
     refine EL.val (x_pick_t rfl rfl) rfl ?_;refine EL.val (x_move rfl) rfl ?_;refine EL.valg rfl rfl (x_move rfl) rfl ?_;refine EL.valg rfl rfl (x_move rfl) rfl ?_;refine EL.valg rfl rfl (x_eqlB (r := true) rfl rfl (decide_eq_true (by rw [Int.toNat_natCast]))) rfl ?_
     refine EL.val (x_pick_t rfl rfl) rfl ?_;refine EL.val (x_move rfl) rfl ?_;refine EL.callg rfl rfl cl_12 rfl (known_any _) ?_
     rintro e w32 ⟨rfl, hc32⟩
     refine ⟨_, rfl, ?_⟩;replace q1 := q1.below hc32 q1.lt;replace q28 := q28.below hc32 q28.lt;replace hres := own_below hres hc32 (Nat.le_refl _);replace ho1 := own_below ho1 hc32 (Nat.le_refl _);replace ho2 := own_below ho2 hc32 (Nat.le_refl _);replace hbw := Below.on hbw hc32 hbw.size;clear hc32;refine EL.val (x_pick_t rfl rfl) rfl ?_;refine EL.val (x_assign rfl) rfl ?_;refine EL.nil ?_;refine EX.seq ?_;refine EC.ret ?_
     exact EX.done (res1 rfl rfl) ⟨rfl, hbw⟩
 ·
  refine ⟨_, rfl, ?_⟩;replace q1 := q1.below hcB q1.lt;replace hbw := Below.on hbw hcB hbw.size;clear hcB;refine EL.nil ?_;refine EX.seq ?_;refine EC.yes rfl ?_;refine EC.seq ?_;refine EC.region ?_;refine EL.call cl_12 rfl (known_any _) ?_
  rintro e w33 ⟨rfl, hc33⟩
  refine ⟨_, rfl, ?_⟩;replace q1 := q1.below hc33 q1.lt;replace hbw := Below.on hbw hc33 hbw.size;clear hc33;refine EL.val (x_assign rfl) rfl ?_;refine EL.nil ?_;refine EX.seq ?_;refine EC.ret ?_;refine EX.seq_ret ?_
  exact EX.done (res1 rfl rfl) ⟨rfl, hbw⟩
end Go.Proofs.Ytdkedhcbdbpccaa
namespace Go.Proofs.Ytdkedhcbdbpccaa
open Go Go.ChangeShapes Go.WideShapes Go.Deep Go.RowKit Go.Joins
theorem cell_spot {w : World} {x : Addr} {u : Value} (h : w.cell? x = some u) : x.spot = none ∧ x.block < w.heap.size := by
 unfold World.cell? at h
 split at h
 ·rename_i c e f hg
  split at h
  ·cases h
  ·rename_i hs
   refine ⟨by simpa using hs, ?_⟩
   rcases Nat.lt_or_ge x.block w.heap.size with hlt | hge
   ·exact hlt
   ·rw [Array.getElem?_eq_none hge] at hg; cases hg
 ·cases h
section
variable {H : Type} {enc : TypeId × Value → H} {P : Program} {w : World} {base : Nat} {spare : Nat → Bool} {held : Bool}
/-- rows of cells, one behind the other -/
theorem rd_of_cells {b off n c s : Nat} {B : Nat} (row : Nat → List Value) (hlen : ∀ i, (row i).length = s) (hs : 0 < s) (hB : b < B) (hnc : n ≤ c)
  (hcell : ∀ i, i < n → ∀ j u, (row i)[j]? = some u → w.cell? ⟨b, off + (i * s + j), none⟩ = some u) :
  Rd w B s (.slice (some ⟨b, off, none⟩) n c) n ((List.range n).flatMap row) := by
 refine ⟨by rw [flat_len hlen, List.length_range], _, _, rfl, hnc, fun _ => ⟨b, off, rfl, hB, fun q u hu => ?_⟩⟩
 have hq : q < n * s := by
  have := (List.getElem?_eq_some_iff.1 hu).1
  rwa [flat_len hlen, List.length_range] at this
 have hk : q / s < n := by
  rw [Nat.div_lt_iff_lt_mul hs]
  exact hq
 have e : q = q / s * s + q % s := by rw [Nat.mul_comm]; exact (Nat.div_add_mod q s).symm
 have hg := flat_get hlen (List.range n) (q / s) (by simpa using hk) (q % s) (Nat.mod_lt _ hs)
 rw [← e, List.getElem_range] at hg;rw [hg] at hu;have := hcell (q / s) hk (q % s) u hu
 rwa [← e] at this
theorem add_lit_more (x : Addr) (n : Nat) (h : x.spot = none) : x.add n = ⟨x.block, x.off + n, none⟩ := by
 obtain ⟨b, o, s⟩ := x;subst h;rw [Addr.add_lit]
/-- a slice, opened to its elements -/
theorem rd_list {α : Type} [Inhabited α] {f : α → List Value} {s : Nat} {Good : α → Prop} (hf : ∀ x, (f x).length = s) (hs : 0 < s) {t e : TypeId} {fuel : Nat} {v : Value} {x : DataW H × List MemPlace} (ht : P.underlying t = some (.slice e)) (hC : P.cellsOf e = s)
  (hE : ∀ (fuel : Nat) (cs : List Value) (x : DataW H × List MemPlace), cs.length = s → DataW.trod enc P w base spare held fuel e cs = some x → ∃ y : α, cs = f y ∧ Good y) (h : DataW.trod enc P w base spare held fuel t [v] = some x) :
  ∃ l : List α, Rd w w.heap.size s v l.length (l.flatMap f) ∧ (∀ y ∈ l, Good y) ∧ l.length ≤ maxLen := by
 rcases open_slice ht h with ⟨hcs, _⟩ | ⟨a, len, cap, m, n, D, Pl, hcs, _, hl, hcap, hm, _, hi⟩
 ·injection hcs with hcs
  subst hcs
  exact ⟨[], Rd.nil_ _ _ _, by simp, Nat.zero_le _⟩
 ·injection hcs with hcs
  subst hcs;have hcell : ∀ i, i < len → ∃ y : α, (∀ j u, (f y)[j]? = some u → w.cell? (a.add (i * s + j)) = some u) ∧ Good y := by
   intro i hi';obtain ⟨cs', hc, ht'⟩ := hi i (by rw [hm]; split <;> omega)
   rw [hC] at hc;obtain ⟨_, hcl, hat⟩ := World.cells?_some hc;obtain ⟨y, hy, hg⟩ := hE _ cs' _ hcl ht';subst hy;refine ⟨y, fun j u hu => ?_, hg⟩
   have hj : j < s := by
    have := (List.getElem?_eq_some_iff.1 hu).1
    rwa [hf] at this
   have h1 := hat j hj;rw [Go.Deep.add_add] at h1;rw [h1, hu]
  let pick : Nat → α := fun i => if h : i < len then Classical.choose (hcell i h) else default
  have hpick : ∀ i, (h : i < len) → (∀ j u, (f (pick i))[j]? = some u → w.cell? (a.add (i * s + j)) = some u) ∧ Good (pick i) := fun i h => by
   have := Classical.choose_spec (hcell i h)
   simp only [pick, dif_pos h]
   exact this
  refine ⟨(List.range len).map pick, ?_, ?_, by simp; omega⟩
  ·rw [List.length_map, List.length_range]
   rcases Nat.eq_zero_or_pos len with hz | hz
   ·subst hz
    exact ⟨by simp, _, _, rfl, hl, fun h => absurd h (by omega)⟩
   ·have h0 := (hpick 0 hz).1 0 _ (List.getElem?_eq_getElem (by rw [hf]; exact hs))
    obtain ⟨hsp, hb⟩ := cell_spot h0;have e0 : a.add (0 * s + 0) = a := by simp [Addr.add]
    rw [e0] at hsp hb;have hx : a = ⟨a.block, a.off, none⟩ := by obtain ⟨b, o, s⟩ := a; subst hsp; rfl
    rw [hx, List.flatMap_map];refine rd_of_cells _ (fun i => hf _) hs hb hl fun i hi' j u hu => ?_
    have h1 := (hpick i hi').1 j u hu;rw [add_lit_more a _ hsp] at h1
    exact h1
  ·intro y hy
   obtain ⟨i, hi', rfl⟩ := List.mem_map.1 hy
   exact (hpick i (by simpa using hi')).2
theorem fld_of {fs : Array Field} {n : Nat} {cs : List Value} {ys : List (DataW H × List MemPlace)} (hf : ∀ (i : Nat) (f : Field), fs[i]? = some f → DataW.trod enc P w base spare held n f.type ((cs.drop f.offset).take (P.cellsOf f.type)) = ys[i]?)
  {j ft off z : Nat} {f : Field} (hj : fs[j]? = some f) (h1 : f.type = ft) (h2 : f.offset = off) (h3 : P.cellsOf ft = z) : DataW.trod enc P w base spare held n ft ((cs.drop off).take z) = ys[j]? := by
 subst h1 h2 h3
 exact hf j f hj
end
section
variable {H : Type} {enc : TypeId × Value → H} {w : World} {base : Nat} {spare : Nat → Bool} {held : Bool}
theorem co_3 : Try.prog.cellsOf 3 = 1 := by kernel_rfl
set_option maxRecDepth 100000 in
theorem cells_24 {fuel : Nat} {cs : List Value} {x : DataW H × List MemPlace} (hl : cs.length = 2) (h : DataW.trod enc Try.prog w base spare held fuel 24 cs = some x) : ∃ (z0 : Int) (z1 : Int), cs = [.int .i64 z0, .int .i64 z1] := by
 obtain ⟨ys, n, _, _, _, hyl, hf⟩ := DataW.trod_struct Try.underlying24 h
 match cs, hl with
 | [u0, u1], _ =>
  match ys, hyl with
  | [y0, y1], _ =>
   have q0 : DataW.trod enc Try.prog w base spare held n 3 [u0] = some y0 := fld_of hf (j := 0) rfl rfl rfl co_3;obtain ⟨z0, hz0, _, _⟩ := DataW.trod_int Try.underlying3 q0
   injection hz0 with hz0
   subst hz0;have q1 : DataW.trod enc Try.prog w base spare held n 3 [u1] = some y1 := fld_of hf (j := 1) rfl rfl rfl co_3;obtain ⟨z1, hz1, _, _⟩ := DataW.trod_int Try.underlying3 q1
   injection hz1 with hz1
   subst hz1
   exact ⟨z0, z1, rfl⟩
theorem co_24 : Try.prog.cellsOf 24 = 2 := by kernel_rfl
set_option maxRecDepth 100000 in
theorem cells_52 {fuel : Nat} {cs : List Value} {x : DataW H × List MemPlace} (hl : cs.length = 5) (h : DataW.trod enc Try.prog w base spare held fuel 52 cs = some x) : ∃ (z0 : Int) (z1 : Int) (z2 : Int) (z3 : Int) (z4 : Int), cs = [.int .i64 z0, .int .i64 z1, .int .i64 z2, .int .i64 z3, .int .i64 z4] := by
 obtain ⟨ys, n, _, _, _, hyl, hf⟩ := DataW.trod_struct Try.underlying52 h
 match cs, hl with
 | [u0, u1, u2, u3, u4], _ =>
  match ys, hyl with
  | [y0, y1, y2, y3], _ =>
   have q0 : DataW.trod enc Try.prog w base spare held n 24 [u0, u1] = some y0 := fld_of hf (j := 0) rfl rfl rfl co_24;obtain ⟨a0, a1, e0⟩ := cells_24 rfl q0
   simp only [List.cons.injEq, and_true] at e0
   obtain ⟨rfl, rfl⟩ := e0;have q1 : DataW.trod enc Try.prog w base spare held n 3 [u2] = some y1 := fld_of hf (j := 1) rfl rfl rfl co_3;obtain ⟨z2, hz2, _, _⟩ := DataW.trod_int Try.underlying3 q1
   injection hz2 with hz2
   subst hz2;have q2 : DataW.trod enc Try.prog w base spare held n 3 [u3] = some y2 := fld_of hf (j := 2) rfl rfl rfl co_3;obtain ⟨z3, hz3, _, _⟩ := DataW.trod_int Try.underlying3 q2
   injection hz3 with hz3
   subst hz3;have q3 : DataW.trod enc Try.prog w base spare held n 3 [u4] = some y3 := fld_of hf (j := 3) rfl rfl rfl co_3;obtain ⟨z4, hz4, _, _⟩ := DataW.trod_int Try.underlying3 q3
   injection hz4 with hz4
   subst hz4
   exact ⟨a0, a1, z2, z3, z4, rfl⟩
theorem co_52 : Try.prog.cellsOf 52 = 5 := by kernel_rfl
theorem co_48 : Try.prog.cellsOf 48 = 1 := by kernel_rfl
set_option maxRecDepth 100000 in
theorem cells_50 {fuel : Nat} {cs : List Value} {x : DataW H × List MemPlace} (hl : cs.length = 2) (h : DataW.trod enc Try.prog w base spare held fuel 50 cs = some x) : ∃ (z0 : Int) (z1 : Int), cs = [.int .i64 z0, .int .i64 z1] := by
 obtain ⟨ys, n, _, _, _, hyl, hf⟩ := DataW.trod_struct Try.underlying50 h
 match cs, hl with
 | [u0, u1], _ =>
  match ys, hyl with
  | [y0, y1], _ =>
   have q0 : DataW.trod enc Try.prog w base spare held n 48 [u0] = some y0 := fld_of hf (j := 0) rfl rfl rfl co_48;obtain ⟨z0, hz0, _, _⟩ := DataW.trod_int Try.underlying48 q0
   injection hz0 with hz0
   subst hz0;have q1 : DataW.trod enc Try.prog w base spare held n 3 [u1] = some y1 := fld_of hf (j := 1) rfl rfl rfl co_3;obtain ⟨z1, hz1, _, _⟩ := DataW.trod_int Try.underlying3 q1
   injection hz1 with hz1
   subst hz1
   exact ⟨z0, z1, rfl⟩
theorem co_50 : Try.prog.cellsOf 50 = 2 := by kernel_rfl
theorem co_22 : Try.prog.cellsOf 22 = 1 := by kernel_rfl
theorem co_25 : Try.prog.cellsOf 25 = 1 := by kernel_rfl
theorem co_26 : Try.prog.cellsOf 26 = 1 := by kernel_rfl
set_option maxRecDepth 100000 in
theorem cells_28 {fuel : Nat} {cs : List Value} {x : DataW H × List MemPlace} (hl : cs.length = 6) (h : DataW.trod enc Try.prog w base spare held fuel 28 cs = some x) : ∃ (v0 : Value) (z1 : Int) (z2 : Int) (v3 : Value) (v4 : Value) (v5 : Value), cs = [v0, .int .i64 z1, .int .i64 z2, v3, v4, v5] ∧ (∃ n x, DataW.trod enc Try.prog w base spare held n 22 [v0] = some x) ∧ (∃ n x, DataW.trod enc Try.prog w base spare held n 25 [v3] = some x) ∧ (∃ n x, DataW.trod enc Try.prog w base spare held n 25 [v4] = some x) ∧ (∃ n x, DataW.trod enc Try.prog w base spare held n 26 [v5] = some x) := by
 obtain ⟨ys, n, _, _, _, hyl, hf⟩ := DataW.trod_struct Try.underlying28 h
 match cs, hl with
 | [u0, u1, u2, u3, u4, u5], _ =>
  match ys, hyl with
  | [y0, y1, y2, y3, y4], _ =>
   have q0 : DataW.trod enc Try.prog w base spare held n 22 [u0] = some y0 := fld_of hf (j := 0) rfl rfl rfl co_22;have q1 : DataW.trod enc Try.prog w base spare held n 24 [u1, u2] = some y1 := fld_of hf (j := 1) rfl rfl rfl co_24;obtain ⟨a1, a2, e1⟩ := cells_24 rfl q1
   simp only [List.cons.injEq, and_true] at e1
   obtain ⟨rfl, rfl⟩ := e1;have q2 : DataW.trod enc Try.prog w base spare held n 25 [u3] = some y2 := fld_of hf (j := 2) rfl rfl rfl co_25;have q3 : DataW.trod enc Try.prog w base spare held n 25 [u4] = some y3 := fld_of hf (j := 3) rfl rfl rfl co_25;have q4 : DataW.trod enc Try.prog w base spare held n 26 [u5] = some y4 := fld_of hf (j := 4) rfl rfl rfl co_26
   exact ⟨u0, a1, a2, u3, u4, u5, rfl, ⟨_, _, q0⟩, ⟨_, _, q2⟩, ⟨_, _, q3⟩, ⟨_, _, q4⟩⟩
theorem co_28 : Try.prog.cellsOf 28 = 6 := by kernel_rfl
theorem cells_len_28 {fuel : Nat} {v : Value} {x : DataW H × List MemPlace} (h : DataW.trod enc Try.prog w base spare held fuel 28 v.cells.toList = some x) : v.cells.toList.length = 6 := by
 obtain ⟨_, _, _, _, hlen, _, _⟩ := DataW.trod_struct Try.underlying28 h;rw [hlen]
 exact co_28
instance : Inhabited Kd := ⟨kd0⟩
instance : Inhabited Ev := ⟨ev0⟩
instance : Inhabited (List Int × Value) := ⟨([], .slice none 0 0)⟩
theorem rd_ints {fuel : Nat} {v : Value} {x : DataW H × List MemPlace} (h : DataW.trod enc Try.prog w base spare held fuel 22 [v] = some x) : ∃ l : List Int, Rd w w.heap.size 1 v l.length (ints l) ∧ l.length ≤ maxLen := by
 obtain ⟨l, h1, _, h2⟩ := rd_list (s := 1) (f := iC) (Good := fun _ => True) (fun _ => rfl) (by omega) Try.underlying22 co_3 (fun _ cs _ hl ht => by
  match cs, hl with
  | [u], _ =>
   obtain ⟨z, hz, _, _⟩ := DataW.trod_int Try.underlying3 ht
   injection hz with hz
   subst hz
   exact ⟨z, rfl, trivial⟩) h
 exact ⟨l, by rw [ints_flat]; exact h1, h2⟩
theorem rd_kds {fuel : Nat} {v : Value} {x : DataW H × List MemPlace} (h : DataW.trod enc Try.prog w base spare held fuel 26 [v] = some x) : ∃ l : List Kd, Rd w w.heap.size 5 v l.length (kdsC l) ∧ l.length ≤ maxLen := by
 obtain ⟨l, h1, _, h2⟩ := rd_list (f := kdC) (Good := fun _ => True) kdC_len (by omega) Try.underlying26 co_52 (fun _ cs _ hl ht => by
  obtain ⟨a, b, c, d, e, rfl⟩ := cells_52 hl ht
  exact ⟨⟨⟨a, b⟩, c, d, e⟩, rfl, trivial⟩) h
 exact ⟨l, h1, h2⟩
theorem rd_evs {fuel : Nat} {v : Value} {x : DataW H × List MemPlace} (h : DataW.trod enc Try.prog w base spare held fuel 29 [v] = some x) : ∃ l : List Ev, Rd w w.heap.size 2 v l.length (evsC l) ∧ l.length ≤ maxLen := by
 obtain ⟨l, h1, _, h2⟩ := rd_list (f := evC) (Good := fun _ => True) evC_len (by omega) Try.underlying29 co_50 (fun _ cs _ hl ht => by
  obtain ⟨a, b, rfl⟩ := cells_50 hl ht
  exact ⟨⟨a, b⟩, rfl, trivial⟩) h
 exact ⟨l, h1, h2⟩
theorem flat_snd {α β : Type} : ∀ l : List (α × β), l.flatMap (fun p => [p.2]) = l.map Prod.snd
 | [] => rfl
 | (a, b) :: l => by simp [flat_snd l]
theorem rd_rows {fuel : Nat} {v : Value} {x : DataW H × List MemPlace} (h : DataW.trod enc Try.prog w base spare held fuel 25 [v] = some x) : ∃ (l : List (List Int)) (vs : List Value), RdLL iC 1 w w.heap.size v l vs ∧ l.length ≤ maxLen := by
 obtain ⟨l, h1, h3, h2⟩ := rd_list (α := List Int × Value) (s := 1) (f := fun p => [p.2]) (Good := fun p => Rd w w.heap.size 1 p.2 p.1.length (ints p.1) ∧ p.1.length ≤ maxLen) (fun _ => rfl) (by omega) Try.underlying25 co_22 (fun _ cs _ hl ht => by
  match cs, hl with
  | [u], _ =>
   obtain ⟨l, h1, h2⟩ := rd_ints ht
   exact ⟨(l, u), rfl, h1, h2⟩) h
 rw [flat_snd] at h1;refine ⟨l.map Prod.fst, l.map Prod.snd, ⟨by simp, by simpa using h1, fun i hi => ?_⟩, by simpa using h2⟩
 have hi' : i < l.length := by simpa using hi
 have e1 : (l.map Prod.fst).getD i [] = l[i].1 := by simp [hi']
 have e2 : (l.map Prod.snd).getD i undef = l[i].2 := by simp [hi']
 rw [e1, e2, ← ints_flat]
 exact (h3 _ (List.getElem_mem hi')).1
theorem rules_of {v : Value} {d : DataW H} {p : List MemPlace} (h : DataW.Trod enc Try.prog w base spare held 28 v d p) : ∃ (ru : Rules) (ua up : List Value) (vl va vp vk : Value), v = rulesV vl va vp vk ru ∧ RdRules w w.heap.size vl va vp vk ru ua up := by
 obtain ⟨fuel, hf⟩ := h;obtain ⟨a, lo, hi, b, c, k, he, ⟨_, _, ha⟩, ⟨_, _, hb⟩, ⟨_, _, hc⟩, ⟨_, _, hk⟩⟩ := cells_28 (cells_len_28 hf) hf;obtain ⟨l, h1, _⟩ := rd_ints ha;obtain ⟨m, us, h3, _⟩ := rd_rows hb;obtain ⟨s, ut, h5, _⟩ := rd_rows hc;obtain ⟨q, h7, _⟩ := rd_kds hk;refine ⟨⟨l, ⟨lo, hi⟩, m, s, q⟩, us, ut, a, b, c, k, ?_, ⟨h1, h3, h5, h7⟩⟩
 unfold rulesV
 cases v with
  | agg cs =>
   have : cs = #[a, .int .i64 lo, .int .i64 hi, b, c, k] := by
    apply Array.ext'
    simpa [Value.cells] using he
   rw [this]
  | _ => simp [Value.cells] at he
end
end Go.Proofs.Ytdkedhcbdbpccaa
