/- E17, E25, ExX8, X8, WsRows, ExX9, X9, ExX10, X10, WsFront, ExX11, X11, WsMap, ExX12, X12, E26, ExX13, X13, E27, WsYard, ExX14: what WashFewestProof needs of them (merged by trimpack.py). -/
import Derived.Test.YtdkedhcbdbpccaaFewestT2
set_option linter.unusedVariables false
set_option linter.unusedSimpArgs false
namespace Go.Proofs.Ytdkedhcbdbpccaa
open Go Go.RowKit
theorem own_keep {w w' : World} {base e size n : Nat} {v : Value} {xs : List Value} {row : Option Nat} (h : w.ownsRow base e size v n xs) (hg : w.grownBy w' row) (hr : ∀ r, row = some r → ∃ o : Obj, w.heap[r]? = some o ∧ o.isCells = false) : w'.ownsRow base e size v n xs := by
 refine h.kept hg ?_;obtain ⟨_, ⟨rfl, _⟩ | ⟨k, cap, cur, rfl, _, hk, _⟩⟩ := h
 ·exact .inl rfl
 ·refine .inr fun e1 => ?_
  obtain ⟨o, h1, h2⟩ := hr k e1.symm;rw [hk] at h1
  injection h1 with h1
  subst h1
  cases h2
theorem Marks.below {n0 : Nat} {ds : List Deferred} {W W' : World} (h : Marks n0 ds W) (hb : Below W.heap.size W W') : Marks n0 ds W' := fun d hd => by
 obtain ⟨D, h1, h2, h3⟩ := h d hd
 exact ⟨D, h1, h2, (hb.block D (Array.getElem?_eq_some_iff.1 h3).1).trans h3⟩
theorem Marks.keeps {n0 : Nat} {ds : List Deferred} {W W' : World} (h : Marks n0 ds W) (hk : KeepsOthers W W') : Marks n0 ds W' := fun d hd => by
 obtain ⟨D, h1, h2, h3⟩ := h d hd
 exact ⟨D, h1, h2, hk.same _ _ h3 rfl⟩
theorem Marks.cons {n0 D : Nat} {ds : List Deferred} {W : World} (h : Marks n0 ds W) (hD : n0 ≤ D) (hd : W.heap[D]? = some (.deferred (some []))) : Marks n0 ({ target := .collected D, args := #[] } :: ds) W := fun d hm => by
 rcases List.mem_cons.1 hm with rfl | h1
 ·exact ⟨D, hD, rfl, hd⟩
 ·exact h d h1
/-- the marks of a world that has been, still there -/
structure MarksIn (n0 : Nat) (ds : List Deferred) (W0 W : World) : Prop where
 marks : Marks n0 ds W
 old : Marks n0 ds W0
theorem Marks.refl {n0 : Nat} {ds : List Deferred} {W : World} (h : Marks n0 ds W) : MarksIn n0 ds W W := ⟨h, h⟩
theorem MarksIn.below {n0 : Nat} {ds : List Deferred} {W0 W W' : World} (h : MarksIn n0 ds W0 W) (hb : Below W.heap.size W W') : MarksIn n0 ds W0 W' := ⟨h.marks.below hb, h.old⟩
theorem MarksIn.keeps {n0 : Nat} {ds : List Deferred} {W0 W W' : World} (h : MarksIn n0 ds W0 W) (hk : KeepsOthers W W') : MarksIn n0 ds W0 W' := ⟨h.marks.keeps hk, h.old⟩
theorem MarksIn.fresh {n0 D : Nat} {ds : List Deferred} {W0 W : World} (h : MarksIn n0 ds W0 W) (hD : W0.heap.size ≤ D) (hm : ({ target := .collected D, args := #[] } : Deferred) ∈ ds) : False := by
 obtain ⟨D', _, h2, h3⟩ := h.old _ hm;have := (Array.getElem?_eq_some_iff.1 h3).1
 injection h2 with h2 _
 injection h2 with h2
 omega
theorem MarksIn.grown {n0 B : Nat} {ds : List Deferred} {W0 W W' : World} {row : Option Nat} (h : MarksIn n0 ds W0 W) (h3 : W0.heap.size ≤ B) (hg : W.grownBy W' row) (hr : ∀ r, row = some r → B ≤ r) : MarksIn n0 ds W0 W' := ⟨fun d hd => by
 obtain ⟨D, k1, k2, k3⟩ := h.marks d hd;obtain ⟨D', _, k5, k6⟩ := h.old d hd;have e : D' = D := by rw [k2] at k5; injection k5 with k5 _; injection k5 with k5; exact k5.symm
 subst e;have hlt := (Array.getElem?_eq_some_iff.1 k6).1
 exact ⟨D', k1, k2, (hg.block D' (Array.getElem?_eq_some_iff.1 k3).1 (fun e => by have := hr D' e.symm; omega)).trans k3⟩, h.old⟩
/-- a store into a block of cells leaves what is no cells -/
theorem keeps_blk {w w' : World} {g T : Nat} {cs : Array Value} (h : Blk w g T cs) (hg : w.grownBy w' (some g)) : KeepsOthers w w' := ⟨hg.size, fun j o ho hc => by
 refine (hg.block j (Array.getElem?_eq_some_iff.1 ho).1 fun e => ?_).trans ho
 injection e with e
 subst e
 unfold Blk at h
 rw [h] at ho
 injection ho with ho
 subst ho
 cases hc⟩
theorem own_took {n0 : Nat} {w w' : World} {base e size n : Nat} {v : Value} {xs : List Value} (h : w.ownsRow base e size v n xs) (ht : Took n0 w w') : w'.ownsRow base e size v n xs := by
 obtain ⟨hl, h0 | ⟨g, cap, cur, hv, hb, hk, h1⟩⟩ := h
 ·exact ⟨hl, .inl h0⟩
 ·exact ⟨hl, .inr ⟨g, cap, cur, hv, hb, ht.blk g e cur hk, h1⟩⟩
section
variable {P : Program} {ops : Array Oper} {Q : Exit → Act → World → Prop} {n l : Nat}
theorem list_round (hQ : ¬ LetsOut Q) : ∀ (L : List Oper) (a : Act) (w : World), (∀ o ∈ L, ∀ c, o.op ≠ .defer c) → wpList P ops Q L a w → wpListIn (Fence.wide.inRound l) n P ops Q L a w
 | [], _, _, _, h => h
 | o :: rest, a, w, hnd, h => by
  unfold wpListIn
  unfold wpList at h
  have hr : ∀ o ∈ rest, ∀ c, o.op ≠ .defer c := fun o ho => hnd o (List.mem_cons_of_mem _ ho)
  by_cases hw : Region.wanted o (yielded ops a.tmps) = true
  ·simp only [hw, if_true] at h ⊢
   rcases h with h | h
   ·exact Oper.wpIn_mono (fun a' w' h' => list_round hQ rest a' w' hr h') (oper_round (hnd o (List.mem_cons_self ..)) h)
   ·exact absurd h.2 hQ
  ·simp only [hw, if_false, Bool.false_eq_true] at h ⊢
   exact ⟨fun _ _ => trivial, list_round hQ rest _ _ hr h⟩
theorem list_ds {ds : List Deferred} : ∀ (L : List Oper) (a : Act) (w : World), wpList P ops (fun e a' w' => Q e (addD ds a') w') L a w → wpList P ops Q L (addD ds a) w
 | [], _, _, h => h
 | o :: rest, a, w, h => by
  unfold wpList at h ⊢
  by_cases hw : Region.wanted o (yielded ops a.tmps) = true
  ·rw [if_pos hw] at h
   rw [if_pos (show Region.wanted o (yielded ops (addD ds a).tmps) = true from hw)]
   rcases h with h | h
   ·exact .inl (oper_ds (Oper.wp_mono (fun a' w' h' => list_ds rest a' w' h') h))
   ·refine .inr ⟨?_, lets_ds h.2⟩
    unfold Oper.asks
    rw [eval_ds]
    exact h.1
  ·rw [if_neg hw] at h
   rw [if_neg (show ¬Region.wanted o (yielded ops (addD ds a).tmps) = true from hw), put_ds]
   exact list_ds rest _ w h
end
theorem noDefer_mem {L : List Oper} (h : noDefer L.toArray = true) : ∀ o ∈ L, ∀ c, o.op ≠ .defer c := fun o ho => by
 obtain ⟨i, hi, rfl⟩ := List.getElem_of_mem ho
 exact noDefer_spec h i _ (by simp [hi])
theorem lets_blk {id : Nat} {Q : Exit → Act → World → Prop} (h : ¬LetsOut Q) : ¬LetsOut (Exit.inBlock id Q) := h
theorem lets_then {K : Act → World → Prop} {Q : Exit → Act → World → Prop} (h : ¬LetsOut Q) : ¬LetsOut (Exit.then K Q) := h
theorem lets_no : ¬LetsOut (fun (_ : Exit) (_ : Act) (_ : World) => False) := fun ⟨_, _, h⟩ => h
theorem lets_body {A B C D : World → Prop} : ¬LetsOut (fun e _ W' => A W' ∧ B W' ∧ ((e = Exit.normal ∧ C W') ∨ (e = Exit.ret ∧ D W'))) := fun ⟨_, _, h⟩ => by
 rcases h.2.2 with ⟨h1, _⟩ | ⟨h1, _⟩ <;> cases h1
section
variable {P : Program} {n : Nat} {σ : Sg} {w : World} {Q : Exit → Act → World → Prop} {L : List Oper}
theorem ECI.regionL {id l : Nat} (hQ : ¬LetsOut Q) (hnd : noDefer L.toArray = true) (h : EL P n L Q L σ w) : ECI (some l) 0 P n [] (.region id L.toArray false) Q σ w := fun a ha =>
 wpIn_region_lit (list_round hQ L a w (noDefer_mem hnd) (h a ha.e))
theorem ECI.regionLD {id : Nat} {k : Nat} {ds : List Deferred} (h : EL P n L (fun e a' w' => Q e (addD ds a') w') L σ w) : ECI none k P n ds (.region id L.toArray false) Q σ w := fun a ha => by
 refine wpIn_wide.2 (wp_region_lit ?_);have h1 := list_ds (ds := ds) L ⟨a.tmps, []⟩ w (h ⟨a.tmps, []⟩ ha.env);have e : addD ds ⟨a.tmps, []⟩ = a := by
  obtain ⟨tm, df⟩ := a;have : df = ds := ha.ds;subst this
  rfl
 rw [e] at h1
 exact h1
theorem EX.toI {e : Exit} (h : EXI n [] Q e σ w) : EX n Q e σ w := fun a ha => h a ha.g
theorem EXI.seqw {ds : List Deferred} {y : Code} (h : ECI none 0 P n ds y Q σ w) : EXI n ds (Exit.then (y.wp P Q) Q) .normal σ w := fun a ha => wpIn_wide.1 (h a ha)
theorem EX.doneM {fn : Func} {R : Ending → World → Prop} {v : Value} (hr : ∀ a, Env n σ a → (results fn a.tmps).run P w = .ok v w) (h : R (.returned v) w) : EX n (bodyPostM Fence.wide 0 P fn R) .ret σ w := fun a ha => by
 show LeavesInM Fence.wide 0 P fn a.tmps R a.defers .returning w
 rw [ha.defers]
 exact ⟨v, hr a ha, h⟩
end
section
variable {ro : Option Nat} {k : Nat} {P : Program} {n : Nat} {ds : List Deferred} {σ : Sg} {w : World} {Q : Exit → Act → World → Prop} {L : List Oper} {rest : List Oper}
theorem ELI.skip {d ty j t : Nat} {b : Bool} {op : Op} {pos : String} {af : Array Edge} {u : Value} (hj : dstOf L j = some t) (ht : σ t = some u) (hb : yieldsB b u = false) (hd : Nat.blt d n = true) (next : ELI ro k P n ds L Q rest (ins σ d undef) w) : ELI ro k P n ds L Q (⟨some d, op, ty, pos, af, some (j, b)⟩ :: rest) σ w := fun a ha => by
 have hw : Region.wanted (⟨some d, op, ty, pos, af, some (j, b)⟩ : Oper) (yielded L.toArray a.tmps) = false := by
  simp only [Region.wanted, yield_ofG ha hj ht]
  cases u <;> first | rfl | (simp only [yieldsB] at hb; simpa using hb)
 unfold wpListIn
 rw [hw, if_neg (by simp)]
 exact ⟨fun _ _ => trivial, next _ (ha.put hd undef)⟩
theorem ELI.yieldg {d ty l j t : Nat} {b : Bool} {x y : Operand} {at' : Array TypeId} {pos : String} {af : Array Edge} {v : Value} {R : Ending → World → Prop} {fn : FuncId} {tmps : Array Value} {assign body : Code} (hj : dstOf L j = some t) (ht : σ t = some (.bool b)) (hx : evS σ x = some (.func (.yield l) #[] #[])) (hy : evS σ y = some v) (hd : Nat.blt d n = true) (hi : (Instr.yield l #[v]).run P w = .ok (.round l fn tmps assign body) w) (hR : RoundIn Fence.wide 0 P l fn tmps assign body w R)
  (next : ∀ e w', R e w' → ∃ v, e = .returned v ∧ ELI ro k P n ds L Q rest (ins σ d v) w') : ELI ro k P n ds L Q (⟨some d, .call { callee := .value x, args := #[y], argTypes := at' }, ty, pos, af, some (j, b)⟩ :: rest) σ w := fun a ha => by
 have hr' : (execOp a.eval ⟨some d, .call { callee := .value x, args := #[y], argTypes := at' }, ty, pos, af, some (j, b)⟩).run P w = .ok (.round l fn tmps assign body) w := by
  simp only [execOp, resolve, List.map_toArray, List.map_cons, List.map_nil, ha.eval hx, ha.eval hy]
  simp [go_sem, Deferred.ofValue, hi]
 unfold wpListIn
 rw [if_pos (by simp [Region.wanted, yield_ofG ha hj ht])]
 refine ⟨fun _ _ => trivial, ?_⟩
 rw [semAt_fr (nodefer hr' (fun d h => by cases h)), hr']
 refine ⟨fr_depth _ _, RoundIn.mono (roundIn_fr hR) fun e w' he => ?_⟩
 obtain ⟨v, rfl, hv⟩ := next e w' he
 exact hv _ (ha.put hd v)
end
section
variable {P : Program} {n : Nat} {σ : Sg} {w : World}
/-- leaving with one mark -/
theorem EXI.doneOne {fn : Func} {R : Ending → World → Prop} {v : Value} {D : Nat} (hd : w.heap[D]? = some (.deferred (some []))) (hr : ∀ a, Env n σ a → (results fn a.tmps).run P (w.putObj D (.deferred none)) = .ok v (w.putObj D (.deferred none))) (h : R (.returned v) (w.putObj D (.deferred none))) : EXI n [{ target := .collected D, args := #[] }] (bodyPostM Fence.wide 0 P fn R) .ret σ w := fun a ha => by
 show LeavesInM Fence.wide 0 P fn a.tmps R a.defers .returning w
 rw [ha.ds]
 exact ⟨by simp, .inl ⟨D, _, rfl, run_takeDeferred hd, v, hr ⟨a.tmps, []⟩ ha.env, h⟩⟩
theorem EXI.doneOneN {fn : Func} {R : Ending → World → Prop} {v : Value} {D : Nat} (hd : w.heap[D]? = some (.deferred (some []))) (hr : ∀ a, Env n σ a → (results fn a.tmps).run P (w.putObj D (.deferred none)) = .ok v (w.putObj D (.deferred none))) (h : R (.returned v) (w.putObj D (.deferred none))) : EXI n [{ target := .collected D, args := #[] }] (bodyPostM Fence.wide 0 P fn R) .normal σ w := fun a ha => by
 show LeavesInM Fence.wide 0 P fn a.tmps R a.defers .returning w
 rw [ha.ds]
 exact ⟨by simp, .inl ⟨D, _, rfl, run_takeDeferred hd, v, hr ⟨a.tmps, []⟩ ha.env, h⟩⟩
end
theorem soft_put {b m : Nat} {U : List Nat} {A : World} {D : Nat} {o : Obj} (o' : Obj) (hm : m ≤ D) (hd : A.heap[D]? = some o) (hc : o.isCells = false) : Soft b m U A (A.putObj D o') :=
 ⟨some D, grownBy_putObj' A D o', fun g e => by injection e with e; subst e; exact .inr ⟨hm, o, hd, hc⟩⟩
section
variable {n : Nat} {σ : Sg} {w : World} {dst : Option Tmp} {ty : TypeId} {pos : String} {af : Array Edge} {g : Option (Nat × Bool)} {x y z : Operand} {at' : Array TypeId}
theorem bx_29 {v0 : Value} (hx : evS σ x = some (v0)) (h1 : v0.oneCell' = true) (a : Act) (ha : Env n σ a) : (execOp a.eval ⟨dst, .box 29 x, ty, pos, af, g⟩).run Try.prog w = .ok (.value (.pointer (some ⟨w.heap.size, 0, none⟩))) (w.alloc (.cells #[v0] 29)) := by
 simp only [execOp, ha.eval hx]
 cases v0 <;> first | (simp [Value.oneCell'] at h1; done) | simp [go_sem, Value.cells]
theorem mf_78_0_2 {x0 x1 : Operand} {v0 v1 : Value} (h0 : evS σ x0 = some v0) (h1 : evS σ x1 = some v1) : Gives Try.prog n σ w ⟨dst, .makeFunc (.func 78) #[] #[x0, x1], ty, pos, af, g⟩ (.func (.func 78) #[] #[v0, v1]) := fun a ha => by
 simp only [execOp, List.map_toArray, List.map_cons, List.map_nil, ha.eval h0, ha.eval h1]
 simp [go_sem]
theorem ld_29 {b o : Nat} {v0 : Value} (hx : evS σ x = some (.pointer (some ⟨b, o, none⟩))) (c0 : w.cell? ⟨b, o, none⟩ = some v0) : Gives Try.prog n σ w ⟨dst, .load 29 x, ty, pos, af, g⟩ (v0) := fun a ha => by
 simp only [execOp, ha.eval hx]
 simp [go_sem, c0]
theorem ln_146 {A : Option Addr} {m c : Nat} (hx : evS σ x = some (.slice A m c)) : Gives Try.prog n σ w ⟨dst, .call { callee := .builtin .len, args := #[x], argTypes := #[146] }, ty, pos, af, g⟩ (.int .i64 (m : Int)) := fun a ha => by
 simp only [execOp, resolve, List.map_toArray, List.map_cons, List.map_nil, ha.eval hx]
 simp [go_sem]
theorem ix_146 {b o m c k : Nat} (hx : evS σ x = some (.slice (some ⟨b, o, none⟩) m c)) (hy : evS σ y = some (.int .i64 (k : Int))) (hk : k < m) : Gives Try.prog n σ w ⟨dst, .indexAddr 146 x y, ty, pos, af, g⟩ (.pointer (some ⟨b, o + k * 4, none⟩)) := fun a ha => by
 have k0 : (0 : Int) ≤ (k : Int) := Int.natCast_nonneg _;have k1 : (k : Int) < (m : Int) := by omega
 simp only [execOp, ha.eval hx, ha.eval hy]
 simp [go_sem, k0, k1]
theorem bs_60_1 {x0 : Operand} {v0_0 v0_1 : Value} (h0 : evS σ x0 = some (.agg #[v0_0, v0_1]))  (a : Act) (ha : Env n σ a) : (execOp a.eval ⟨dst, .buildSlice 60 1 #[(0, x0)], ty, pos, af, g⟩).run Try.prog w = .ok (.value (.slice (some ⟨w.heap.size, 0, none⟩) 1 1)) (w.alloc (.cells #[v0_0, v0_1] 24)) := by
 simp only [execOp, List.map_toArray, List.map_cons, List.map_nil, ha.eval h0]
 go_simp
theorem sz_126 : (Try.prog.info? 126).map (·.size) = some 35 := by kernel_rfl
theorem al_32 (a : Act) (_ : Env n σ a) : (execOp a.eval ⟨dst, .alloc 32, ty, pos, af, g⟩).run Try.prog w = .ok (.value (.pointer (some ⟨w.heap.size, 0, none⟩))) (w.alloc (.cells #[.slice none 0 0] 32)) := by
 simp only [execOp]
 simp [go_sem]
theorem cF49 : cF 49 := fun _ _ => by simp [go_sem]
theorem fa_126_0 {b o : Nat} (hx : evS σ x = some (.pointer (some ⟨b, o, none⟩))) : Gives Try.prog n σ w ⟨dst, .fieldAddr 126 x 0, ty, pos, af, g⟩ (.pointer (some ⟨b, o, none⟩)) := fun a ha => by
 simp only [execOp, ha.eval hx]
 simp [go_sem]
theorem fa_126_2 {b o : Nat} (hx : evS σ x = some (.pointer (some ⟨b, o, none⟩))) : Gives Try.prog n σ w ⟨dst, .fieldAddr 126 x 2, ty, pos, af, g⟩ (.pointer (some ⟨b, o + 3, none⟩)) := fun a ha => by
 simp only [execOp, ha.eval hx]
 simp [go_sem]
theorem ld_32 {b o : Nat} {v0 : Value} (hx : evS σ x = some (.pointer (some ⟨b, o, none⟩))) (c0 : w.cell? ⟨b, o, none⟩ = some v0) : Gives Try.prog n σ w ⟨dst, .load 32 x, ty, pos, af, g⟩ (v0) := fun a ha => by
 simp only [execOp, ha.eval hx]
 simp [go_sem, c0]
theorem fa_126_1 {b o : Nat} (hx : evS σ x = some (.pointer (some ⟨b, o, none⟩))) : Gives Try.prog n σ w ⟨dst, .fieldAddr 126 x 1, ty, pos, af, g⟩ (.pointer (some ⟨b, o + 2, none⟩)) := fun a ha => by
 simp only [execOp, ha.eval hx]
 simp [go_sem]
theorem bd_46_0_1_2 {x0 x1 x2 : Operand} {z0 : Int} {z1 : Int} {b2 : Bool} (h0 : evS σ x0 = some (.int .i64 z0)) (h1 : evS σ x1 = some (.int .i64 z1)) (h2 : evS σ x2 = some (.bool b2)) : Gives Try.prog n σ w ⟨dst, .build 46 #[(0, x0), (1, x1), (2, x2)], ty, pos, af, g⟩ (.agg #[.int .i64 z0, .int .i64 z1, .bool b2]) := fun a ha => by
 simp only [execOp, List.map_toArray, List.map_cons, List.map_nil, ha.eval h0, ha.eval h1, ha.eval h2]
 go_simp
theorem bs_32_1 {x0 : Operand} {v0_0 v0_1 v0_2 : Value} (h0 : evS σ x0 = some (.agg #[v0_0, v0_1, v0_2]))  (a : Act) (ha : Env n σ a) : (execOp a.eval ⟨dst, .buildSlice 32 1 #[(0, x0)], ty, pos, af, g⟩).run Try.prog w = .ok (.value (.slice (some ⟨w.heap.size, 0, none⟩) 1 1)) (w.alloc (.cells #[v0_0, v0_1, v0_2] 46)) := by
 simp only [execOp, List.map_toArray, List.map_cons, List.map_nil, ha.eval h0]
 go_simp
theorem sz_32 : (Try.prog.info? 32).map (·.size) = some 1 := by kernel_rfl
theorem lv_32 {b o : Nat} {v0 : Value} (c0 : w.cell? ⟨b, o, none⟩ = some v0) : (loadVar 32 ⟨b, o, none⟩).run Try.prog w = .ok (v0) w := by
 simp [go_sem, loadVar, c0]
end
theorem each_fn {v0 v3 v4 v5 : Value} {z1 z2 : Value} {A : Option Addr} {n c : Nat} (w : World) : Calls Try.prog 49 #[.agg #[v0, z1, z2, v3, v4, v5], .slice A n c] w fun e w' => (∃ b1 b2, e = .returned (.func (.func 78) #[] #[.pointer (some ⟨b1, 0, none⟩), .pointer (some ⟨b2, 0, none⟩)]) ∧ Blk w' b1 116 #[v0, z1, z2, v3, v4, v5] ∧ Blk w' b2 29 #[.slice A n c] ∧ w.heap.size ≤ b1 ∧ w.heap.size ≤ b2) ∧ Below w.heap.size w w' := by
 have hbw := Below.refl w.heap.size w;refine EC.enter 6 Try.func49 rfl rfl rfl (EC.seq (EC.region (EL.newP (bx_116 rfl) rfl ?_)));intro g1 w1 q1 hb1 hg1 hl1;have bhbw_1 := Nat.le_trans hbw.size hg1;replace hbw := bo_ hbw hb1;clear hb1 hg1 hl1;refine EL.newP (bx_29 rfl rfl) rfl ?_;intro g2 w2 q2 hb2 hg2 hl2;have n1_2 := q1.na hg2;have bhbw_2 := Nat.le_trans hbw.size hg2;replace q1 := q1.bl hb2;replace hbw := bo_ hbw hb2;clear hb2 hg2 hl2;refine EL.as rfl rfl (EL.nil (EX.seq (EC.seq (EC.region (EL.val (mf_78_0_2 rfl rfl) rfl (EL.as rfl rfl (EL.nil (EX.seq (EC.ret ?_)))))))))
 exact EX.done (res1 rfl rfl) ⟨⟨_, _, rfl, q1, q2, bhbw_1, bhbw_2⟩, hbw⟩
theorem each_iter {ru : Rules} {ua up : List Value} {vl va vp vk : Value} {w : World} {B : Nat} (hr : RdRules w B vl va vp vk ru ua up) (hro : RulesOk ru) {l : List Ev} {v : Value} (hl : Rd w B 2 v l.length (evsC l)) (hv : l.all (evB ru) = true) (hn : l.length ≤ 1048576)
  {n0 : Nat} {S : List Nat} (hBn : B ≤ n0) (hn0 : n0 ≤ w.heap.size) (hS : memB S 116 = false ∧ memB S 120 = false ∧ memB S 50 = false ∧ memB S 29 = false) {b1 b2 : Nat} (hq1 : Blk w b1 116 #[vl, .int .i64 ru.fade.lo, .int .i64 ru.fade.hi, va, vp, vk]) (hq2 : Blk w b2 29 #[v]) :
  IterAtK [120, 50] Try.prog 78 #[.pointer (some ⟨b1, 0, none⟩), .pointer (some ⟨b2, 0, none⟩)] (okM ru l) n0 S (allE l.length) w := by
 intro la J Jx W hkW hlt hJ hJx hY hJ0;have q1 := hkW.blk _ _ _ hq1 hS.1;have q2 := hkW.blk _ _ _ hq2 hS.2.2.2;obtain ⟨Ae, ce, rfl, _⟩ := hl.shape;change Calls Try.prog 78 #[.func (.yield la) #[] #[], .pointer (some ⟨b1, 0, none⟩), .pointer (some ⟨b2, 0, none⟩)] W _;refine EC.enter 8 Try.func78 rfl rfl rfl (EC.region (EL.val (ld_116 rfl (q1.at (j := 0) rfl) (q1.at (j := 1) rfl) (q1.at (j := 2) rfl) (q1.at (j := 3) rfl) (q1.at (j := 4) rfl) (q1.at (j := 5) rfl)) rfl (EL.val (ld_29 rfl (q2.at (j := 0) rfl)) rfl (EL.mv rfl rfl (EL.call (cA3 cF76 rfl rfl rfl) rfl (follow_iter hr hro hl hv hn hBn hn0 ⟨hS.1, hS.2.1, hS.2.2.1⟩ la J Jx W hkW hJ.stays hJx.stays hY hJ0) ?_)))))
 rintro e w9 ⟨⟨v9, rfl⟩, hk9, hj9⟩
 refine ⟨_, rfl, ?_⟩;refine EL.nil ?_
 exact EX.done' (res0 rfl) ⟨⟨_, rfl⟩, hk9, hj9⟩
def bdC (x : Bd) : List Value := [.int .i64 x.lo, .int .i64 x.hi]
def bdsC (l : List Bd) : List Value := l.flatMap bdC
theorem bdC_len (x : Bd) : (bdC x).length = 2 := rfl
theorem bdsC_len (l : List Bd) : (bdsC l).length = l.length * 2 := flat_len bdC_len l
theorem bdR_info : (Try.prog.info? 24).map (fun i => (i.zero, i.size, i.bytes)) = some (some (.agg #[.int .i64 0, .int .i64 0]), 2, 16) := by kernel_rfl
theorem bdR_elem : Elem Try.prog 60 24 2 16 := Elem.mk' Try.underlying60 bdR_info rfl (by omega)
def resK (tk : List Tr) (n : Nat) : List Bd := (List.range n).map fun i => ⟨(tk.getD i tr0).lo, (tk.getD i tr0).hi⟩
theorem resK_succ {tk : List Tr} {n : Nat} : bdsC (resK tk (n + 1)) = bdsC (resK tk n) ++ bdC ⟨(tk.getD n tr0).lo, (tk.getD n tr0).hi⟩ := by
 unfold bdsC resK
 rw [List.range_succ, List.map_append, List.flatMap_append]
 simp [bdC]
def resE (ru : Rules) (l : List Ev) : List Bd := if refE ru l = 0 then resK (afterT ru l) ru.levels.length else []
set_option maxHeartbeats 1000000 in
theorem Residues_any {ru : Rules} {ua up : List Value} {vl va vp vk : Value} {w : World} {B : Nat} (hr : RdRules w B vl va vp vk ru ua up) (hB : B ≤ w.heap.size) (hs : Short ru) {l : List Ev} {v : Value} (hl : Rd w B 2 v l.length (evsC l)) (hn : l.length ≤ 1048576) :
  Calls Try.prog 33 #[rulesV vl va vp vk ru, v] w fun e w' => (∃ u, e = .returned (.tuple #[u, .int .i64 (refE ru l)]) ∧ w'.ownsRow w.heap.size 24 2 u (resE ru l).length (bdsC (resE ru l))) ∧ Below w.heap.size w w' := by
 obtain ⟨Al, cl, Aa, ca, Ap, cp, Ak, ck, rfl, rfl, rfl, rfl⟩ := hr.sh4;obtain ⟨Ae, ce, rfl, _⟩ := hl.shape;have hbw := Below.refl w.heap.size w
 unfold rulesV
 refine EC.enter 37 Try.func33 rfl rfl rfl (EC.seq (EC.region (EL.newP (bx_28 rfl) rfl ?_)));intro g1 w1 q1 hb1 hg1 hl1;have bhbw_1 := Nat.le_trans hbw.size hg1;replace hbw := bo_ hbw hb1;clear hb1 hg1 hl1;refine EL.as rfl rfl (EL.as rfl rfl (EL.nil (EX.seq (EC.seq (EC.region (EL.val (ld_28 rfl (q1.at (j := 0) rfl) (q1.at (j := 1) rfl) (q1.at (j := 2) rfl) (q1.at (j := 3) rfl) (q1.at (j := 4) rfl) (q1.at (j := 5) rfl)) rfl (EL.mv rfl rfl (EL.call (cA2 cF48 rfl rfl) rfl (after_any (hr.below (hbw.mono hB)) (Nat.le_trans hB hbw.size) hs (hl.below (hbw.mono hB)) hn) ?_))))))))
 rintro e w2 ⟨rfl, hc2⟩
 refine ⟨_, rfl, ?_⟩;replace q1 := q1.bl hc2;replace hbw := bo_ hbw hc2;clear hc2;refine EL.mv rfl rfl (EL.xt rfl rfl rfl (EL.xt rfl rfl rfl (EL.xt rfl rfl rfl (EL.newP al_116 rfl ?_))));intro g3 w3 q3 hb3 hg3 hl3;have n1_3 := q1.na hg3;have bhbw_3 := Nat.le_trans hbw.size hg3;replace q1 := q1.bl hb3;replace hbw := bo_ hbw hb3;clear hb3 hg3 hl3;refine EL.newP al_tank rfl ?_;intro g4 w4 q4 hb4 hg4 hl4;have n1_4 := q1.na hg4;have n3_4 := q3.na hg4;have bhbw_4 := Nat.le_trans hbw.size hg4;replace q1 := q1.bl hb4;replace q3 := q3.bl hb4;replace hbw := bo_ hbw hb4;clear hb4 hg4 hl4;refine EL.store rfl rfl q3 sz_116 rfl rfl rfl rfl ?_;intro w5 hq5 hg5;replace q1 := q1.gr hg5 n1_3;replace q4 := q4.gr hg5 n3_4.symm;replace hbw := below_store hbw hg5 bhbw_3;replace q3 := hq5;clear hg5 hq5;refine EL.store (l' := (tkC (tkE ru l))) rfl rfl q4 sz_120 rfl ((lenV_eq _).trans (tkC_8 (tkE_ok ru l).n8)) (by rw [lenV_eq, Nat.ble_eq]; exact Nat.le_of_eq ((tkC_8 tank0_ok.n8).symm)) (tkC_one _) ?_
 intro w6 hq6 hg6;rw [spl_whole ((tkC_8 (tkE_ok ru l).n8).trans (tkC_8 tank0_ok.n8).symm)] at hq6;replace q1 := q1.gr hg6 n1_4;replace q3 := q3.gr hg6 n3_4;replace hbw := below_store hbw hg6 bhbw_4;replace q4 := hq6;clear hg6 hq6;refine EL.as rfl rfl (EL.nil (EX.seq (EC.seq (EC.seq (EC.region (EL.mv rfl rfl ?_))))))
 by_cases hz : refE ru l = 0
 ·
  refine EL.val (x_neq (r := false) rfl rfl (decide_eq_false (fun h => h hz))) rfl ?_
  refine EL.nil (EX.seq (EC.no rfl (EC.skip (EX.seq (EC.seq (EC.seq (EC.region (EL.val (fa_116_0 rfl) rfl (EL.val (fa_28_0 rfl) rfl ?_)))))))));refine EL.val (ld_22 rfl (q3.at (j := 0) rfl)) rfl (EL.val (ln_22 rfl) rfl ?_);obtain ⟨hro, hv, hn100⟩ := ref_ok hz;have hn8 := hro.n8;refine EL.val (x_slarr rfl rfl hn8) rfl (EL.val (ln_146 rfl) rfl (EL.mv rfl rfl (EL.nil (EX.seq (EC.block ?_)))));refine EC.loopD [4, 9, 26, 27, 28, 29, 30, 31, 32, 33, 34, 35] (fun x : Nat × Value => [(4, x.2), (26, .int .i64 (x.1 : Nat))]) (fun x W => x.1 ≤ ru.levels.length ∧ W.ownsRow w.heap.size 24 2 x.2 x.1 (bdsC (resK (tkE ru l) x.1)) ∧ Blk W g4 120 (tkC (tkE ru l)).toArray ∧ Below w.heap.size w W) (fun x => ru.levels.length - x.1) (0, .slice none 0 0) ⟨Nat.zero_le _, World.ownsRow_nil _ _ _ _, q4, hbw⟩ ⟨rfl, rfl, trivial⟩ ?_
  clear q4 hbw
  rintro ⟨x, vr⟩ wx ⟨hx, ho, q4, hbw⟩
  dsimp only at hx ho
  obtain ⟨Ar, cr, rfl, _⟩ := (Rd.of_own ho).shape
  by_cases hlt : x < ru.levels.length
  ·
   have hp := tr_at (tkE ru l) x (by rw [(tkE_ok ru l).n8]; omega)
   obtain ⟨lo_, hi_, ca_, af_, etr⟩ : ∃ x1 y1 z1 u1, (tkE ru l).getD x tr0 = ⟨x1, y1, z1, u1⟩ := ⟨_, _, _, _, rfl⟩;have hst := resK_succ (tk := tkE ru l) (n := x);rw [etr] at hp hst;refine EC.seq (EC.region ?_);refine EL.val (x_lss rfl rfl (decide_eq_true (show (((x : Nat) : Int) < ((ru.levels.length : Nat) : Int)) by omega))) rfl ?_
   refine EL.nil (EX.seq (EC.seq (EC.yes rfl (EC.skip (EX.seq (EC.seq (EC.block (EC.seq (EC.region ?_)))))))));refine EL.val (ix_146 rfl rfl hlt) rfl ?_;have hp0 := Blk.range q4 hp;refine EL.val (ld_118 rfl (by rw [Nat.zero_add]; exact hp0 0 _ rfl) (by rw [Nat.zero_add]; exact hp0 1 _ rfl) (by rw [Nat.zero_add]; exact hp0 2 _ rfl) (by rw [Nat.zero_add]; exact hp0 3 _ rfl)) rfl ?_
   refine EL.newP al_118 rfl ?_;intro g7 w7 q7 hb7 hg7 hl7;have n4_7 := q4.na hg7;have bhbw_7 := Nat.le_trans hbw.size hg7;replace q4 := q4.bl hb7;replace ho := own_below ho hb7 (Nat.le_refl _);replace hbw := bo_ hbw hb7;clear hb7 hg7 hl7;refine EL.store rfl rfl q7 sz_118 rfl rfl rfl rfl ?_;intro w8 hq8 hg8;replace q4 := q4.gr hg8 n4_7;replace ho := own_type ho q7 rfl hg8;replace hbw := below_store hbw hg8 bhbw_7;replace q7 := hq8;clear hg8 hq8;refine EL.nil (EX.seq (EC.region (EL.mv rfl rfl (EL.val (fa_118_0 rfl) rfl (EL.val (ld_24 rfl (q7.at (j := 0) rfl) (q7.at (j := 1) rfl)) rfl (EL.newS (bs_60_1 rfl) rfl ?_))))));intro g9 w9 q9 hb9 hg9 hl9;have n4_9 := q4.na hg9;have n7_9 := q7.na hg9;have bhbw_9 := Nat.le_trans hbw.size hg9;replace q4 := q4.bl hb9;replace q7 := q7.bl hb9;replace ho := own_below ho hb9 (Nat.le_refl _);replace hbw := bo_ hbw hb9;clear hb9 hg9 hl9;refine EL.push bdR_elem rfl rfl ho (rd_one (l := [.int .i64 lo_, .int .i64 hi_]) q9 rfl) (by intro u hu; simp only [List.mem_cons, List.not_mem_nil, or_false] at hu; rcases hu with rfl | rfl <;> rfl) (by omega) rfl hbw.size rfl ?_
   intro v10 w10 ho2 hgr hb_ hat;replace q4 := blk_grown q4 ho rfl hgr;replace q7 := blk_grown q7 ho rfl hgr;replace hbw := hbw.trans hb_;clear ho hgr hb_ hat;have ho := ho2;clear ho2;refine EL.as rfl rfl (EL.nil (EX.blk (EX.seq (EC.region ?_))));refine EL.val (x_add rfl rfl (c := ((x + 1 : Nat) : Int)) ((IntWalk.i64_in _ ⟨by first | omega | (simp only; omega), by first | omega | (simp only; omega)⟩).trans (by first | omega | (simp only; omega)))) rfl ?_
   refine EL.mv rfl rfl (EL.nil ?_);refine EX.roundD (x + 1, _) ⟨rfl, rfl, trivial⟩ (by repeat first | with_reducible exact .refl _ | refine sp_ rfl ?_ | exact .refl _ | refine sd_ rfl ?_ | refine sn_ ?_) ⟨hlt, by show World.ownsRow _ _ _ _ _ _ (bdsC (resK _ (x + 1))); rw [hst]; exact ho, q4, hbw⟩ (by simp only; omega)
  ·
   have hxe : x = ru.levels.length := by omega
   subst hxe;refine EC.seq (EC.region ?_);refine EL.val (x_lss rfl rfl (decide_eq_false (show ¬(((ru.levels.length : Nat) : Int) < ((ru.levels.length : Nat) : Int)) by omega))) rfl ?_
   refine EL.nil (EX.seq (EC.seq (EC.no rfl (EC.exit (EX.seq_exit (EX.seq_exit (EX.blk_here (EX.seq (EC.seq ?_)))))))));refine EC.region (EL.mv rfl rfl (EL.as rfl rfl (EL.as rfl rfl (EL.nil (EX.seq (EC.ret ?_))))))
   exact EX.done (res2 rfl rfl rfl) ⟨⟨_, by rw [hz], by rw [resE, if_pos hz]; rw [tkE, if_pos hz] at ho; rw [show (resK (afterT ru l) ru.levels.length).length = ru.levels.length from by simp [resK]]; exact ho⟩, hbw⟩
 ·
  refine EL.val (x_neq (r := true) rfl rfl (decide_eq_true hz)) rfl (EL.nil (EX.seq (EC.yes rfl (EC.seq (EC.region (EL.mv rfl rfl (EL.as rfl rfl (EL.as rfl rfl (EL.nil ?_)))))))));refine EX.seq (EC.ret (EX.seq_ret ?_))
  exact EX.done (res2 rfl rfl rfl) ⟨⟨_, rfl, by rw [resE, if_neg hz]; exact World.ownsRow_nil _ _ _ _⟩, hbw⟩
theorem own_cast {w : World} {base e size n n' : Nat} {v : Value} {xs xs' : List Value} (h : w.ownsRow base e size v n xs) (hn : n = n') (hx : xs = xs') : w.ownsRow base e size v n' xs' := by subst hn; subst hx; exact h
/-- the assign code of a moment's loop: a box -/
theorem assignM {ru : Rules} {l : List Ev} (hro : RulesOk ru) {n d e id ty1 ty2 : Nat} {pos1 pos2 : String} {af1 af2 : Array Edge} {σ : Sg} (he : Nat.blt e n = true) (hde : Nat.beq d e = false) : ∀ (la : Nat) (x : It) (W : World) (K : Act → World → Prop), okM ru l x W →
  (∀ g a' W', EnvG n [] (ins (ins σ d x.2) e (.pointer (some ⟨g, 0, none⟩))) a' → Blk W' g 126 (momC (l.getD (x.1.getD 0 0).toNat ev0) (x.1.getD 0 0).toNat (afterT ru (l.take (x.1.getD 0 0).toNat))).toArray → Below W.heap.size W W' → W.heap.size ≤ g → K a' W') →
  ECI (some la) 0 Try.prog n [] (.region id [⟨some e, .alloc 126, ty1, pos1, af1, none⟩, ⟨none, .store 126 (.tmp e) (.tmp d), ty2, pos2, af2, none⟩].toArray false) (Exit.then K (fun _ _ _ => False)) (ins σ d x.2) W := by
 intro la x W K hok hK;obtain ⟨i, ei, ev_⟩ := hok;have ei2 : (x.1.getD 0 0).toNat = i := by rw [ei]; exact Int.toNat_natCast i
 rw [ei2] at hK;refine ECI.regionL (by repeat (first | exact lets_body | exact lets_no | refine lets_then ?_ | refine lets_blk ?_)) (by simp [noDefer]) ?_
 refine EL.newP al_mom he ?_;intro g W1 q hb1 hg1 hl1;refine EL.store (l' := momC (l.getD i ev0) i (afterT ru (l.take i))) (v := momV (l.getD i ev0) i (afterT ru (l.take i))) (g := g) (o := 0) (by simp [evS, ins]) (by simp [evS, ins, hde, ev_]) q sz_126 rfl ((lenV_eq _).trans (momC_len (afterT_ok hro _).n8)) (by rw [lenV_eq, Nat.ble_eq]; exact Nat.le_of_eq (momC_len tank0_ok.n8).symm) (momC_one _ _ _) ?_
 intro W2 q2_ hg2;rw [spl_whole ((momC_len (afterT_ok hro _).n8).trans (momC_len tank0_ok.n8).symm)] at q2_;refine EL.nil ?_
 exact fun a ha => hK g a W2 ha.g q2_ (below_store hb1 hg2 hg1) hg1
structure Br where
 event : Nat
 cargo : Nat
 sure : Bool
def brC (x : Br) : List Value := [.int .i64 (x.event : Nat), .int .i64 (x.cargo : Nat), .bool x.sure]
def brsC (l : List Br) : List Value := l.flatMap brC
theorem brsC_app {l m : List Br} : brsC (l ++ m) = brsC l ++ brsC m := List.flatMap_append
theorem brC_len (x : Br) : (brC x).length = 3 := rfl
theorem br_info : (Try.prog.info? 46).map (fun i => (i.zero, i.size, i.bytes)) = some (some (.agg #[.int .i64 0, .int .i64 0, .bool false]), 3, 24) := by kernel_rfl
theorem br_elem : Elem Try.prog 32 46 3 24 := Elem.mk' Try.underlying32 br_info rfl (by omega)
/-- the breaches at event i, a load of cargo c -/
def audOne (ru : Rules) (tk : List Tr) (i c b : Nat) : List Br := if (forbT ru tk b c).1 = true then [⟨i, b, (forbT ru tk b c).2⟩] else []
def audK (ru : Rules) (tk : List Tr) (i c n : Nat) : List Br := (List.range n).flatMap (audOne ru tk i c)
def audAt (ru : Rules) (tk : List Tr) (i : Nat) (x : Ev) : List Br := if x.kind = 1 then audK ru tk i x.number.toNat ru.levels.length else []
def audL (ru : Rules) (l : List Ev) (n : Nat) : List Br := (List.range n).flatMap fun i => audAt ru (afterT ru (l.take i)) i (l.getD i ev0)
def audE (ru : Rules) (l : List Ev) : List Br := if refE ru l = 0 then audL ru l l.length else []
theorem audK_zero {ru : Rules} {tk : List Tr} {i c : Nat} : audK ru tk i c 0 = [] := rfl
theorem audAt_wash {ru : Rules} {tk : List Tr} {i : Nat} {x : Ev} (h : ¬x.kind = 1) : audAt ru tk i x = [] := if_neg h
theorem range_flat {α : Type} {f : Nat → List α} {n : Nat} : (List.range (n + 1)).flatMap f = (List.range n).flatMap f ++ f n := by rw [List.range_succ, List.flatMap_append]; simp
theorem audK_succ {ru : Rules} {tk : List Tr} {i c n : Nat} : audK ru tk i c (n + 1) = audK ru tk i c n ++ audOne ru tk i c n := range_flat
theorem audL_succ {ru : Rules} {l : List Ev} {n : Nat} : audL ru l (n + 1) = audL ru l n ++ audAt ru (afterT ru (l.take n)) n (l.getD n ev0) := range_flat
theorem audOne_len {ru : Rules} {tk : List Tr} {i c b : Nat} : (audOne ru tk i c b).length ≤ 1 := by unfold audOne; split <;> simp
theorem audK_len {ru : Rules} {tk : List Tr} {i c n : Nat} : (audK ru tk i c n).length ≤ n := by
 induction n with
 | zero => simp [audK]
 | succ n ih => rw [audK_succ, List.length_append]; have := audOne_len (ru := ru) (tk := tk) (i := i) (c := c) (b := n); omega
theorem audAt_len {ru : Rules} {tk : List Tr} {i : Nat} {x : Ev} : (audAt ru tk i x).length ≤ ru.levels.length := by
 unfold audAt
 split
 ·exact audK_len
 ·simp
theorem audL_len {ru : Rules} {l : List Ev} {n : Nat} : (audL ru l n).length ≤ n * ru.levels.length := by
 induction n with
 | zero => simp [audL]
 | succ n ih => rw [audL_succ, List.length_append, Nat.succ_mul]; have := audAt_len (ru := ru) (tk := afterT ru (l.take n)) (i := n) (x := l.getD n ev0); omega
/-- the number of what is handed -/
theorem pre_num {pre : List It} {x : It} {n i : Nat} (h : (pre ++ [x]).map (·.1) <+: allE n) (hx : x.1 = [((i : Nat) : Int)]) : i < n ∧ pre.length = i := by
 have h1 := h.length_le;have h2 := h.getElem (i := pre.length) (by simp)
 simp only [allE, List.length_map, List.length_append, List.length_cons, List.length_nil, List.length_range] at h1
 simp [allE, hx] at h2
 omega
theorem blk_two {w : World} {g T T' : Nat} {cs cs' : Array Value} (h : Blk w g T cs) (h2 : Blk w g T' cs') (hT : ¬T = T') : False := by
 unfold Blk at h h2
 rw [h] at h2
 injection h2 with h2
 injection h2 with _ h3
 exact hT h3
set_option maxHeartbeats 2000000 in
theorem Audit_any {ru : Rules} {ua up : List Value} {vl va vp vk : Value} {w : World} {B : Nat} (hr : RdRules w B vl va vp vk ru ua up) (hB : B ≤ w.heap.size) (hs : Short ru) {l : List Ev} {v : Value} (hl : Rd w B 2 v l.length (evsC l)) (hn : l.length ≤ 1048576) :
  Calls Try.prog 13 #[rulesV vl va vp vk ru, v] w fun e w' => (∃ u, e = .returned (.tuple #[u, .int .i64 (refE ru l)]) ∧ w'.ownsRow w.heap.size 46 3 u (audE ru l).length (brsC (audE ru l))) ∧ Below w.heap.size w w' := by
 obtain ⟨Al, cl, Aa, ca, Ap, cp, Ak, ck, rfl, rfl, rfl, rfl⟩ := hr.sh4;obtain ⟨Ae, ce, rfl, _⟩ := hl.shape;have hbw := Below.refl w.heap.size w
 unfold rulesV
 refine EC.marks 58 Try.func13 rfl rfl rfl (ECI.out (EC.seq (EC.region (EL.newP (bx_28 rfl) rfl ?_))));intro g1 w1 q1 hb1 hg1 hl1;have bhbw_1 := Nat.le_trans hbw.size hg1;replace hbw := bo_ hbw hb1;clear hb1 hg1 hl1;refine EL.newP al_32 rfl ?_;intro g2 w2 q2 hb2 hg2 hl2;have n1_2 := q1.na hg2;have bhbw_2 := Nat.le_trans hbw.size hg2;replace q1 := q1.bl hb2;replace hbw := bo_ hbw hb2;clear hb2 hg2 hl2;refine EL.as rfl rfl (EL.nil (EX.seq (EC.seq (EC.region (EL.val (ld_28 rfl (q1.at (j := 0) rfl) (q1.at (j := 1) rfl) (q1.at (j := 2) rfl) (q1.at (j := 3) rfl) (q1.at (j := 4) rfl) (q1.at (j := 5) rfl)) rfl (EL.mv rfl rfl (EL.call (cA2 cF48 rfl rfl) rfl (after_any (hr.below (hbw.mono hB)) (Nat.le_trans hB hbw.size) hs (hl.below (hbw.mono hB)) hn) ?_)))))))
 rintro e w3 ⟨rfl, hc3⟩
 refine ⟨_, rfl, ?_⟩;replace q1 := q1.bl hc3;replace q2 := q2.bl hc3;replace hbw := bo_ hbw hc3;clear hc3;refine EL.mv rfl rfl (EL.xt rfl rfl rfl (EL.xt rfl rfl rfl (EL.xt rfl rfl rfl (EL.newP al_116 rfl ?_))));intro g4 w4 q4 hb4 hg4 hl4;have n1_4 := q1.na hg4;have n2_4 := q2.na hg4;have bhbw_4 := Nat.le_trans hbw.size hg4;replace q1 := q1.bl hb4;replace q2 := q2.bl hb4;replace hbw := bo_ hbw hb4;clear hb4 hg4 hl4;refine EL.newP al_tank rfl ?_;intro g5 w5 q5 hb5 hg5 hl5;have n1_5 := q1.na hg5;have n2_5 := q2.na hg5;have n4_5 := q4.na hg5;have bhbw_5 := Nat.le_trans hbw.size hg5;replace q1 := q1.bl hb5;replace q2 := q2.bl hb5;replace q4 := q4.bl hb5;replace hbw := bo_ hbw hb5;clear hb5 hg5 hl5;refine EL.store rfl rfl q4 sz_116 rfl rfl rfl rfl ?_;intro w6 hq6 hg6;replace q1 := q1.gr hg6 n1_4;replace q2 := q2.gr hg6 n2_4;replace q5 := q5.gr hg6 n4_5.symm;replace hbw := below_store hbw hg6 bhbw_4;replace q4 := hq6;clear hg6 hq6;refine EL.store (l' := (tkC (tkE ru l))) rfl rfl q5 sz_120 rfl ((lenV_eq _).trans (tkC_8 (tkE_ok ru l).n8)) (by rw [lenV_eq, Nat.ble_eq]; exact Nat.le_of_eq ((tkC_8 tank0_ok.n8).symm)) (tkC_one _) ?_
 intro w7 hq7 hg7;rw [spl_whole ((tkC_8 (tkE_ok ru l).n8).trans (tkC_8 tank0_ok.n8).symm)] at hq7;replace q1 := q1.gr hg7 n1_5;replace q2 := q2.gr hg7 n2_5;replace q4 := q4.gr hg7 n4_5;replace hbw := below_store hbw hg7 bhbw_5;replace q5 := hq7;clear hg7 hq7;refine EL.as rfl rfl (EL.nil (EX.seq (EC.seq (EC.seq (EC.region (EL.mv rfl rfl ?_))))))
 by_cases hz : refE ru l = 0
 ·
  refine EL.val (x_neq (r := false) rfl rfl (decide_eq_false (fun h => h hz))) rfl ?_
  refine EL.nil (EX.seq (EC.no rfl (EC.skip (EX.seq (EC.seq (EC.seq (EC.region (EL.val (ld_116 rfl (q4.at (j := 0) rfl) (q4.at (j := 1) rfl) (q4.at (j := 2) rfl) (q4.at (j := 3) rfl) (q4.at (j := 4) rfl) (q4.at (j := 5) rfl)) rfl (EL.mv rfl rfl ?_)))))))));obtain ⟨hro, hv, hn100⟩ := ref_ok hz;have hn8 := hro.n8;refine EL.call (cA2 cF49 rfl rfl) rfl (each_fn _) ?_
  rintro e w8 ⟨⟨b1, b2, rfl, qb1, qb2, hb1, hb2⟩, hc8⟩
  refine ⟨_, rfl, ?_⟩;replace q1 := q1.bl hc8;replace q2 := q2.bl hc8;replace q4 := q4.bl hc8;replace q5 := q5.bl hc8;replace hbw := bo_ hbw hc8;clear hc8;refine EL.nil (EX.seq (EC.block ?_));have hsz := hbw.size;have hgb4 := bhbw_2;have hsoft : SoftI w.heap.size w8.heap.size [120, 50] (fun pre W => Blk W g1 28 #[.slice Al ru.levels.length cl, .int .i64 ru.fade.lo, .int .i64 ru.fade.hi, .slice Aa ru.allow.length ca, .slice Ap ru.apart.length cp, .slice Ak ru.kinds.length ck] ∧ Blk W g4 116 #[.slice Al ru.levels.length cl, .int .i64 ru.fade.lo, .int .i64 ru.fade.hi, .slice Aa ru.allow.length ca, .slice Ap ru.apart.length cp, .slice Ak ru.kinds.length ck] ∧ (∃ u, Blk W g2 32 #[u] ∧ W.ownsRow w.heap.size 46 3 u (audL ru l pre.length).length (brsC (audL ru l pre.length))) ∧ Below w.heap.size w W) := fun s A B' ⟨h1, h2, ⟨u, h3, h4⟩, h5⟩ hs => ⟨hs.blk h1 rfl, hs.blk h2 rfl, ⟨u, hs.blk h3 rfl, hs.row h4 rfl⟩, hs.below h5 h5.size hsz⟩
  refine EC.inn (k := 0) ?_;refine rangeFB (MT := 126) (cs := fun x => (momC (l.getD (x.1.getD 0 0).toNat ev0) (x.1.getD 0 0).toNat (afterT ru (l.take (x.1.getD 0 0).toNat))).toArray) (σ1 := fun x g => _) (ok := okM ru l) (n0 := w.heap.size) (S := [32, 46]) rfl (fun args w => by kernel_rfl) rfl (each_iter (hr.below (hbw.mono hB)) hro (hl.below (hbw.mono hB)) hv hn hB hbw.size ⟨rfl, rfl, rfl, rfl⟩ qb1 qb2) hbw.size (fun pre W => Blk W g1 28 #[.slice Al ru.levels.length cl, .int .i64 ru.fade.lo, .int .i64 ru.fade.hi, .slice Aa ru.allow.length ca, .slice Ap ru.apart.length cp, .slice Ak ru.kinds.length ck] ∧ Blk W g4 116 #[.slice Al ru.levels.length cl, .int .i64 ru.fade.lo, .int .i64 ru.fade.hi, .slice Aa ru.allow.length ca, .slice Ap ru.apart.length cp, .slice Ak ru.kinds.length ck] ∧ (∃ u, Blk W g2 32 #[u] ∧ W.ownsRow w.heap.size 46 3 u (audL ru l pre.length).length (brsC (audL ru l pre.length))) ∧ Below w.heap.size w W) (fun _ _ => False) hsoft soft_false ⟨q1, q4, ⟨_, q2, World.ownsRow_nil _ _ _ _⟩, hbw⟩ (fun _ _ _ _ h _ _ => h) (fun _ _ _ h _ => h) (assignM hro rfl rfl) ?_ ?_ ?_
  ·rintro la pre x g8 W hpf ⟨i, ei, ev_⟩ ⟨q2, q6, ⟨u, q4, ho⟩, hbw⟩ q8 hg8 hWs
   obtain ⟨hil, hpl⟩ := pre_num hpf ei;have ei2 : (x.1.getD 0 0).toNat = i := by rw [ei]; exact Int.toNat_natCast i
   rw [ei2] at q8;obtain ⟨Au, cu, rfl, _⟩ := (Rd.of_own ho).shape;rw [hpl] at ho q4;have haul2 : i * ru.levels.length ≤ 100 * 8 := Nat.mul_le_mul (by omega) hn8
   have hkp := Kp.refl w.heap.size [32, 46] W;have hkf := KeepsFrom.refl w8.heap.size W;have htk := afterT_ok hro (l.take i);have haul := audL_len (ru := ru) (l := l) (n := i);obtain ⟨tk, etk⟩ : ∃ z, z = afterT ru (l.take i) := ⟨_, rfl⟩;rw [← etk] at q8 htk;have hnx : audL ru l (i + 1) = audL ru l i ++ audAt ru tk i (l.getD i ev0) := by rw [etk]; exact audL_succ
   have hbb_1 := bhbw_1;have hbb_4 := bhbw_4;have hbb_2 := bhbw_2;have nm_1 : g1 ≠ g8 := fun e => by subst e; exact blk_two q2 q8 (by decide)
   have nm_4 : g4 ≠ g8 := fun e => by subst e; exact blk_two q6 q8 (by decide)
   have nm_2 : g2 ≠ g8 := fun e => by subst e; exact blk_two q4 q8 (by decide)
   rcases ev_at hv hil with ⟨hk2, k, ek, hk⟩ | ⟨hk1, k, ek, hk⟩
   ·
    have hk1 : ¬(l.getD i ev0).kind = 1 := by omega
    refine ECI.block (ECI.seq ?_);refine ECI.regionL (by repeat (first | exact lets_body | exact lets_no | refine lets_then ?_ | refine lets_blk ?_)) (by kernel_rfl) ?_
    refine EL.val (fa_28_0 rfl) rfl (EL.val (ld_22 rfl (q2.at (j := 0) rfl)) rfl (EL.val (ln_22 rfl) rfl (EL.mv rfl rfl (EL.nil (EX.toI (EXI.seq (ECI.block ?_)))))));refine ECI.loopB [9, 10, 11, 29, 30, 31, 32, 33, 34, 35, 36, 37, 38, 39, 40, 41, 42, 43, 44, 45, 46, 47, 48, 49, 50, 51, 52, 53, 54, 55, 56] (fun x : Nat => [(29, .int .i64 (x : Nat))]) (fun x W1 => x ≤ 0 ∧ Blk W1 g1 28 #[.slice Al ru.levels.length cl, .int .i64 ru.fade.lo, .int .i64 ru.fade.hi, .slice Aa ru.allow.length ca, .slice Ap ru.apart.length cp, .slice Ak ru.kinds.length ck] ∧ Blk W1 g4 116 #[.slice Al ru.levels.length cl, .int .i64 ru.fade.lo, .int .i64 ru.fade.hi, .slice Aa ru.allow.length ca, .slice Ap ru.apart.length cp, .slice Ak ru.kinds.length ck] ∧ Blk W1 g8 126 (momC (l.getD i ev0) i tk).toArray ∧ (∃ u, Blk W1 g2 32 #[u] ∧ W1.ownsRow w.heap.size 46 3 u (audL ru l i).length (brsC (audL ru l i))) ∧ Below w.heap.size w W1 ∧ Kp w.heap.size [32, 46] W W1 ∧ KeepsFrom w8.heap.size W W1) (fun x => ru.levels.length - x) 0 ⟨Nat.zero_le _, q2, q6, q8, ⟨_, q4, ho⟩, hbw, hkp, hkf⟩ ⟨rfl, trivial⟩ ?_
    clear q2 q6 q8 q4 ho hbw hkp hkf
    rintro x wx ⟨hx, q2, q6, q8, ⟨u, q4, ho⟩, hbw, hkp, hkf⟩
    obtain ⟨Au, cu, rfl, _⟩ := (Rd.of_own ho).shape;have hx0 : x = 0 := by omega
    subst hx0;have hlt : 0 < ru.levels.length := hro.n1
    ·
     refine ECI.seq ?_;refine ECI.regionL (by repeat (first | exact lets_body | exact lets_no | refine lets_then ?_ | refine lets_blk ?_)) (by kernel_rfl) ?_
     refine EL.val (x_lss rfl rfl (decide_eq_true (show (((0 : Nat) : Nat) : Int) < ((ru.levels.length : Nat) : Int) by omega))) rfl ?_
     refine EL.nil (EX.toI (EXI.seq (ECI.seq (ECI.yes rfl (ECI.skip (EXI.seq (ECI.seq (ECI.block (ECI.seq ?_)))))))));refine ECI.regionL (by repeat (first | exact lets_body | exact lets_no | refine lets_then ?_ | refine lets_blk ?_)) (by kernel_rfl) ?_
     refine EL.mv rfl rfl (EL.as rfl rfl (EL.nil (EX.toI (EXI.seq (ECI.seq (ECI.seq ?_))))));refine ECI.regionL (by repeat (first | exact lets_body | exact lets_no | refine lets_then ?_ | refine lets_blk ?_)) (by kernel_rfl) ?_
     refine EL.val (fa_126_0 rfl) rfl (EL.val (fa_50_0 rfl) rfl (EL.val (ld_48 rfl (q8.at (j := 0) rfl)) rfl (EL.val (x_neq (r := true) rfl rfl (decide_eq_true hk1)) rfl (EL.nil (EX.toI (EXI.seq (ECI.yes rfl (ECI.exit (EXI.seq_exit ?_)))))))));refine EXI.blk_other rfl (EXI.seq_exit (EXI.seq_exit (EXI.blk_here (EXI.blk ?_))))
     exact fun a0 ha0 => ⟨hkf, hkp, .inl ⟨rfl, q2, q6, ⟨_, q4, by rw [show audL ru l (pre ++ [x]).length = audL ru l i from by rw [List.length_append, List.length_singleton, hpl, hnx, audAt_wash hk1, List.append_nil]]; exact ho⟩, hbw⟩⟩
   ·
    have hat : audAt ru tk i (l.getD i ev0) = audK ru tk i k ru.levels.length := by rw [audAt, if_pos hk1, ek, Int.toNat_natCast]
    refine ECI.block (ECI.seq ?_);refine ECI.regionL (by repeat (first | exact lets_body | exact lets_no | refine lets_then ?_ | refine lets_blk ?_)) (by kernel_rfl) ?_
    refine EL.val (fa_28_0 rfl) rfl (EL.val (ld_22 rfl (q2.at (j := 0) rfl)) rfl (EL.val (ln_22 rfl) rfl (EL.mv rfl rfl (EL.nil (EX.toI (EXI.seq (ECI.block ?_)))))));refine ECI.loopB [9, 10, 11, 29, 30, 31, 32, 33, 34, 35, 36, 37, 38, 39, 40, 41, 42, 43, 44, 45, 46, 47, 48, 49, 50, 51, 52, 53, 54, 55, 56] (fun x : Nat => [(29, .int .i64 (x : Nat))]) (fun x W1 => x ≤ ru.levels.length ∧ Blk W1 g1 28 #[.slice Al ru.levels.length cl, .int .i64 ru.fade.lo, .int .i64 ru.fade.hi, .slice Aa ru.allow.length ca, .slice Ap ru.apart.length cp, .slice Ak ru.kinds.length ck] ∧ Blk W1 g4 116 #[.slice Al ru.levels.length cl, .int .i64 ru.fade.lo, .int .i64 ru.fade.hi, .slice Aa ru.allow.length ca, .slice Ap ru.apart.length cp, .slice Ak ru.kinds.length ck] ∧ Blk W1 g8 126 (momC (l.getD i ev0) i tk).toArray ∧ (∃ u, Blk W1 g2 32 #[u] ∧ W1.ownsRow w.heap.size 46 3 u (audL ru l i ++ audK ru tk i k x).length (brsC (audL ru l i ++ audK ru tk i k x))) ∧ Below w.heap.size w W1 ∧ Kp w.heap.size [32, 46] W W1 ∧ KeepsFrom w8.heap.size W W1) (fun x => ru.levels.length - x) 0 ⟨Nat.zero_le _, q2, q6, q8, ⟨_, q4, by rw [audK_zero, List.append_nil]; exact ho⟩, hbw, hkp, hkf⟩ ⟨rfl, trivial⟩ ?_
    clear q2 q6 q8 q4 ho hbw hkp hkf
    rintro x wx ⟨hx, q2, q6, q8, ⟨u, q4, ho⟩, hbw, hkp, hkf⟩
    obtain ⟨Au, cu, rfl, _⟩ := (Rd.of_own ho).shape
    by_cases hlt : x < ru.levels.length
    ·
     refine ECI.seq ?_;refine ECI.regionL (by repeat (first | exact lets_body | exact lets_no | refine lets_then ?_ | refine lets_blk ?_)) (by kernel_rfl) ?_
     refine EL.val (x_lss rfl rfl (decide_eq_true (show (((x : Nat) : Int) < ((ru.levels.length : Nat) : Int)) by omega))) rfl ?_
     refine EL.nil (EX.toI (EXI.seq (ECI.seq (ECI.yes rfl (ECI.skip (EXI.seq (ECI.seq (ECI.block (ECI.seq ?_)))))))));refine ECI.regionL (by repeat (first | exact lets_body | exact lets_no | refine lets_then ?_ | refine lets_blk ?_)) (by kernel_rfl) ?_
     refine EL.mv rfl rfl (EL.as rfl rfl (EL.nil (EX.toI (EXI.seq (ECI.seq (ECI.seq ?_))))));refine ECI.regionL (by repeat (first | exact lets_body | exact lets_no | refine lets_then ?_ | refine lets_blk ?_)) (by kernel_rfl) ?_
     refine EL.val (fa_126_0 rfl) rfl (EL.val (fa_50_0 rfl) rfl (EL.val (ld_48 rfl (q8.at (j := 0) rfl)) rfl ?_));refine EL.val (x_neq (r := false) rfl rfl (decide_eq_false (fun h => h hk1))) rfl ?_
     refine EL.nil (EX.toI (EXI.seq (ECI.no rfl (ECI.skip (EXI.seq (ECI.seq ?_))))));refine ECI.regionL (by repeat (first | exact lets_body | exact lets_no | refine lets_then ?_ | refine lets_blk ?_)) (by kernel_rfl) ?_
     refine EL.val (ld_116 rfl (q6.at (j := 0) rfl) (q6.at (j := 1) rfl) (q6.at (j := 2) rfl) (q6.at (j := 3) rfl) (q6.at (j := 4) rfl) (q6.at (j := 5) rfl)) rfl (EL.val (fa_126_2 rfl) rfl (EL.val (x_loadA rfl (q8.range (mom_tk _ _ _)) Try.underlying120 rfl (sz_120.trans (congrArg some (tkC_8 htk.n8).symm))) rfl (EL.mv rfl rfl (EL.val (fa_126_0 rfl) rfl (EL.val (fa_50_1 rfl) rfl (EL.val (ld_3 rfl (q8.at (j := 1) rfl)) rfl ?_))))));have hcall := forbids_any (b := x) (c := k) (hr.below (hbw.mono hB)) hro htk hlt hk;rw [← ek] at hcall;refine EL.call (cA4 cF50 rfl rfl rfl rfl) rfl (hcall) ?_
     rintro e w9 ⟨rfl, hc9⟩
     refine ⟨_, rfl, ?_⟩;replace q2 := q2.bl hc9;replace q6 := q6.bl hc9;replace q4 := q4.bl hc9;replace q8 := q8.bl hc9;replace hkp := hkp.trans (Kp.of_below hc9 hbw.size);replace hkf := hkf.trans (KeepsFrom.below hc9);replace ho := own_below ho hc9 (Nat.le_refl _);replace hbw := bo_ hbw hc9;clear hc9;refine EL.mv rfl rfl (EL.xt rfl rfl rfl (EL.xt rfl rfl rfl (EL.as rfl rfl (EL.as rfl rfl (EL.nil (EX.toI (EXI.seq (ECI.seq ?_))))))));refine ECI.regionL (by repeat (first | exact lets_body | exact lets_no | refine lets_then ?_ | refine lets_blk ?_)) (by kernel_rfl) ?_
     refine EL.mv rfl rfl (EL.nil (EX.toI (EXI.seq ?_)))
     cases hfb : (forbT ru tk x k).1
     ·
      have hfo : audOne ru tk i k x = [] := by unfold audOne; rw [if_neg (by rw [hfb]; decide)]
      refine ECI.no rfl (ECI.skip (EXI.blk (EXI.seq ?_)));refine ECI.regionL (by repeat (first | exact lets_body | exact lets_no | refine lets_then ?_ | refine lets_blk ?_)) (by kernel_rfl) ?_
      refine EL.val (x_add rfl rfl (c := ((x + 1 : Nat) : Int)) ((IntWalk.i64_in _ ⟨by first | omega | (simp only; omega), by first | omega | (simp only; omega)⟩).trans (by first | omega | (simp only; omega)))) rfl ?_
      refine EL.mv rfl rfl (EL.nil (EX.toI ?_));refine EXI.roundB (x + 1) ⟨rfl, trivial⟩ (by repeat first | with_reducible exact .refl _ | refine sp_ rfl ?_ | exact .refl _ | refine sd_ rfl ?_ | refine sn_ ?_) ⟨hlt, q2, q6, q8, ⟨_, q4, by rw [audK_succ, hfo, List.append_nil]; exact ho⟩, hbw, hkp, hkf⟩ (by omega)
     ·
      have hfo : audOne ru tk i k x = [⟨i, x, (forbT ru tk x k).2⟩] := by unfold audOne; rw [if_pos hfb]
      refine ECI.yes rfl ?_;refine ECI.regionL (by repeat (first | exact lets_body | exact lets_no | refine lets_then ?_ | refine lets_blk ?_)) (by kernel_rfl) ?_
      refine EL.val (ld_32 rfl (q4.at (j := 0) rfl)) rfl (EL.val (fa_126_1 rfl) rfl (EL.val (ld_3 rfl (q8.at (j := 2) rfl)) rfl (EL.mv rfl rfl (EL.mv rfl rfl (EL.val (bd_46_0_1_2 rfl rfl rfl) rfl (EL.newS (bs_32_1 rfl) rfl ?_))))));intro g10 w10 q10 hb10 hg10 hl10;have n1_10 := q2.na hg10;have n4_10 := q6.na hg10;have n2_10 := q4.na hg10;have nm_10 := q8.na hg10;have bhbw_10 := Nat.le_trans hbw.size hg10;replace q2 := q2.bl hb10;replace q6 := q6.bl hb10;replace q4 := q4.bl hb10;replace q8 := q8.bl hb10;replace hkp := hkp.trans (Kp.of_below hb10 hbw.size);replace hkf := hkf.trans (KeepsFrom.below hb10);replace ho := own_below ho hb10 (Nat.le_refl _);replace hbw := bo_ hbw hb10;clear hb10 hg10 hl10;refine EL.push br_elem rfl rfl ho (rd_one (l := [.int .i64 (i : Nat), .int .i64 (x : Nat), .bool (forbT ru tk x k).2]) q10 rfl) (by intro u hu; simp only [List.mem_cons, List.not_mem_nil, or_false] at hu; rcases hu with rfl | rfl | rfl <;> rfl) (by have := audK_len (ru := ru) (tk := tk) (i := i) (c := k) (n := x); rw [List.length_append]; omega) rfl hbw.size rfl ?_
      intro v11 w11 ho2 hgr hb_ hat;replace q2 := blk_grown q2 ho rfl hgr;replace q6 := blk_grown q6 ho rfl hgr;replace q4 := blk_grown q4 ho rfl hgr;replace q8 := blk_grown q8 ho rfl hgr;replace hkp := hkp.trans (Kp.own ho rfl (Nat.le_refl _) hbw.size hgr);replace hkf := hkf.trans (.of (keeps_own ho hgr));replace hbw := hbw.trans hb_;clear ho hgr hb_ hat;have ho := ho2;clear ho2;obtain ⟨Av, cv, rfl, _⟩ := (Rd.of_own ho).shape;refine EL.store rfl rfl q4 sz_32 rfl rfl rfl rfl ?_;intro w12 hq12 hg12;replace q2 := q2.gr hg12 n1_2;replace q6 := q6.gr hg12 n2_4.symm;replace q8 := q8.gr hg12 nm_2.symm;replace hkp := hkp.trans (Kp.grown q4 rfl bhbw_2 hg12);replace hkf := hkf.trans (.of (keeps_blk q4 hg12));replace ho := own_type ho q4 rfl hg12;replace hbw := below_store hbw hg12 bhbw_2;replace q4 := hq12;clear hg12 hq12;refine EL.nil (EX.toI (EXI.blk (EXI.seq ?_)));refine ECI.regionL (by repeat (first | exact lets_body | exact lets_no | refine lets_then ?_ | refine lets_blk ?_)) (by kernel_rfl) ?_
      refine EL.val (x_add rfl rfl (c := ((x + 1 : Nat) : Int)) ((IntWalk.i64_in _ ⟨by first | omega | (simp only; omega), by first | omega | (simp only; omega)⟩).trans (by first | omega | (simp only; omega)))) rfl ?_
      refine EL.mv rfl rfl (EL.nil (EX.toI ?_));refine EXI.roundB (x + 1) ⟨rfl, trivial⟩ (by repeat first | with_reducible exact .refl _ | refine sp_ rfl ?_ | exact .refl _ | refine sd_ rfl ?_ | refine sn_ ?_) ⟨hlt, q2, q6, q8, ⟨_, q4, own_cast ho (by rw [audK_succ, hfo]; simp only [List.length_append, List.length_singleton]; omega) (by rw [audK_succ, hfo]; simp only [brsC_app, List.append_assoc]; rfl)⟩, hbw, hkp, hkf⟩ (by omega)
    ·
     have hxe : x = ru.levels.length := by omega
     subst hxe;refine ECI.seq ?_;refine ECI.regionL (by repeat (first | exact lets_body | exact lets_no | refine lets_then ?_ | refine lets_blk ?_)) (by kernel_rfl) ?_
     refine EL.val (x_lss rfl rfl (decide_eq_false (show ¬(((ru.levels.length : Nat) : Int) < ((ru.levels.length : Nat) : Int)) by omega))) rfl ?_
     refine EL.nil (EX.toI (EXI.seq (ECI.seq (ECI.no rfl (ECI.exit (EXI.seq_exit (EXI.seq_exit (EXI.blk_here (EXI.blk ?_)))))))))
     exact fun a0 ha0 => ⟨hkf, hkp, .inl ⟨rfl, q2, q6, ⟨_, q4, by rw [show audL ru l (pre ++ [x]).length = audL ru l i ++ audK ru tk i k ru.levels.length from by rw [List.length_append, List.length_singleton, hpl, hnx, hat]]; exact ho⟩, hbw⟩⟩
  ·rintro D xs W hD hall ⟨q2, q6, ⟨u, q4, ho⟩, hbw⟩ hkp hdef
   obtain ⟨Au, cu, rfl, _⟩ := (Rd.of_own ho).shape;have hxl : xs.length = l.length := by have := congrArg List.length hall; simpa [allE] using this
   rw [hxl] at ho q4;have hdm : Marks w.heap.size [{ target := .collected D, args := #[] }] W := fun d hd => ⟨D, Nat.le_trans hsz hD, List.mem_singleton.1 hd, hdef⟩
   refine EXI.blk (EXI.seqw (ECI.seq (ECI.regionLD (EL.val (ld_32 rfl (q4.at (j := 0) rfl)) rfl (EL.store rfl rfl q4 sz_32 rfl rfl rfl rfl ?_)))));intro w13 hq13 hg13;replace ho := own_type ho q4 rfl hg13;replace hdm := hdm.keeps (keeps_blk q4 hg13);replace hbw := below_store hbw hg13 bhbw_2;replace q4 := hq13;clear hg13 hq13;refine EL.as rfl rfl (EL.nil (EX.ofD (EXI.seq (ECI.ret ?_))))
   exact EXI.done hdm (by simp) (v := .tuple #[.slice Au (audL ru l l.length).length cu, .int .i64 0]) (fun w' ht => resct rfl rfl rfl (lv_32 ((ht.blk _ _ _ q4).at (j := 0) rfl))) (fun w' ht => ⟨⟨_, by rw [hz], by rw [audE, if_pos hz]; exact own_took ho ht⟩, hbw.trans ht.below⟩)
  ·intro D pre W hD hne hall h
   exact absurd h id
 ·
  refine EL.val (x_neq (r := true) rfl rfl (decide_eq_true hz)) rfl (EL.nil (EX.seq (EC.yes rfl (EC.seq (EC.region (EL.mv rfl rfl (EL.store rfl rfl q2 sz_32 rfl rfl rfl rfl ?_)))))));intro w14 hq14 hg14;replace q1 := q1.gr hg14 n1_2;replace q4 := q4.gr hg14 n2_4.symm;replace q5 := q5.gr hg14 n2_5.symm;replace hbw := below_store hbw hg14 bhbw_2;replace q2 := hq14;clear hg14 hq14;refine EL.as rfl rfl (EL.nil (EX.seq (EC.ret (EX.seq_ret ?_))))
  exact EX.doneM (resct rfl rfl rfl (lv_32 (q2.at (j := 0) rfl))) ⟨⟨_, rfl, by rw [audE, if_neg hz]; exact World.ownsRow_nil _ _ _ _⟩, hbw⟩
theorem ir_info : (Try.prog.info? 3).map (fun i => (i.zero, i.size, i.bytes)) = some (some (.int .i64 0), 1, 8) := by kernel_rfl
theorem ir_elem : Elem Try.prog 22 3 1 8 := Elem.mk' Try.underlying22 ir_info rfl (by omega)
theorem rr_info : (Try.prog.info? 22).map (fun i => (i.zero, i.size, i.bytes)) = some (some (.slice none 0 0), 1, 24) := by kernel_rfl
theorem rr_elem : Elem Try.prog 25 22 1 24 := Elem.mk' Try.underlying25 rr_info rfl (by omega)
/-- lists of integers of one's own; their blocks lie below C -/
structure OwnLL (W : World) (base C : Nat) (v : Value) (ls : List (List Int)) (us : List Value) : Prop where
 len : us.length = ls.length
 own : W.ownsRow base 22 1 v ls.length us
 rows : ∀ i, i < ls.length → W.ownsRow base 3 1 (us.getD i undef) (ls.getD i []).length (ints (ls.getD i []))
 ltv : ∀ b, v.ownBlock = some b → b < C
 ltr : ∀ i b, i < ls.length → (us.getD i undef).ownBlock = some b → b < C
section
variable {W W' : World} {base C : Nat} {v : Value} {ls : List (List Int)} {us : List Value}
theorem OwnLL.nil : OwnLL W base C (.slice none 0 0) [] [] := ⟨rfl, World.ownsRow_nil _ _ _ _, fun i hi => absurd hi (by simp), (fun b hb => by cases hb), fun i b hi => absurd hi (by simp)⟩
theorem OwnLL.keep {W' : World} (h : OwnLL W base C v ls us) (hk : ∀ (e n : Nat) (u : Value) (xs : List Value), (∀ b, u.ownBlock = some b → b < C) → W.ownsRow base e 1 u n xs → W'.ownsRow base e 1 u n xs) : OwnLL W' base C v ls us :=
 ⟨h.len, hk _ _ _ _ h.ltv h.own, fun i hi => hk _ _ _ _ (fun b => h.ltr i b hi) (h.rows i hi), h.ltv, h.ltr⟩
theorem OwnLL.below (h : OwnLL W base C v ls us) (hb : Below W.heap.size W W') : OwnLL W' base C v ls us := h.keep fun _ _ _ _ _ ho => own_below ho hb (Nat.le_refl _)
theorem OwnLL.raise (h : OwnLL W base C v ls us) : OwnLL W base W.heap.size v ls us := ⟨h.len, h.own, h.rows, fun b hb => (h.own.lt b hb).2, fun i b hi hb => ((h.rows i hi).lt b hb).2⟩
theorem OwnLL.more {D : Nat} (h : OwnLL W base C v ls us) (hC : C ≤ D) : OwnLL W base D v ls us := ⟨h.len, h.own, h.rows, fun b hb => Nat.lt_of_lt_of_le (h.ltv b hb) hC, fun i b hi hb => Nat.lt_of_lt_of_le (h.ltr i b hi hb) hC⟩
/-- a box of another type is written -/
theorem OwnLL.box {g T : Nat} {cs : Array Value} (h : OwnLL W base C v ls us) (hq : Blk W g T cs) (h1 : Nat.beq T 22 = false) (h2 : Nat.beq T 3 = false) (hg : W.grownBy W' (some g)) : OwnLL W' base C v ls us :=
 ⟨h.len, own_type h.own hq h1 hg, fun i hi => own_type (h.rows i hi) hq h2 hg, h.ltv, h.ltr⟩
/-- a row that is newer is written -/
theorem OwnLL.fresh {row : Option Nat} (h : OwnLL W base C v ls us) (hg : W.grownBy W' row) (hr : ∀ b, row = some b → C ≤ b) : OwnLL W' base C v ls us := h.keep fun _ _ u _ hl ho => ho.kept hg (by
 cases e : u.ownBlock with
 | none => exact .inl rfl
 | some b => exact .inr fun e2 => by have := hl b e; have := hr b e2.symm; omega)
/-- one list more -/
theorem OwnLL.push {v' u : Value} {l : List Int} (h : OwnLL W base C v ls us) (ho : W'.ownsRow base 22 1 v' (ls.length + 1) (us ++ [u])) (hg : W.grownBy W' v.ownBlock) (hu : W.ownsRow base 3 1 u l.length (ints l)) : OwnLL W' base W'.heap.size v' (ls ++ [l]) (us ++ [u]) := by
 have hrow : ∀ i, i < (ls ++ [l]).length → W'.ownsRow base 3 1 ((us ++ [u]).getD i undef) ((ls ++ [l]).getD i []).length (ints ((ls ++ [l]).getD i [])) := fun i hi => by
  have hi' : i < ls.length + 1 := by simpa using hi
  by_cases e : i < ls.length
  ·have e1 : (us ++ [u]).getD i undef = us.getD i undef := by simp [List.getD, List.getElem?_append_left, h.len, e]
   have e2 : (ls ++ [l]).getD i [] = ls.getD i [] := by simp [List.getD, List.getElem?_append_left, e]
   rw [e1, e2]
   exact own_grown (h.rows i e) h.own rfl hg
  ·have e0 : i = ls.length := by omega
   subst e0;have e1 : (us ++ [u]).getD ls.length undef = u := by simp [List.getD, ← h.len]
   have e2 : (ls ++ [l]).getD ls.length [] = l := by simp [List.getD]
   rw [e1, e2]
   exact own_grown hu h.own rfl hg
 exact ⟨by simp [h.len], by rw [List.length_append]; exact ho, hrow, fun b hb => (ho.lt b hb).2, fun i b hi hb => ((hrow i hi).lt b hb).2⟩
theorem OwnLL.rd (h : OwnLL W base C v ls us) : RdLL iC 1 W W.heap.size v ls us := ⟨h.len, Rd.of_own h.own, fun i hi => by rw [← ints_flat]; exact Rd.of_own (h.rows i hi)⟩
theorem OwnLL.less {base' : Nat} (h : OwnLL W base C v ls us) (hb : base' ≤ base) : OwnLL W base' C v ls us := ⟨h.len, own_less h.own hb, fun i hi => own_less (h.rows i hi) hb, h.ltv, h.ltr⟩
theorem OwnLL.took {n0 : Nat} (h : OwnLL W base C v ls us) (ht : Took n0 W W') : OwnLL W' base C v ls us := h.keep fun _ _ _ _ _ ho => own_took ho ht
end
theorem OwnLL.soft {b m C base : Nat} {U : List Nat} {W W' : World} {v : Value} {ls : List (List Int)} {us : List Value} (h : OwnLL W base C v ls us) (hs : Soft b m U W W') (h1 : memB U 22 = false) (h2 : memB U 3 = false) : OwnLL W' base C v ls us :=
 ⟨h.len, hs.row h.own h1, fun i hi => hs.row (h.rows i hi) h2, h.ltv, h.ltr⟩
section
variable {A B : World} {n0 : Nat} {S gs : List Nat}
theorem touch_others (hT : Touch A B gs) (h : ∀ g ∈ gs, ∃ T cs, Blk A g T cs) : KeepsOthers A B := ⟨hT.size, fun j o hj hc => (hT.block j (Array.getElem?_eq_some_iff.1 hj).1 fun hm => by
 obtain ⟨T, cs, hq⟩ := h j hm
 unfold Blk at hq
 rw [hj] at hq
 injection hq with hq
 subst hq
 cases hc).trans hj⟩
theorem touch_kp (hT : Touch A B gs) (h : ∀ g ∈ gs, n0 ≤ g ∧ ∃ T cs, memB S T = true ∧ Blk A g T cs) (hn : n0 ≤ A.heap.size) : Kp n0 S A B :=
 ⟨hT.os, hT.tape, hT.output, hT.size, fun k hk => hT.block k (by omega) fun hm => by have := (h k hm).1; omega, fun g T cs hq hS => hq.touch hT fun hm => by
  obtain ⟨_, T', cs', h1, h2⟩ := h g hm
  unfold Blk at hq h2
  rw [hq] at h2
  injection h2 with h2
  injection h2 with _ h3
  rw [← h3, hS] at h1
  cases h1⟩
end
section
variable {P : Program} {n : Nat} {σ : Sg} {w : World}
theorem resc3t {fn : Func} {c1 c2 c3 s : Tmp} {t1 t2 t3 : TypeId} {p1 p2 p3 : Addr} {v1 v2 v3 u : Value} (h : fn.results = #[.cell c1 t1, .cell c2 t2, .cell c3 t3, .tmp s]) (hc1 : σ c1 = some (.pointer (some p1))) (hc2 : σ c2 = some (.pointer (some p2))) (hc3 : σ c3 = some (.pointer (some p3))) (hs : σ s = some u) (hl1 : (loadVar t1 p1).run P w = .ok v1 w) (hl2 : (loadVar t2 p2).run P w = .ok v2 w) (hl3 : (loadVar t3 p3).run P w = .ok v3 w) (a : Act) (ha : Env n σ a) : (results fn a.tmps).run P w = .ok (.tuple #[v1, v2, v3, u]) w := by
 have h1 : a.tmps.getD c1 undef = .pointer (some p1) := ha.eval (x := .tmp c1) hc1;have h2 : a.tmps.getD c2 undef = .pointer (some p2) := ha.eval (x := .tmp c2) hc2;have h3 : a.tmps.getD c3 undef = .pointer (some p3) := ha.eval (x := .tmp c3) hc3;have h4 : a.tmps.getD s undef = u := ha.eval (x := .tmp s) hs;rw [Array.getD_eq_getD_getElem?] at h1 h2 h3 h4
 simp [results, h, h1, h2, h3, h4, asAddr, hl1, hl2, hl3]
end
section
variable {n : Nat} {σ : Sg} {w : World} {dst : Option Tmp} {ty : TypeId} {pos : String} {af : Array Edge} {g : Option (Nat × Bool)} {x y z : Operand} {at' : Array TypeId}
theorem mf_79_0_2 {x0 x1 : Operand} {v0 v1 : Value} (h0 : evS σ x0 = some v0) (h1 : evS σ x1 = some v1) : Gives Try.prog n σ w ⟨dst, .makeFunc (.func 79) #[] #[x0, x1], ty, pos, af, g⟩ (.func (.func 79) #[] #[v0, v1]) := fun a ha => by
 simp only [execOp, List.map_toArray, List.map_cons, List.map_nil, ha.eval h0, ha.eval h1]
 simp [go_sem]
theorem bx_162 {v0 : Value} (hx : evS σ x = some (v0)) (h1 : v0.oneCell' = true) (a : Act) (ha : Env n σ a) : (execOp a.eval ⟨dst, .box 162 x, ty, pos, af, g⟩).run Try.prog w = .ok (.value (.pointer (some ⟨w.heap.size, 0, none⟩))) (w.alloc (.cells #[v0] 162)) := by
 simp only [execOp, ha.eval hx]
 cases v0 <;> first | (simp [Value.oneCell'] at h1; done) | simp [go_sem, Value.cells]
theorem ld_162 {b o : Nat} {v0 : Value} (hx : evS σ x = some (.pointer (some ⟨b, o, none⟩))) (c0 : w.cell? ⟨b, o, none⟩ = some v0) : Gives Try.prog n σ w ⟨dst, .load 162 x, ty, pos, af, g⟩ (v0) := fun a ha => by
 simp only [execOp, ha.eval hx]
 simp [go_sem, c0]
theorem al_25 (a : Act) (_ : Env n σ a) : (execOp a.eval ⟨dst, .alloc 25, ty, pos, af, g⟩).run Try.prog w = .ok (.value (.pointer (some ⟨w.heap.size, 0, none⟩))) (w.alloc (.cells #[.slice none 0 0] 25)) := by
 simp only [execOp]
 simp [go_sem]
theorem cF52 : cF 52 := fun _ _ => by simp [go_sem]
theorem bs_25_1 {x0 : Operand} {A0 : Option Addr} {m0 c0 : Nat} (h0 : evS σ x0 = some (.slice A0 m0 c0)) (a : Act) (ha : Env n σ a) : (execOp a.eval ⟨dst, .buildSlice 25 1 #[(0, x0)], ty, pos, af, g⟩).run Try.prog w = .ok (.value (.slice (some ⟨w.heap.size, 0, none⟩) 1 1)) (w.alloc (.cells #[.slice A0 m0 c0] 22)) := by
 simp only [execOp, List.map_toArray, List.map_cons, List.map_nil, ha.eval h0]
 go_simp
theorem sz_25 : (Try.prog.info? 25).map (·.size) = some 1 := by kernel_rfl
theorem lv_25 {b o : Nat} {v0 : Value} (c0 : w.cell? ⟨b, o, none⟩ = some v0) : (loadVar 25 ⟨b, o, none⟩).run Try.prog w = .ok (v0) w := by
 simp [go_sem, loadVar, c0]
end
theorem washes_fn {v0 v3 v4 v5 : Value} {z1 z2 : Value} {A : Option Addr} {n c : Nat} (w : World) : Calls Try.prog 52 #[.agg #[v0, z1, z2, v3, v4, v5], .slice A n c] w fun e w' => (∃ b1 b2, e = .returned (.func (.func 79) #[] #[.pointer (some ⟨b1, 0, none⟩), .pointer (some ⟨b2, 0, none⟩)]) ∧ Blk w' b1 116 #[v0, z1, z2, v3, v4, v5] ∧ Blk w' b2 29 #[.slice A n c] ∧ w.heap.size ≤ b1 ∧ w.heap.size ≤ b2) ∧ Below w.heap.size w w' := by
 have hbw := Below.refl w.heap.size w;refine EC.enter 6 Try.func52 rfl rfl rfl (EC.seq (EC.region (EL.newP (bx_116 rfl) rfl ?_)));intro g1 w1 q1 hb1 hg1 hl1;have bhbw_1 := Nat.le_trans hbw.size hg1;replace hbw := bo_ hbw hb1;clear hb1 hg1 hl1;refine EL.newP (bx_29 rfl rfl) rfl ?_;intro g2 w2 q2 hb2 hg2 hl2;have n1_2 := q1.na hg2;have bhbw_2 := Nat.le_trans hbw.size hg2;replace q1 := q1.bl hb2;replace hbw := bo_ hbw hb2;clear hb2 hg2 hl2;refine EL.as rfl rfl (EL.nil (EX.seq (EC.seq (EC.region (EL.val (mf_79_0_2 rfl rfl) rfl (EL.as rfl rfl (EL.nil (EX.seq (EC.ret ?_)))))))))
 exact EX.done (res1 rfl rfl) ⟨⟨_, _, rfl, q1, q2, bhbw_1, bhbw_2⟩, hbw⟩
/-- the numbers of the cleanings -/
def wsL (l : List Ev) (n : Nat) : List Nat := (List.range n).filter fun i => decide ((l.getD i ev0).kind = 2)
def allW (l : List Ev) (n : Nat) : List (List Int) := (wsL l n).map fun i => [((i : Nat) : Int)]
theorem wsL_succ {l : List Ev} {n : Nat} : wsL l (n + 1) = wsL l n ++ if (l.getD n ev0).kind = 2 then [n] else [] := by
 unfold wsL
 rw [List.range_succ, List.filter_append]
 by_cases h : (l.getD n ev0).kind = 2
 ·rw [if_pos h]
  congr 1
  exact List.filter_cons_of_pos (p := fun i => decide ((l.getD i ev0).kind = 2)) (l := []) (decide_eq_true h)
 ·rw [if_neg h]
  congr 1
  exact List.filter_cons_of_neg (p := fun i => decide ((l.getD i ev0).kind = 2)) (l := []) (by simpa using h)
theorem allW_succ {l : List Ev} {n : Nat} : allW l (n + 1) = allW l n ++ if (l.getD n ev0).kind = 2 then [[((n : Nat) : Int)]] else [] := by
 unfold allW
 rw [wsL_succ, List.map_append]
 split <;> rfl
theorem allW_le {l : List Ev} {n : Nat} : ∀ k, allW l n <+: allW l (n + k)
 | 0 => List.prefix_refl _
 | k + 1 => (allW_le k).trans (by rw [← Nat.add_assoc, allW_succ]; exact List.prefix_append _ _)
theorem allW_pre {l : List Ev} {i : Nat} (hi : i < l.length) (hk : (l.getD i ev0).kind = 2) : allW l i ++ [[((i : Nat) : Int)]] <+: allW l l.length := by
 have h := allW_le (l := l) (n := i + 1) (l.length - (i + 1));rw [show i + 1 + (l.length - (i + 1)) = l.length by omega, allW_succ, if_pos hk] at h
 exact h
set_option maxHeartbeats 1000000 in
theorem washes_iter {ru : Rules} {ua up : List Value} {vl va vp vk : Value} {w : World} {B : Nat} (hr : RdRules w B vl va vp vk ru ua up) (hro : RulesOk ru) {l : List Ev} {v : Value} (hl : Rd w B 2 v l.length (evsC l)) (hv : l.all (evB ru) = true) (hn : l.length ≤ 1048576)
  {n0 : Nat} {S : List Nat} (hBn : B ≤ n0) (hn0 : n0 ≤ w.heap.size) (hS : memB S 116 = false ∧ memB S 120 = false ∧ memB S 50 = false ∧ memB S 29 = false ∧ memB S 162 = false) {b1 b2 : Nat} (hq1 : Blk w b1 116 #[vl, .int .i64 ru.fade.lo, .int .i64 ru.fade.hi, va, vp, vk]) (hq2 : Blk w b2 29 #[v]) :
  IterAtK [120, 50] Try.prog 79 #[.pointer (some ⟨b1, 0, none⟩), .pointer (some ⟨b2, 0, none⟩)] (okM ru l) n0 S (allW l l.length) w := by
 intro la J Jx W hkW hlt hJ hJx hY hJ0;have hn0W := Nat.le_trans hn0 hkW.size;have qc1 := hkW.blk _ _ _ hq1 hS.1;have qc2 := hkW.blk _ _ _ hq2 hS.2.2.2.1;obtain ⟨Al, cl, Aa, ca, Ap, cp, Ak, ck, rfl, rfl, rfl, rfl⟩ := hr.sh4;obtain ⟨Ae, ce, rfl, _⟩ := hl.shape;have hbW := Below.refl W.heap.size W;change Calls Try.prog 79 #[.func (.yield la) #[] #[], .pointer (some ⟨b1, 0, none⟩), .pointer (some ⟨b2, 0, none⟩)] W _;refine EC.marks 19 Try.func79 rfl rfl rfl (ECI.out (EC.seq (EC.region (EL.newP (bx_162 rfl rfl) rfl ?_))));intro g1 w1 q1 hb1 hg1 hl1;have bhbW_1 := Nat.le_trans hbW.size hg1;replace hJ0 := hJ _ _ _ hJ0 (Soft.of_below hb1);replace hbW := bo_ hbW hb1;clear hb1 hg1 hl1;refine EL.nil (EX.seq (EC.seq (EC.region (EL.val (ld_116 rfl (below_load hbW (qc1.at (j := 0) rfl)) (below_load hbW (qc1.at (j := 1) rfl)) (below_load hbW (qc1.at (j := 2) rfl)) (below_load hbW (qc1.at (j := 3) rfl)) (below_load hbW (qc1.at (j := 4) rfl)) (below_load hbW (qc1.at (j := 5) rfl))) rfl (EL.val (ld_29 rfl (below_load hbW (qc2.at (j := 0) rfl))) rfl (EL.call (cA2 cF49 rfl rfl) rfl (each_fn _) ?_))))))
 rintro e w2 ⟨⟨d1, d2, rfl, qd1, qd2, hd1, hd2⟩, hc2⟩
 refine ⟨_, rfl, ?_⟩;replace q1 := q1.bl hc2;replace hJ0 := hJ _ _ _ hJ0 (Soft.of_below hc2);replace hbW := bo_ hbW hc2;clear hc2;refine EL.nil (EX.seq (EC.block ?_));have hkW2 : Kp n0 S W w2 := Kp.of_below hbW hn0W;have hsz : W.heap.size ≤ w2.heap.size := hbW.size;have hlaW : la + 1 ≤ w2.heap.size := by omega
 have hs1 : SoftI n0 w2.heap.size [120, 50] (fun pre W => ∃ po : List It, po.map (·.1) = allW l pre.length ∧ J po W ∧ Blk W g1 162 #[.func (.yield la) #[] #[]]) := fun s A B' ⟨po, h1, h2, h3⟩ hs => ⟨po, h1, hJ _ _ _ h2 (hs.mono hlaW), hs.blk h3 rfl⟩
 have hs2 : SoftI n0 w2.heap.size [120, 50] (fun _ W => ∃ po : List It, po ≠ [] ∧ po.map (·.1) <+: allW l l.length ∧ Jx po W) := fun s A B' ⟨po, h1, h2, h3⟩ hs => ⟨po, h1, h2, hJx _ _ _ h3 (hs.mono hlaW)⟩
 refine EC.inn (k := 0) ?_;refine rangeFB (MT := 126) (cs := fun x => (momC (l.getD (x.1.getD 0 0).toNat ev0) (x.1.getD 0 0).toNat (afterT ru (l.take (x.1.getD 0 0).toNat))).toArray) (σ1 := fun x g => _) (ok := okM ru l) (n0 := n0) (S := S) rfl (fun args w => by kernel_rfl) rfl (each_iter (hr.below ((hkW.trans hkW2).below.mono hBn)) hro (hl.below ((hkW.trans hkW2).below.mono hBn)) hv hn hBn (Nat.le_trans hn0W hsz) ⟨hS.1, hS.2.1, hS.2.2.1, hS.2.2.2.1⟩ qd1 qd2) (Nat.le_trans hn0W hsz) (fun pre W => ∃ po : List It, po.map (·.1) = allW l pre.length ∧ J po W ∧ Blk W g1 162 #[.func (.yield la) #[] #[]]) (fun _ W => ∃ po : List It, po ≠ [] ∧ po.map (·.1) <+: allW l l.length ∧ Jx po W) hs1 hs2 ⟨[], rfl, hJ0, q1⟩ (fun _ _ _ _ h _ _ => h) (fun _ _ _ h _ => h) (assignM hro rfl rfl) ?_ ?_ ?_
 clear hJ0
 ·rintro lb pre x g4 W3 hpf ⟨i, ei, ev_⟩ ⟨po, hpo, hJ0, q3⟩ q4 hg4 hWs
  obtain ⟨hil, hpl⟩ := pre_num hpf ei;have ei2 : (x.1.getD 0 0).toNat = i := by rw [ei]; exact Int.toNat_natCast i
  rw [ei2] at q4;rw [hpl] at hpo;have hnx : (pre ++ [x]).length = i + 1 := by rw [List.length_append, List.length_singleton, hpl]
  refine ECI.block (ECI.seq (ECI.region (ELI.val (fa_126_0 rfl) rfl (ELI.val (fa_50_0 rfl) rfl (ELI.val (ld_48 rfl (q4.at (j := 0) rfl)) rfl ?_)))))
  by_cases hk2 : (l.getD i ev0).kind = 2
  ·refine ELI.val (x_eql (r := true) rfl rfl (decide_eq_true hk2)) rfl ?_
   refine ELI.val (x_move rfl) rfl (ELI.valg rfl rfl (ld_162 rfl (q3.at (j := 0) rfl)) rfl (ELI.valg rfl rfl (x_loadA rfl (q4.range (PartAt.whole _)) Try.underlying126 rfl (sz_126.trans (congrArg some (momC_len (afterT_ok hro _).n8).symm))) rfl ?_));have hwx : allW l (i + 1) = allW l i ++ [[((i : Nat) : Int)]] := by rw [allW_succ, if_pos hk2]
   have hpw : (po ++ [(([((i : Nat) : Int)] : List Int), momV (l.getD i ev0) i (afterT ru (l.take i)))]).map (·.1) <+: allW l l.length := by rw [List.map_append, hpo]; exact allW_pre hil hk2
   obtain ⟨fn_, tmps_, assign_, body_, hi_, hR_⟩ := hY po ([((i : Nat) : Int)], momV (l.getD i ev0) i (afterT ru (l.take i))) _ (okM_mk ru l i) hJ0 hpw;refine ELI.yieldg rfl rfl rfl rfl rfl hi_ hR_ ?_
   rintro e wy ⟨hky, hkf, ⟨rfl, hJy⟩ | ⟨rfl, hJy⟩⟩
   ·refine ⟨_, rfl, ?_⟩
    refine ELI.valg rfl rfl (x_not rfl) rfl (ELI.val (x_pick_t rfl rfl) rfl (ELI.nil (EXI.seq (ECI.no rfl (ECI.skip (EXI.blk ?_))))))
    exact fun a0 ha0 => ⟨hkf.mono hlaW, hky, .inl ⟨rfl, _, by rw [hnx, hwx, ← hpo, List.map_append]; rfl, hJy, hky.blk _ _ _ q3 hS.2.2.2.2⟩⟩
   ·refine ⟨_, rfl, ?_⟩
    refine ELI.valg rfl rfl (x_not rfl) rfl (ELI.val (x_pick_t rfl rfl) rfl (ELI.nil (EXI.seq (ECI.yes rfl (ECI.ret (EXI.blk_ret ?_))))))
    exact fun a0 ha0 => ⟨hkf.mono hlaW, hky, .inr ⟨rfl, _, by simp, hpw, hJy⟩⟩
  ·refine ELI.val (x_eql (r := false) rfl rfl (decide_eq_false hk2)) rfl ?_
   refine ELI.val (x_move rfl) rfl (ELI.skip rfl rfl rfl rfl (ELI.skip rfl rfl rfl rfl (ELI.skip rfl rfl rfl rfl (ELI.skip rfl rfl rfl rfl (ELI.val (x_pick_f rfl rfl) rfl (ELI.nil (EXI.seq (ECI.no rfl (ECI.skip ?_)))))))));refine EXI.blk ?_
   exact fun a0 ha0 => ⟨KeepsFrom.refl _ _, Kp.refl _ _ _, .inl ⟨rfl, po, by rw [hnx, allW_succ, if_neg hk2, List.append_nil]; exact hpo, hJ0, q3⟩⟩
 ·rintro D xs W4 hD hall ⟨po, hpo, hJ0, q3⟩ hkp hdef
  have hxl : xs.length = l.length := by have := congrArg List.length hall; simpa [allE] using this
  rw [hxl] at hpo;refine EXI.blk ?_
  exact EXI.doneOneN hdef (v := .tuple #[]) (res0 rfl) ⟨⟨_, rfl⟩, (hkW2.trans hkp).trans (Kp.putObj _ (by omega) hdef rfl), .inl ⟨po, hpo, hJ _ _ _ hJ0 (soft_put _ (by omega) hdef rfl)⟩⟩
 ·rintro D pre W4 hD hne hall ⟨po, hpo, hpw, hJy⟩ hkp hdef
  refine EXI.blk_ret ?_
  exact EXI.doneOne hdef (v := .tuple #[]) (res0 rfl) ⟨⟨_, rfl⟩, (hkW2.trans hkp).trans (Kp.putObj _ (by omega) hdef rfl), .inr ⟨po, hpo, hpw, hJx _ _ _ hJy (soft_put _ (by omega) hdef rfl)⟩⟩
def slopAt (tk : List Tr) (n : Nat) : List Int := ((List.range n).filter fun c => decide (0 < (tk.getD c tr0).hi)).map fun c => ((c : Nat) : Int)
theorem slopAt_succ {tk : List Tr} {n : Nat} : slopAt tk (n + 1) = slopAt tk n ++ if 0 < (tk.getD n tr0).hi then [((n : Nat) : Int)] else [] := by
 unfold slopAt
 rw [List.range_succ, List.filter_append, List.map_append]
 by_cases h : 0 < (tk.getD n tr0).hi
 ·rw [if_pos h]
  congr 1
  rw [List.filter_cons_of_pos (p := fun c => decide (0 < (tk.getD c tr0).hi)) (l := []) (decide_eq_true h)]
  rfl
 ·rw [if_neg h]
  congr 1
  rw [List.filter_cons_of_neg (p := fun c => decide (0 < (tk.getD c tr0).hi)) (l := []) (by simpa using h)]
  rfl
theorem slopAt_len {tk : List Tr} {n : Nat} : (slopAt tk n).length ≤ n := by
 unfold slopAt
 rw [List.length_map]
 exact Nat.le_trans (List.length_filter_le _ _) (by simp)
theorem ints_app2 {l m : List Int} : ints (l ++ m) = ints l ++ ints m := by simp [ints]
theorem wsL_len {l : List Ev} {n : Nat} : (wsL l n).length ≤ n := Nat.le_trans (List.length_filter_le _ _) (by simp)
/-- the cargoes in the water of the first k cleanings -/
def slopL (ru : Rules) (l : List Ev) (k : Nat) : List (List Int) := ((wsL l l.length).take k).map fun i => slopAt (afterT ru (l.take i)) 8
theorem slopL_succ {ru : Rules} {l : List Ev} {k : Nat} (h : k < (wsL l l.length).length) : slopL ru l (k + 1) = slopL ru l k ++ [slopAt (afterT ru (l.take ((wsL l l.length).getD k 0))) 8] := by
 unfold slopL
 rw [List.take_succ_eq_append_getElem h, List.map_append, getD_in h]
 rfl
theorem slopL_len {ru : Rules} {l : List Ev} {k : Nat} (h : k ≤ (wsL l l.length).length) : (slopL ru l k).length = k := by
 unfold slopL
 rw [List.length_map, List.length_take]
 omega
def slopE (ru : Rules) (l : List Ev) : List (List Int) := if refE ru l = 0 then slopL ru l (wsL l l.length).length else []
/-- the number of the cleaning that is handed -/
theorem pre_ws {l : List Ev} {pre : List It} {x : It} {i : Nat} (h : (pre ++ [x]).map (·.1) <+: allW l l.length) (hx : x.1 = [((i : Nat) : Int)]) : pre.length < (wsL l l.length).length ∧ (wsL l l.length).getD pre.length 0 = i ∧ i < l.length ∧ (l.getD i ev0).kind = 2 := by
 have h1 := h.length_le;have h2 := h.getElem (i := pre.length) (by simp)
 simp only [allW, List.length_map, List.length_append, List.length_cons, List.length_nil] at h1
 simp [allW, hx] at h2
 have h3 : pre.length < (wsL l l.length).length := by omega
 have h4 : (wsL l l.length)[pre.length] = i := by omega
 have h5 : i ∈ wsL l l.length := h4 ▸ List.getElem_mem h3
 unfold wsL at h5
 rw [List.mem_filter, List.mem_range, decide_eq_true_eq] at h5
 exact ⟨h3, by rw [getD_in h3, h4], h5.1, h5.2⟩
set_option maxHeartbeats 2000000 in
theorem Slops_any {ru : Rules} {ua up : List Value} {vl va vp vk : Value} {w : World} {B : Nat} (hr : RdRules w B vl va vp vk ru ua up) (hB : B ≤ w.heap.size) (hs : Short ru) {l : List Ev} {v : Value} (hl : Rd w B 2 v l.length (evsC l)) (hn : l.length ≤ 1048576) :
  Calls Try.prog 16 #[rulesV vl va vp vk ru, v] w fun e w' => (∃ u us, e = .returned (.tuple #[u, .int .i64 (refE ru l)]) ∧ OwnLL w' w.heap.size w'.heap.size u (slopE ru l) us) ∧ Below w.heap.size w w' := by
 obtain ⟨Al, cl, Aa, ca, Ap, cp, Ak, ck, rfl, rfl, rfl, rfl⟩ := hr.sh4;obtain ⟨Ae, ce, rfl, _⟩ := hl.shape;have hbw := Below.refl w.heap.size w
 unfold rulesV
 refine EC.marks 46 Try.func16 rfl rfl rfl (ECI.out (EC.seq (EC.region (EL.newP (bx_28 rfl) rfl ?_))));intro g1 w1 q1 hb1 hg1 hl1;have bhbw_1 := Nat.le_trans hbw.size hg1;replace hbw := bo_ hbw hb1;clear hb1 hg1 hl1;refine EL.newP al_25 rfl ?_;intro g2 w2 q2 hb2 hg2 hl2;have n1_2 := q1.na hg2;have bhbw_2 := Nat.le_trans hbw.size hg2;replace q1 := q1.bl hb2;replace hbw := bo_ hbw hb2;clear hb2 hg2 hl2;refine EL.as rfl rfl (EL.nil (EX.seq (EC.seq (EC.region (EL.val (ld_28 rfl (q1.at (j := 0) rfl) (q1.at (j := 1) rfl) (q1.at (j := 2) rfl) (q1.at (j := 3) rfl) (q1.at (j := 4) rfl) (q1.at (j := 5) rfl)) rfl (EL.mv rfl rfl (EL.call (cA2 cF48 rfl rfl) rfl (after_any (hr.below (hbw.mono hB)) (Nat.le_trans hB hbw.size) hs (hl.below (hbw.mono hB)) hn) ?_)))))))
 rintro e w3 ⟨rfl, hc3⟩
 refine ⟨_, rfl, ?_⟩;replace q1 := q1.bl hc3;replace q2 := q2.bl hc3;replace hbw := bo_ hbw hc3;clear hc3;refine EL.mv rfl rfl (EL.xt rfl rfl rfl (EL.xt rfl rfl rfl (EL.xt rfl rfl rfl (EL.newP al_116 rfl ?_))));intro g4 w4 q4 hb4 hg4 hl4;have n1_4 := q1.na hg4;have n2_4 := q2.na hg4;have bhbw_4 := Nat.le_trans hbw.size hg4;replace q1 := q1.bl hb4;replace q2 := q2.bl hb4;replace hbw := bo_ hbw hb4;clear hb4 hg4 hl4;refine EL.newP al_tank rfl ?_;intro g5 w5 q5 hb5 hg5 hl5;have n1_5 := q1.na hg5;have n2_5 := q2.na hg5;have n4_5 := q4.na hg5;have bhbw_5 := Nat.le_trans hbw.size hg5;replace q1 := q1.bl hb5;replace q2 := q2.bl hb5;replace q4 := q4.bl hb5;replace hbw := bo_ hbw hb5;clear hb5 hg5 hl5;refine EL.store rfl rfl q4 sz_116 rfl rfl rfl rfl ?_;intro w6 hq6 hg6;replace q1 := q1.gr hg6 n1_4;replace q2 := q2.gr hg6 n2_4;replace q5 := q5.gr hg6 n4_5.symm;replace hbw := below_store hbw hg6 bhbw_4;replace q4 := hq6;clear hg6 hq6;refine EL.store (l' := (tkC (tkE ru l))) rfl rfl q5 sz_120 rfl ((lenV_eq _).trans (tkC_8 (tkE_ok ru l).n8)) (by rw [lenV_eq, Nat.ble_eq]; exact Nat.le_of_eq ((tkC_8 tank0_ok.n8).symm)) (tkC_one _) ?_
 intro w7 hq7 hg7;rw [spl_whole ((tkC_8 (tkE_ok ru l).n8).trans (tkC_8 tank0_ok.n8).symm)] at hq7;replace q1 := q1.gr hg7 n1_5;replace q2 := q2.gr hg7 n2_5;replace q4 := q4.gr hg7 n4_5;replace hbw := below_store hbw hg7 bhbw_5;replace q5 := hq7;clear hg7 hq7;refine EL.as rfl rfl (EL.nil (EX.seq (EC.seq (EC.seq (EC.region (EL.mv rfl rfl ?_))))))
 by_cases hz : refE ru l = 0
 ·
  refine EL.val (x_neq (r := false) rfl rfl (decide_eq_false (fun h => h hz))) rfl ?_
  refine EL.nil (EX.seq (EC.no rfl (EC.skip (EX.seq (EC.seq (EC.seq (EC.region (EL.val (ld_116 rfl (q4.at (j := 0) rfl) (q4.at (j := 1) rfl) (q4.at (j := 2) rfl) (q4.at (j := 3) rfl) (q4.at (j := 4) rfl) (q4.at (j := 5) rfl)) rfl (EL.mv rfl rfl ?_)))))))));obtain ⟨hro, hv, hn100⟩ := ref_ok hz;have hn8 := hro.n8;refine EL.call (cA2 cF52 rfl rfl) rfl (washes_fn _) ?_
  rintro e w8 ⟨⟨b1, b2, rfl, qb1, qb2, hb1, hb2⟩, hc8⟩
  refine ⟨_, rfl, ?_⟩;replace q1 := q1.bl hc8;replace q2 := q2.bl hc8;replace q4 := q4.bl hc8;replace q5 := q5.bl hc8;replace hbw := bo_ hbw hc8;clear hc8;refine EL.nil (EX.seq (EC.block ?_));have hsz := hbw.size;have hgb4 := bhbw_2;have hsoft : SoftI w.heap.size w8.heap.size [120, 50] (fun pre W => (∃ u us, Blk W g2 25 #[u] ∧ OwnLL W w.heap.size W.heap.size u (slopL ru l pre.length) us) ∧ Below w.heap.size w W) := fun s A B' ⟨⟨u, us, h1, h2⟩, h5⟩ hs => ⟨⟨u, us, hs.blk h1 rfl, (h2.soft hs rfl rfl).more hs.size⟩, hs.below h5 h5.size hsz⟩
  refine EC.inn (k := 0) ?_;refine rangeFB (MT := 126) (cs := fun x => (momC (l.getD (x.1.getD 0 0).toNat ev0) (x.1.getD 0 0).toNat (afterT ru (l.take (x.1.getD 0 0).toNat))).toArray) (σ1 := fun x g => _) (ok := okM ru l) (n0 := w.heap.size) (S := [25, 22, 3, 118]) rfl (fun args w => by kernel_rfl) rfl (washes_iter (hr.below (hbw.mono hB)) hro (hl.below (hbw.mono hB)) hv hn hB hbw.size ⟨rfl, rfl, rfl, rfl, rfl⟩ qb1 qb2) hbw.size (fun pre W => (∃ u us, Blk W g2 25 #[u] ∧ OwnLL W w.heap.size W.heap.size u (slopL ru l pre.length) us) ∧ Below w.heap.size w W) (fun _ _ => False) hsoft soft_false ⟨⟨_, [], q2, OwnLL.nil⟩, hbw⟩ (fun _ _ _ _ h _ _ => h) (fun _ _ _ h _ => h) (assignM hro rfl rfl) ?_ ?_ ?_
  ·rintro la pre x g8 W hpf ⟨i, ei, ev_⟩ ⟨⟨u, us, q4, hLL⟩, hbw⟩ q8 hg8 hWs
   obtain ⟨hpl, hpi, hil, hk2⟩ := pre_ws hpf ei;have ei2 : (x.1.getD 0 0).toNat = i := by rw [ei]; exact Int.toNat_natCast i
   rw [ei2] at q8;obtain ⟨Au, cu, rfl, _⟩ := (Rd.of_own hLL.own).shape;have hkp := Kp.refl w.heap.size [25, 22, 3, 118] W;have hkf := KeepsFrom.refl w8.heap.size W;have htk := afterT_ok hro (l.take i);obtain ⟨tk, etk⟩ : ∃ z, z = afterT ru (l.take i) := ⟨_, rfl⟩;rw [← etk] at q8 htk;have hnx : slopL ru l (pre ++ [x]).length = slopL ru l pre.length ++ [slopAt tk 8] := by rw [etk, ← hpi, List.length_append, List.length_singleton]; exact slopL_succ hpl
   obtain ⟨LS, eLS⟩ : ∃ z, z = slopL ru l pre.length := ⟨_, rfl⟩;rw [← eLS] at hLL hnx q4;have hLn : LS.length ≤ 1000 := by rw [eLS, slopL_len (by omega)]; have := wsL_len (l := l) (n := l.length); omega
   obtain ⟨C, eC⟩ : ∃ z, z = W.heap.size := ⟨_, rfl⟩;have hCW : C ≤ W.heap.size := Nat.le_of_eq eC;have hwC : w.heap.size ≤ C := by rw [eC]; exact hbw.size
   rw [← eC] at hLL;have hbb_2 := bhbw_2;have nm_2 : g2 ≠ g8 := fun e => by subst e; exact blk_two q4 q8 (by decide)
   refine ECI.block (ECI.seq ?_);refine ECI.regionL (by repeat (first | exact lets_body | exact lets_no | refine lets_then ?_ | refine lets_blk ?_)) (by kernel_rfl) ?_
   refine EL.as rfl rfl (EL.nil (EX.toI (EXI.seq (ECI.seq (ECI.seq ?_)))));refine ECI.regionL (by repeat (first | exact lets_body | exact lets_no | refine lets_then ?_ | refine lets_blk ?_)) (by kernel_rfl) ?_
   refine EL.val (fa_126_2 rfl) rfl (EL.val (x_loadA rfl (q8.range (mom_tk _ _ _)) Try.underlying120 rfl (sz_120.trans (congrArg some (tkC_8 htk.n8).symm))) rfl (EL.mv rfl rfl (EL.nil (EX.toI (EXI.seq (ECI.block ?_))))));refine ECI.loopB [9, 10, 11, 28, 29, 30, 31, 32, 33, 34, 35, 36, 37, 38, 39, 40] (fun x : Nat × Value => [(9, x.2), (28, .int .i64 (x.1 : Nat))]) (fun x W1 => x.1 ≤ 8 ∧ Blk W1 g2 25 #[.slice Au LS.length cu] ∧ Blk W1 g8 126 (momC (l.getD i ev0) i tk).toArray ∧ OwnLL W1 w.heap.size C (.slice Au LS.length cu) LS us ∧ W1.ownsRow w.heap.size 3 1 x.2 (slopAt tk x.1).length (ints (slopAt tk x.1)) ∧ (∀ b, Value.ownBlock x.2 = some b → C ≤ b) ∧ C ≤ W1.heap.size ∧ Below w.heap.size w W1 ∧ Kp w.heap.size [25, 22, 3, 118] W W1 ∧ KeepsFrom w8.heap.size W W1) (fun x => 8 - x.1) (0, .slice none 0 0) ⟨Nat.zero_le _, q4, q8, hLL, World.ownsRow_nil _ _ _ _, (fun b hb => by cases hb), hCW, hbw, hkp, hkf⟩ ⟨rfl, rfl, trivial⟩ ?_
   clear q4 q8 hLL hCW hbw hkp hkf
   rintro ⟨x, vs⟩ wx ⟨hx, q4, q8, hLL, hos, hfr, hCW, hbw, hkp, hkf⟩
   dsimp only at hx hos hfr
   obtain ⟨As, cs, rfl, _⟩ := (Rd.of_own hos).shape
   by_cases hlt : x < 8
   ·
    have hsl := slopAt_succ (tk := tk) (n := x);refine ECI.seq ?_;refine ECI.regionL (by repeat (first | exact lets_body | exact lets_no | refine lets_then ?_ | refine lets_blk ?_)) (by kernel_rfl) ?_
    refine EL.val (x_lss rfl rfl (decide_eq_true (show ((x : Nat) : Int) < 8 by omega))) rfl ?_
    refine EL.nil (EX.toI (EXI.seq (ECI.seq (ECI.yes rfl (ECI.skip (EXI.seq (ECI.seq (ECI.block (ECI.seq ?_)))))))));refine ECI.regionL (by repeat (first | exact lets_body | exact lets_no | refine lets_then ?_ | refine lets_blk ?_)) (by kernel_rfl) ?_
    refine EL.mv rfl rfl ?_;refine EL.val (x_indexA (l := trC (tk.getD x tr0)) rfl rfl hlt Try.underlying120 Try.underlying118 rfl sz_118 rfl (tr_at tk x (by rw [htk.n8]; exact hlt)) (by rw [tkC_8 htk.n8]; omega)) rfl ?_
    refine EL.newP al_118 rfl ?_;intro g9 w9 q9 hb9 hg9 hl9;have n2_9 := q4.na hg9;have nm_9 := q8.na hg9;have bhbw_9 := Nat.le_trans hbw.size hg9;replace q4 := q4.bl hb9;replace q8 := q8.bl hb9;replace hkp := hkp.trans (Kp.of_below hb9 hbw.size);replace hkf := hkf.trans (KeepsFrom.below hb9);replace hLL := hLL.below hb9;replace hCW := Nat.le_trans hCW hb9.size;replace hos := own_below hos hb9 (Nat.le_refl _);replace hbw := bo_ hbw hb9;clear hb9 hg9 hl9;refine EL.as rfl rfl (EL.store (l' := trC (tk.getD x tr0)) rfl rfl q9 sz_118 rfl rfl rfl rfl ?_);intro w10 hq10 hg10;replace q4 := q4.gr hg10 n2_9;replace q8 := q8.gr hg10 nm_9;replace hkp := hkp.trans (Kp.grown q9 rfl bhbw_9 hg10);replace hkf := hkf.trans (.of (keeps_blk q9 hg10));replace hLL := hLL.box q9 rfl rfl hg10;replace hCW := Nat.le_trans hCW hg10.size;replace hos := own_type hos q9 rfl hg10;replace hbw := below_store hbw hg10 bhbw_9;replace q9 := hq10;clear hg10 hq10;refine EL.nil (EX.toI (EXI.seq (ECI.seq ?_)));refine ECI.regionL (by repeat (first | exact lets_body | exact lets_no | refine lets_then ?_ | refine lets_blk ?_)) (by kernel_rfl) ?_
    refine EL.val (fa_118_0 rfl) rfl (EL.val (fa_24_1 rfl) rfl (EL.val (ld_3 rfl (q9.at (j := 1) rfl)) rfl ?_))
    by_cases hh : 0 < (tk.getD x tr0).hi
    ·
     refine EL.val (x_gtr (r := true) rfl rfl (decide_eq_true hh)) rfl (EL.nil (EX.toI (EXI.seq (ECI.yes rfl ?_))));refine ECI.regionL (by repeat (first | exact lets_body | exact lets_no | refine lets_then ?_ | refine lets_blk ?_)) (by kernel_rfl) ?_
     refine EL.mv rfl rfl (EL.mv rfl rfl (EL.newS (bs_22_1 rfl) rfl ?_));intro g11 w11 q11 hb11 hg11 hl11;have n2_11 := q4.na hg11;have nm_11 := q8.na hg11;have n9_11 := q9.na hg11;have bhbw_11 := Nat.le_trans hbw.size hg11;replace q4 := q4.bl hb11;replace q8 := q8.bl hb11;replace q9 := q9.bl hb11;replace hkp := hkp.trans (Kp.of_below hb11 hbw.size);replace hkf := hkf.trans (KeepsFrom.below hb11);replace hLL := hLL.below hb11;replace hCW := Nat.le_trans hCW hb11.size;replace hos := own_below hos hb11 (Nat.le_refl _);replace hbw := bo_ hbw hb11;clear hb11 hg11 hl11;refine EL.push ir_elem rfl rfl hos (rd_one (l := [.int .i64 (x : Nat)]) q11 rfl) (by intro u hu; simp only [List.mem_cons, List.not_mem_nil, or_false] at hu; rcases hu with rfl <;> rfl) (by have := slopAt_len (tk := tk) (n := x); omega) rfl hbw.size rfl ?_
     intro v12 w12 hos2 hgr hb_ hat;replace q4 := blk_grown q4 hos rfl hgr;replace q8 := blk_grown q8 hos rfl hgr;replace q9 := blk_grown q9 hos rfl hgr;replace hkp := hkp.trans (Kp.own hos rfl (Nat.le_refl _) hbw.size hgr);replace hkf := hkf.trans (.of (keeps_own hos hgr));replace hLL := hLL.fresh hgr hfr;have hfr2 : ∀ b, Value.ownBlock _ = some b → C ≤ b := fun b hb => by rcases hat with h | h; exact hfr b (h ▸ hb); rw [h] at hb; injection hb with hb; omega
     replace hCW := Nat.le_trans hCW hgr.size;clear hfr;have hfr := hfr2;clear hfr2;replace hbw := hbw.trans hb_;clear hos hgr hb_ hat;have hos := hos2;clear hos2;obtain ⟨As2, cs2, rfl, _⟩ := (Rd.of_own hos).shape;refine EL.as rfl rfl (EL.nil (EX.toI (EXI.blk (EXI.seq ?_))));refine ECI.regionL (by repeat (first | exact lets_body | exact lets_no | refine lets_then ?_ | refine lets_blk ?_)) (by kernel_rfl) ?_
     refine EL.val (x_add rfl rfl (c := ((x + 1 : Nat) : Int)) ((IntWalk.i64_in _ ⟨by first | omega | (simp only; omega), by first | omega | (simp only; omega)⟩).trans (by first | omega | (simp only; omega)))) rfl ?_
     refine EL.mv rfl rfl (EL.nil (EX.toI ?_));refine EXI.roundB (x + 1, _) ⟨rfl, rfl, trivial⟩ (by repeat first | with_reducible exact .refl _ | refine sp_ rfl ?_ | exact .refl _ | refine sd_ rfl ?_ | refine sn_ ?_) ⟨hlt, q4, q8, hLL, own_cast hos (by rw [hsl, if_pos hh, List.length_append]; rfl) (by rw [hsl, if_pos hh, ints_app2]; rfl), hfr, hCW, hbw, hkp, hkf⟩ (by simp only; omega)
    ·
     refine EL.val (x_gtr (r := false) rfl rfl (decide_eq_false hh)) rfl (EL.nil (EX.toI (EXI.seq (ECI.no rfl (ECI.skip (EXI.blk (EXI.seq ?_)))))));refine ECI.regionL (by repeat (first | exact lets_body | exact lets_no | refine lets_then ?_ | refine lets_blk ?_)) (by kernel_rfl) ?_
     refine EL.val (x_add rfl rfl (c := ((x + 1 : Nat) : Int)) ((IntWalk.i64_in _ ⟨by first | omega | (simp only; omega), by first | omega | (simp only; omega)⟩).trans (by first | omega | (simp only; omega)))) rfl ?_
     refine EL.mv rfl rfl (EL.nil (EX.toI ?_));refine EXI.roundB (x + 1, _) ⟨rfl, rfl, trivial⟩ (by repeat first | with_reducible exact .refl _ | refine sp_ rfl ?_ | exact .refl _ | refine sd_ rfl ?_ | refine sn_ ?_) ⟨hlt, q4, q8, hLL, own_cast hos (by rw [hsl, if_neg hh, List.append_nil]) (by rw [hsl, if_neg hh, List.append_nil]), hfr, hCW, hbw, hkp, hkf⟩ (by simp only; omega)
   ·
    have hx8 : x = 8 := by omega
    subst hx8;refine ECI.seq ?_;refine ECI.regionL (by repeat (first | exact lets_body | exact lets_no | refine lets_then ?_ | refine lets_blk ?_)) (by kernel_rfl) ?_
    refine EL.val (x_lss rfl rfl (decide_eq_false (show ¬((8 : Nat) : Int) < 8 by omega))) rfl ?_
    refine EL.nil (EX.toI (EXI.seq (ECI.seq (ECI.no rfl (ECI.exit (EXI.seq_exit (EXI.seq_exit (EXI.blk_here (EXI.seq ?_)))))))));refine ECI.regionL (by repeat (first | exact lets_body | exact lets_no | refine lets_then ?_ | refine lets_blk ?_)) (by kernel_rfl) ?_
    refine EL.val (ld_25 rfl (q4.at (j := 0) rfl)) rfl (EL.mv rfl rfl (EL.newS (bs_25_1 rfl) rfl ?_));intro g13 w13 q13 hb13 hg13 hl13;have n2_13 := q4.na hg13;have nm_13 := q8.na hg13;have bhbw_13 := Nat.le_trans hbw.size hg13;replace q4 := q4.bl hb13;replace q8 := q8.bl hb13;replace hkp := hkp.trans (Kp.of_below hb13 hbw.size);replace hkf := hkf.trans (KeepsFrom.below hb13);replace hLL := hLL.below hb13;replace hCW := Nat.le_trans hCW hb13.size;replace hos := own_below hos hb13 (Nat.le_refl _);replace hbw := bo_ hbw hb13;clear hb13 hg13 hl13;refine EL.push rr_elem rfl rfl hLL.own (rd_one (l := [.slice As (slopAt tk 8).length cs]) q13 rfl) (by intro u hu; rw [List.mem_singleton.1 hu]; rfl) (by omega) rfl hbw.size rfl ?_
    intro v14 w14 ho2 hgr hb_ hat;have hkp0 := hLL.own;replace hkp := hkp.trans (Kp.own hkp0 rfl (Nat.le_refl _) hbw.size hgr);replace hkf := hkf.trans (.of (keeps_own hkp0 hgr));replace q4 := blk_grown q4 hkp0 rfl hgr;replace q8 := blk_grown q8 hkp0 rfl hgr;replace hLL := hLL.push ho2 hgr hos;replace hbw := hbw.trans hb_;clear hos hkp0 hgr hb_ hat ho2 hfr;obtain ⟨Av, cv, rfl, _⟩ := (Rd.of_own hLL.own).shape;refine EL.store rfl rfl q4 sz_25 rfl rfl rfl rfl ?_;intro w15 hq15 hg15;replace q8 := q8.gr hg15 nm_2.symm;replace hkp := hkp.trans (Kp.grown q4 rfl bhbw_2 hg15);replace hkf := hkf.trans (.of (keeps_blk q4 hg15));replace hLL := hLL.box q4 rfl rfl hg15;replace hbw := below_store hbw hg15 bhbw_2;replace q4 := hq15;clear hg15 hq15;refine EL.nil (EX.toI (EXI.blk ?_))
    exact fun a0 ha0 => ⟨hkf, hkp, .inl ⟨rfl, ⟨_, _, q4, by rw [hnx]; exact hLL.raise⟩, hbw⟩⟩
  ·rintro D xs W hD hall ⟨⟨u, us, q4, hLL⟩, hbw⟩ hkp hdef
   have hxl : xs.length = (wsL l l.length).length := by have := congrArg List.length hall; simpa [allW] using this
   rw [hxl] at hLL;obtain ⟨Au, cu, rfl, _⟩ := (Rd.of_own hLL.own).shape;have hdm : Marks w.heap.size [{ target := .collected D, args := #[] }] W := fun d hd => ⟨D, Nat.le_trans hsz hD, List.mem_singleton.1 hd, hdef⟩
   refine EXI.blk (EXI.seqw (ECI.seq (ECI.regionLD (EL.val (ld_25 rfl (q4.at (j := 0) rfl)) rfl (EL.store rfl rfl q4 sz_25 rfl rfl rfl rfl ?_)))));intro w16 hq16 hg16;replace hLL := hLL.box q4 rfl rfl hg16;replace hdm := hdm.keeps (keeps_blk q4 hg16);replace hbw := below_store hbw hg16 bhbw_2;replace q4 := hq16;clear hg16 hq16;refine EL.as rfl rfl (EL.nil (EX.ofD (EXI.seq (ECI.ret ?_))))
   exact EXI.done hdm (by simp) (v := .tuple #[.slice Au (slopL ru l (wsL l l.length).length).length cu, .int .i64 0]) (fun w' ht => resct rfl rfl rfl (lv_25 ((ht.blk _ _ _ q4).at (j := 0) rfl))) (fun w' ht => ⟨⟨_, us, by rw [hz], by rw [slopE, if_pos hz]; exact (hLL.took ht).raise⟩, hbw.trans ht.below⟩)
  ·intro D pre W hD hne hall h
   exact absurd h id
 ·
  refine EL.val (x_neq (r := true) rfl rfl (decide_eq_true hz)) rfl (EL.nil (EX.seq (EC.yes rfl (EC.seq (EC.region (EL.mv rfl rfl (EL.store rfl rfl q2 sz_25 rfl rfl rfl rfl ?_)))))));intro w17 hq17 hg17;replace q1 := q1.gr hg17 n1_2;replace q4 := q4.gr hg17 n2_4.symm;replace q5 := q5.gr hg17 n2_5.symm;replace hbw := below_store hbw hg17 bhbw_2;replace q2 := hq17;clear hg17 hq17;refine EL.as rfl rfl (EL.nil (EX.seq (EC.ret (EX.seq_ret ?_))))
  exact EX.doneM (resct rfl rfl rfl (lv_25 (q2.at (j := 0) rfl))) ⟨⟨_, [], rfl, by rw [slopE, if_neg hz]; exact OwnLL.nil⟩, hbw⟩
section
variable {n : Nat} {σ : Sg} {w : World} {dst : Option Tmp} {ty : TypeId} {pos : String} {af : Array Edge} {g : Option (Nat × Bool)} {x y z : Operand} {at' : Array TypeId}
theorem al_3 (a : Act) (_ : Env n σ a) : (execOp a.eval ⟨dst, .alloc 3, ty, pos, af, g⟩).run Try.prog w = .ok (.value (.pointer (some ⟨w.heap.size, 0, none⟩))) (w.alloc (.cells #[.int .i64 0] 3)) := by
 simp only [execOp]
 simp [go_sem]
theorem al_52 (a : Act) (_ : Env n σ a) : (execOp a.eval ⟨dst, .alloc 52, ty, pos, af, g⟩).run Try.prog w = .ok (.value (.pointer (some ⟨w.heap.size, 0, none⟩))) (w.alloc (.cells #[.int .i64 0, .int .i64 0, .int .i64 0, .int .i64 0, .int .i64 0] 52)) := by
 simp only [execOp]
 simp [go_sem]
theorem sz_52 : (Try.prog.info? 52).map (·.size) = some 5 := by kernel_rfl
theorem lv_3 {b o : Nat} {v0 : Value} (c0 : w.cell? ⟨b, o, none⟩ = some v0) : (loadVar 3 ⟨b, o, none⟩).run Try.prog w = .ok (v0) w := by
 simp [go_sem, loadVar, c0]
end
def billS (f : Kd → Int) (ru : Rules) (l : List Ev) (k : Nat) : Int := (((wsL l l.length).take k).map fun i => f (ru.kinds.getD (l.getD i ev0).number.toNat kd0)).sum
theorem billS_succ {f : Kd → Int} {ru : Rules} {l : List Ev} {k : Nat} (h : k < (wsL l l.length).length) : billS f ru l (k + 1) = billS f ru l k + f (ru.kinds.getD (l.getD ((wsL l l.length).getD k 0) ev0).number.toNat kd0) := by
 unfold billS
 rw [List.take_succ_eq_append_getElem h, List.map_append, List.sum_append, getD_in h]
 simp
theorem sum_bd {M : Int} : ∀ (l : List Int), (∀ x ∈ l, 0 ≤ x ∧ x ≤ M) → 0 ≤ l.sum ∧ l.sum ≤ l.length * M
 | [], _ => by simp
 | x :: l, h => by
  have h1 := h x (List.mem_cons_self ..);have h2 := sum_bd l fun y hy => h y (List.mem_cons_of_mem _ hy)
  rw [List.sum_cons, List.length_cons];have e : ((l.length + 1 : Nat) : Int) * M = l.length * M + M := by rw [Int.natCast_add, Int.add_mul]; simp
  rw [e]
  omega
theorem billS_bd {f : Kd → Int} {M : Int} {ru : Rules} {l : List Ev} {n : Nat} (hf : ∀ k, 0 ≤ f (ru.kinds.getD k kd0) ∧ f (ru.kinds.getD k kd0) ≤ M) : 0 ≤ billS f ru l n ∧ billS f ru l n ≤ n * M := by
 have h := sum_bd (M := M) (((wsL l l.length).take n).map fun i => f (ru.kinds.getD (l.getD i ev0).number.toNat kd0)) fun x hx => by
  obtain ⟨i, _, rfl⟩ := List.mem_map.1 hx
  exact hf _
 refine ⟨h.1, Int.le_trans h.2 ?_⟩;rw [List.length_map, List.length_take];have hM : 0 ≤ M := Int.le_trans (hf 0).1 (hf 0).2
 exact Int.mul_le_mul_of_nonneg_right (by omega) hM
theorem kd_bd {ru : Rules} (hro : RulesOk ru) (k : Nat) : (0 ≤ (ru.kinds.getD k kd0).mins ∧ (ru.kinds.getD k kd0).mins ≤ 10000) ∧ (0 ≤ (ru.kinds.getD k kd0).water ∧ (ru.kinds.getD k kd0).water ≤ 10000) ∧ 0 ≤ (ru.kinds.getD k kd0).cost ∧ (ru.kinds.getD k kd0).cost ≤ 100000000 := by
 have h := hro.kd k
 unfold kdB at h
 simp only [Bool.and_eq_true, inB_iff] at h
 exact ⟨h.2.1, h.2.2.1, h.2.2.2⟩
def billE (ru : Rules) (l : List Ev) : Value := if refE ru l = 0 then .tuple #[.int .i64 (billS (·.mins) ru l (wsL l l.length).length), .int .i64 (billS (·.water) ru l (wsL l l.length).length), .int .i64 (billS (·.cost) ru l (wsL l l.length).length), .int .i64 0] else .tuple #[.int .i64 0, .int .i64 0, .int .i64 0, .int .i64 (refE ru l)]
set_option maxHeartbeats 2000000 in
theorem Bill_any {ru : Rules} {ua up : List Value} {vl va vp vk : Value} {w : World} {B : Nat} (hr : RdRules w B vl va vp vk ru ua up) (hB : B ≤ w.heap.size) (hs : Short ru) {l : List Ev} {v : Value} (hl : Rd w B 2 v l.length (evsC l)) (hn : l.length ≤ 1048576) :
  Calls Try.prog 17 #[rulesV vl va vp vk ru, v] w fun e w' => e = .returned (billE ru l) ∧ Below w.heap.size w w' := by
 obtain ⟨Al, cl, Aa, ca, Ap, cp, Ak, ck, rfl, rfl, rfl, rfl⟩ := hr.sh4;obtain ⟨Ae, ce, rfl, _⟩ := hl.shape;have hbw := Below.refl w.heap.size w
 unfold rulesV
 refine EC.marks 48 Try.func17 rfl rfl rfl (ECI.out (EC.seq (EC.region (EL.newP (bx_28 rfl) rfl ?_))));intro g1 w1 q1 hb1 hg1 hl1;have bhbw_1 := Nat.le_trans hbw.size hg1;replace hbw := bo_ hbw hb1;clear hb1 hg1 hl1;refine EL.newP al_3 rfl ?_;intro g2 w2 q2 hb2 hg2 hl2;have n1_2 := q1.na hg2;have bhbw_2 := Nat.le_trans hbw.size hg2;replace q1 := q1.bl hb2;replace hbw := bo_ hbw hb2;clear hb2 hg2 hl2;refine EL.newP al_3 rfl ?_;intro g3 w3 q3 hb3 hg3 hl3;have n1_3 := q1.na hg3;have n2_3 := q2.na hg3;have bhbw_3 := Nat.le_trans hbw.size hg3;replace q1 := q1.bl hb3;replace q2 := q2.bl hb3;replace hbw := bo_ hbw hb3;clear hb3 hg3 hl3;refine EL.newP al_3 rfl ?_;intro g4 w4 q4 hb4 hg4 hl4;have n1_4 := q1.na hg4;have n2_4 := q2.na hg4;have n3_4 := q3.na hg4;have bhbw_4 := Nat.le_trans hbw.size hg4;replace q1 := q1.bl hb4;replace q2 := q2.bl hb4;replace q3 := q3.bl hb4;replace hbw := bo_ hbw hb4;clear hb4 hg4 hl4;refine EL.as rfl rfl (EL.nil (EX.seq (EC.seq (EC.region (EL.val (ld_28 rfl (q1.at (j := 0) rfl) (q1.at (j := 1) rfl) (q1.at (j := 2) rfl) (q1.at (j := 3) rfl) (q1.at (j := 4) rfl) (q1.at (j := 5) rfl)) rfl (EL.mv rfl rfl (EL.call (cA2 cF48 rfl rfl) rfl (after_any (hr.below (hbw.mono hB)) (Nat.le_trans hB hbw.size) hs (hl.below (hbw.mono hB)) hn) ?_)))))))
 rintro e w5 ⟨rfl, hc5⟩
 refine ⟨_, rfl, ?_⟩;replace q1 := q1.bl hc5;replace q2 := q2.bl hc5;replace q3 := q3.bl hc5;replace q4 := q4.bl hc5;replace hbw := bo_ hbw hc5;clear hc5;refine EL.mv rfl rfl (EL.xt rfl rfl rfl (EL.xt rfl rfl rfl (EL.xt rfl rfl rfl (EL.newP al_116 rfl ?_))));intro g6 w6 q6 hb6 hg6 hl6;have n1_6 := q1.na hg6;have n2_6 := q2.na hg6;have n3_6 := q3.na hg6;have n4_6 := q4.na hg6;have bhbw_6 := Nat.le_trans hbw.size hg6;replace q1 := q1.bl hb6;replace q2 := q2.bl hb6;replace q3 := q3.bl hb6;replace q4 := q4.bl hb6;replace hbw := bo_ hbw hb6;clear hb6 hg6 hl6;refine EL.newP al_tank rfl ?_;intro g7 w7 q7 hb7 hg7 hl7;have n1_7 := q1.na hg7;have n2_7 := q2.na hg7;have n3_7 := q3.na hg7;have n4_7 := q4.na hg7;have n6_7 := q6.na hg7;have bhbw_7 := Nat.le_trans hbw.size hg7;replace q1 := q1.bl hb7;replace q2 := q2.bl hb7;replace q3 := q3.bl hb7;replace q4 := q4.bl hb7;replace q6 := q6.bl hb7;replace hbw := bo_ hbw hb7;clear hb7 hg7 hl7;refine EL.store rfl rfl q6 sz_116 rfl rfl rfl rfl ?_;intro w8 hq8 hg8;replace q1 := q1.gr hg8 n1_6;replace q2 := q2.gr hg8 n2_6;replace q3 := q3.gr hg8 n3_6;replace q4 := q4.gr hg8 n4_6;replace q7 := q7.gr hg8 n6_7.symm;replace hbw := below_store hbw hg8 bhbw_6;replace q6 := hq8;clear hg8 hq8;refine EL.store (l' := (tkC (tkE ru l))) rfl rfl q7 sz_120 rfl ((lenV_eq _).trans (tkC_8 (tkE_ok ru l).n8)) (by rw [lenV_eq, Nat.ble_eq]; exact Nat.le_of_eq ((tkC_8 tank0_ok.n8).symm)) (tkC_one _) ?_
 intro w9 hq9 hg9;rw [spl_whole ((tkC_8 (tkE_ok ru l).n8).trans (tkC_8 tank0_ok.n8).symm)] at hq9;replace q1 := q1.gr hg9 n1_7;replace q2 := q2.gr hg9 n2_7;replace q3 := q3.gr hg9 n3_7;replace q4 := q4.gr hg9 n4_7;replace q6 := q6.gr hg9 n6_7;replace hbw := below_store hbw hg9 bhbw_7;replace q7 := hq9;clear hg9 hq9;refine EL.as rfl rfl (EL.nil (EX.seq (EC.seq (EC.seq (EC.region (EL.mv rfl rfl ?_))))))
 by_cases hz : refE ru l = 0
 ·
  refine EL.val (x_neq (r := false) rfl rfl (decide_eq_false (fun h => h hz))) rfl ?_
  refine EL.nil (EX.seq (EC.no rfl (EC.skip (EX.seq (EC.seq (EC.seq (EC.region (EL.val (ld_116 rfl (q6.at (j := 0) rfl) (q6.at (j := 1) rfl) (q6.at (j := 2) rfl) (q6.at (j := 3) rfl) (q6.at (j := 4) rfl) (q6.at (j := 5) rfl)) rfl (EL.mv rfl rfl ?_)))))))));obtain ⟨hro, hv, hn100⟩ := ref_ok hz;have hk4 := hro.k4;refine EL.call (cA2 cF52 rfl rfl) rfl (washes_fn _) ?_
  rintro e w10 ⟨⟨b1, b2, rfl, qb1, qb2, hb1, hb2⟩, hc10⟩
  refine ⟨_, rfl, ?_⟩;replace q1 := q1.bl hc10;replace q2 := q2.bl hc10;replace q3 := q3.bl hc10;replace q4 := q4.bl hc10;replace q6 := q6.bl hc10;replace q7 := q7.bl hc10;replace hbw := bo_ hbw hc10;clear hc10;refine EL.nil (EX.seq (EC.block ?_));have hsz := hbw.size;have hsoft : SoftI w.heap.size w10.heap.size [120, 50] (fun pre W => Blk W g1 28 #[.slice Al ru.levels.length cl, .int .i64 ru.fade.lo, .int .i64 ru.fade.hi, .slice Aa ru.allow.length ca, .slice Ap ru.apart.length cp, .slice Ak ru.kinds.length ck] ∧ Blk W g2 3 #[.int .i64 (billS (·.mins) ru l pre.length)] ∧ Blk W g3 3 #[.int .i64 (billS (·.water) ru l pre.length)] ∧ Blk W g4 3 #[.int .i64 (billS (·.cost) ru l pre.length)] ∧ Below w.heap.size w W) := fun s A B' ⟨h1, h2, h3, h4, h5⟩ hs => ⟨hs.blk h1 rfl, hs.blk h2 rfl, hs.blk h3 rfl, hs.blk h4 rfl, hs.below h5 h5.size hsz⟩
  refine EC.inn (k := 0) ?_;refine rangeFB (MT := 126) (cs := fun x => (momC (l.getD (x.1.getD 0 0).toNat ev0) (x.1.getD 0 0).toNat (afterT ru (l.take (x.1.getD 0 0).toNat))).toArray) (σ1 := fun x g => _) (ok := okM ru l) (n0 := w.heap.size) (S := [3, 52]) rfl (fun args w => by kernel_rfl) rfl (washes_iter (hr.below (hbw.mono hB)) hro (hl.below (hbw.mono hB)) hv hn hB hbw.size ⟨rfl, rfl, rfl, rfl, rfl⟩ qb1 qb2) hbw.size (fun pre W => Blk W g1 28 #[.slice Al ru.levels.length cl, .int .i64 ru.fade.lo, .int .i64 ru.fade.hi, .slice Aa ru.allow.length ca, .slice Ap ru.apart.length cp, .slice Ak ru.kinds.length ck] ∧ Blk W g2 3 #[.int .i64 (billS (·.mins) ru l pre.length)] ∧ Blk W g3 3 #[.int .i64 (billS (·.water) ru l pre.length)] ∧ Blk W g4 3 #[.int .i64 (billS (·.cost) ru l pre.length)] ∧ Below w.heap.size w W) (fun _ _ => False) hsoft soft_false ⟨q1, q2, q3, q4, hbw⟩ (fun _ _ _ _ h _ _ => h) (fun _ _ _ h _ => h) (assignM hro rfl rfl) ?_ ?_ ?_
  ·rintro la pre x g8 W hpf ⟨i, ei, ev_⟩ ⟨pq2, pq4, pq5, pq6, hbw⟩ pq8 hg8 hWs
   obtain ⟨hpl, hpi, hil, hk2⟩ := pre_ws hpf ei;have ei2 : (x.1.getD 0 0).toNat = i := by rw [ei]; exact Int.toNat_natCast i
   rw [ei2] at pq8;have hkp := Kp.refl w.heap.size [3, 52] W;have hkf := KeepsFrom.refl w10.heap.size W;have htk := afterT_ok hro (l.take i);obtain ⟨tk, etk⟩ : ∃ z, z = afterT ru (l.take i) := ⟨_, rfl⟩;rw [← etk] at pq8 htk;have hpl100 : pre.length ≤ 100 := by have := wsL_len (l := l) (n := l.length); omega
   obtain ⟨k, ek, hk⟩ : ∃ k : Nat, (l.getD i ev0).number = ((k : Nat) : Int) ∧ k < ru.kinds.length := by rcases ev_at hv hil with ⟨_, h⟩ | ⟨h, _⟩; exact h; omega
   obtain ⟨bk, ok, e1_, _, hkd⟩ := kds_cells ru.kinds k hk _ B _ _ _ (hr.below (hbw.mono hB)).kinds;subst e1_;have hkb := kd_bd hro k;have hminss : billS (·.mins) ru l (pre ++ [x]).length = billS (·.mins) ru l pre.length + (ru.kinds.getD k kd0).mins := by rw [List.length_append, List.length_singleton, billS_succ hpl, hpi, ek, Int.toNat_natCast]
   have hwaters : billS (·.water) ru l (pre ++ [x]).length = billS (·.water) ru l pre.length + (ru.kinds.getD k kd0).water := by rw [List.length_append, List.length_singleton, billS_succ hpl, hpi, ek, Int.toNat_natCast]
   have hcosts : billS (·.cost) ru l (pre ++ [x]).length = billS (·.cost) ru l pre.length + (ru.kinds.getD k kd0).cost := by rw [List.length_append, List.length_singleton, billS_succ hpl, hpi, ek, Int.toNat_natCast]
   have hminsb := billS_bd (f := (·.mins)) (M := 10000) (ru := ru) (l := l) (n := pre.length) (fun k => (kd_bd hro k).1)
   have hwaterb := billS_bd (f := (·.water)) (M := 10000) (ru := ru) (l := l) (n := pre.length) (fun k => (kd_bd hro k).2.1)
   have hcostb := billS_bd (f := (·.cost)) (M := 100000000) (ru := ru) (l := l) (n := pre.length) (fun k => (kd_bd hro k).2.2)
   obtain ⟨bm, ebm⟩ : ∃ z, z = billS (·.mins) ru l pre.length := ⟨_, rfl⟩;obtain ⟨bw, ebw⟩ : ∃ z, z = billS (·.water) ru l pre.length := ⟨_, rfl⟩;obtain ⟨bc, ebc⟩ : ∃ z, z = billS (·.cost) ru l pre.length := ⟨_, rfl⟩;rw [← ebm] at pq4 hminss hminsb;rw [← ebw] at pq5 hwaters hwaterb;rw [← ebc] at pq6 hcosts hcostb;obtain ⟨hb1_, hb2_, hb3_⟩ := hkb;obtain ⟨hm1, hm2⟩ := hminsb;obtain ⟨hw1, hw2⟩ := hwaterb;obtain ⟨hc1, hc2⟩ := hcostb;have hbb_1 := bhbw_1;have hbb_2 := bhbw_2;have hbb_3 := bhbw_3;have hbb_4 := bhbw_4;have nm_1 : g1 ≠ g8 := fun e => by subst e; exact blk_two pq2 pq8 (by decide)
   have nm_2 : g2 ≠ g8 := fun e => by subst e; exact blk_two pq4 pq8 (by decide)
   have nm_3 : g3 ≠ g8 := fun e => by subst e; exact blk_two pq5 pq8 (by decide)
   have nm_4 : g4 ≠ g8 := fun e => by subst e; exact blk_two pq6 pq8 (by decide)
   refine ECI.block (ECI.seq ?_);refine ECI.regionL (by repeat (first | exact lets_body | exact lets_no | refine lets_then ?_ | refine lets_blk ?_)) (by kernel_rfl) ?_
   refine EL.val (fa_28_4 rfl) rfl (EL.val (ld_26 rfl (pq2.at (j := 5) rfl)) rfl (EL.val (fa_126_0 rfl) rfl (EL.val (fa_50_1 rfl) rfl (EL.val (ld_3 rfl (pq8.at (j := 1) rfl)) rfl ?_))));refine EL.val (ix_26 rfl (by show some (Value.int .i64 (l.getD i ev0).number) = _; rw [ek]) hk) rfl ?_
   refine EL.val (ld_52 rfl hkd.c0 hkd.c1 hkd.c2 hkd.c3 hkd.c4) rfl (EL.newP al_52 rfl ?_);intro g11 w11 q11 hb11 hg11 hl11;have n1_11 := pq2.na hg11;have n2_11 := pq4.na hg11;have n3_11 := pq5.na hg11;have n4_11 := pq6.na hg11;have nm_11 := pq8.na hg11;have bhbw_11 := Nat.le_trans hbw.size hg11;replace pq2 := pq2.bl hb11;replace pq4 := pq4.bl hb11;replace pq5 := pq5.bl hb11;replace pq6 := pq6.bl hb11;replace pq8 := pq8.bl hb11;replace hkp := hkp.trans (Kp.of_below hb11 hbw.size);replace hkf := hkf.trans (KeepsFrom.below hb11);replace hbw := bo_ hbw hb11;clear hb11 hg11 hl11;refine EL.store rfl rfl q11 sz_52 rfl rfl rfl rfl ?_;intro w12 hq12 hg12;replace pq2 := pq2.gr hg12 n1_11;replace pq4 := pq4.gr hg12 n2_11;replace pq5 := pq5.gr hg12 n3_11;replace pq6 := pq6.gr hg12 n4_11;replace pq8 := pq8.gr hg12 nm_11;replace hkp := hkp.trans (Kp.grown q11 rfl bhbw_11 hg12);replace hkf := hkf.trans (.of (keeps_blk q11 hg12));replace hbw := below_store hbw hg12 bhbw_11;replace q11 := hq12;clear hg12 hq12;refine EL.nil (EX.toI (EXI.seq ?_));have hA4 := pq4;have hA5 := pq5;have hA6 := pq6;have hszA := hbw.size;have lt_1 := pq2.lt;have lt_2 := pq4.lt;have lt_3 := pq5.lt;have lt_4 := pq6.lt;have lt_m := pq8.lt;have lt_11 := q11.lt;refine ECI.regionO (by repeat (first | exact lets_body | exact lets_no | refine lets_then ?_ | refine lets_blk ?_)) (by kernel_rfl) (EO.regionS [[], [], [1], [0, 1, 2], [], [], [5], [4, 5, 6], [], [], [9], [8, 9, 10], [0, 1, 2, 3], [0, 1, 2, 3, 4, 5, 6, 7, 12], [0, 1, 2, 3, 4, 5, 6, 7, 8, 9, 10, 11, 12, 13]] 14 [] [12, 13] (fun fl w_ => Touch w12 w_ [g2, g3] ∧ (fl 12 = false → Blk w_ g2 3 #[.int .i64 bm]) ∧ (fl 13 = false → Blk w_ g3 3 #[.int .i64 bw])) (phiS (fun i_ r => match i_ with | 0 => r 0 = .int .i64 bm | 1 => r 1 = .pointer (some ⟨g11, 2, none⟩) | 2 => r 2 = .int .i64 (ru.kinds.getD k kd0).mins | 3 => r 3 = .int .i64 (bm + (ru.kinds.getD k kd0).mins) | 4 => r 4 = .int .i64 bw | 5 => r 5 = .pointer (some ⟨g11, 3, none⟩) | 6 => r 6 = .int .i64 (ru.kinds.getD k kd0).water | 7 => r 7 = .int .i64 (bw + (ru.kinds.getD k kd0).water) | 8 => r 8 = .int .i64 bc | 9 => r 9 = .pointer (some ⟨g11, 4, none⟩) | 10 => r 10 = .int .i64 (ru.kinds.getD k kd0).cost | 11 => r 11 = .int .i64 (bc + (ru.kinds.getD k kd0).cost) | _ => True) [(12, fun _ r w_ => Blk w_ g2 3 #[.int .i64 (bm + (ru.kinds.getD k kd0).mins)]), (13, fun _ r w_ => Blk w_ g3 3 #[.int .i64 (bw + (ru.kinds.getD k kd0).water)])]) (by kernel_rfl) rfl rfl (by intro i hi; simp at hi; rcases hi with rfl | rfl <;> exact ⟨by simp, by omega⟩) ⟨fun _ _ => ⟨Touch.start _ _, fun _ => pq4, fun _ => pq5⟩, fun _ _ _ ⟨hT, hs12, hs13⟩ hb => ⟨hT.below hb, fun h => (hs12 h).below hb (hs12 h).lt, fun h => (hs13 h).below hb (hs13 h).lt⟩, fun _ _ h => h.1.size⟩ (phiS_cons monoS_own (phiS_cons monoS_own (phiS_nil))) (fun i_ hi_ hs_ => ?_) (fun i_ hi_ => ?_) ?_)
   ·match i_, hi_ with
    | 0, _ =>
     intro val fl w1 a hb ha hd hfl;obtain ⟨hT, hs12, hs13⟩ := hb;have ha := ha.s0 (d := 4) rfl
     exact ss_val ha rfl rfl (ld_3 rfl ((hs12 (hfl 12 (by simp) (memB_mem.1 rfl))).at (j := 0) rfl)) rfl rfl
    | 1, _ =>
     intro val fl w1 a hb ha hd hfl;obtain ⟨hT, hs12, hs13⟩ := hb;have ha := ha.s0 (d := 11) rfl
     exact ss_val ha rfl rfl (fa_52_1 rfl) rfl rfl
    | 2, _ =>
     intro val fl w1 a hb ha hd hfl;obtain ⟨hT, hs12, hs13⟩ := hb;have e1 : val 1 = _ := hd 1 (memB_mem.1 rfl);have ha := ha.s1 (d := 34) rfl e1
     exact ss_val ha rfl rfl (ld_3 rfl ((q11.touch hT (by simp only [List.mem_cons, List.not_mem_nil, or_false, not_or]; exact ⟨n2_11.symm, n3_11.symm⟩)).at (j := 2) rfl)) rfl rfl
    | 3, _ =>
     intro val fl w1 a hb ha hd hfl;obtain ⟨hT, hs12, hs13⟩ := hb;have e0 : val 0 = _ := hd 0 (memB_mem.1 rfl);have e2 : val 2 = _ := hd 2 (memB_mem.1 rfl);have ha := ha.s2 (d := 35) (e := 33) rfl e2 rfl e0
     exact ss_val ha rfl rfl (x_add rfl rfl (by first | assumption | exact IntWalk.i64_in _ ⟨by omega, by omega⟩)) rfl rfl
    | 4, _ =>
     intro val fl w1 a hb ha hd hfl;obtain ⟨hT, hs12, hs13⟩ := hb;have ha := ha.s0 (d := 5) rfl
     exact ss_val ha rfl rfl (ld_3 rfl ((hs13 (hfl 13 (by simp) (memB_mem.1 rfl))).at (j := 0) rfl)) rfl rfl
    | 5, _ =>
     intro val fl w1 a hb ha hd hfl;obtain ⟨hT, hs12, hs13⟩ := hb;have ha := ha.s0 (d := 11) rfl
     exact ss_val ha rfl rfl (fa_52_2 rfl) rfl rfl
    | 6, _ =>
     intro val fl w1 a hb ha hd hfl;obtain ⟨hT, hs12, hs13⟩ := hb;have e5 : val 5 = _ := hd 5 (memB_mem.1 rfl);have ha := ha.s1 (d := 38) rfl e5
     exact ss_val ha rfl rfl (ld_3 rfl ((q11.touch hT (by simp only [List.mem_cons, List.not_mem_nil, or_false, not_or]; exact ⟨n2_11.symm, n3_11.symm⟩)).at (j := 3) rfl)) rfl rfl
    | 7, _ =>
     intro val fl w1 a hb ha hd hfl;obtain ⟨hT, hs12, hs13⟩ := hb;have e4 : val 4 = _ := hd 4 (memB_mem.1 rfl);have e6 : val 6 = _ := hd 6 (memB_mem.1 rfl);have ha := ha.s2 (d := 39) (e := 37) rfl e6 rfl e4
     exact ss_val ha rfl rfl (x_add rfl rfl (by first | assumption | exact IntWalk.i64_in _ ⟨by omega, by omega⟩)) rfl rfl
    | 8, _ =>
     intro val fl w1 a hb ha hd hfl;obtain ⟨hT, hs12, hs13⟩ := hb;have ha := ha.s0 (d := 6) rfl
     exact ss_val ha rfl rfl (ld_3 rfl ((pq6.touch hT (by simp only [List.mem_cons, List.not_mem_nil, or_false, not_or]; exact ⟨n2_4.symm, n3_4.symm⟩)).at (j := 0) rfl)) rfl rfl
    | 9, _ =>
     intro val fl w1 a hb ha hd hfl;obtain ⟨hT, hs12, hs13⟩ := hb;have ha := ha.s0 (d := 11) rfl
     exact ss_val ha rfl rfl (fa_52_3 rfl) rfl rfl
    | 10, _ =>
     intro val fl w1 a hb ha hd hfl;obtain ⟨hT, hs12, hs13⟩ := hb;have e9 : val 9 = _ := hd 9 (memB_mem.1 rfl);have ha := ha.s1 (d := 42) rfl e9
     exact ss_val ha rfl rfl (ld_3 rfl ((q11.touch hT (by simp only [List.mem_cons, List.not_mem_nil, or_false, not_or]; exact ⟨n2_11.symm, n3_11.symm⟩)).at (j := 4) rfl)) rfl rfl
    | 11, _ =>
     intro val fl w1 a hb ha hd hfl;obtain ⟨hT, hs12, hs13⟩ := hb;have e8 : val 8 = _ := hd 8 (memB_mem.1 rfl);have e10 : val 10 = _ := hd 10 (memB_mem.1 rfl);have ha := ha.s2 (d := 43) (e := 41) rfl e10 rfl e8
     exact ss_val ha rfl rfl (x_add rfl rfl (by first | assumption | exact IntWalk.i64_in _ ⟨by omega, by omega⟩)) rfl rfl
    | 12, _ =>
     exact absurd (by simp) hs_
    | 13, _ =>
     exact absurd (by simp) hs_
    | k + 14, h => exact absurd h (by omega)
   ·simp only [List.mem_cons, List.not_mem_nil, or_false] at hi_; rcases hi_ with rfl | rfl
    ·
     intro val fl w1 a hb hfi ha hd hfl;obtain ⟨hT, hs12, hs13⟩ := hb;have e3 : val 3 = _ := hd 3 (memB_mem.1 rfl);have ha := ha.sub (Sub.ins (d := 36) (Sub.ins (d := 4) (Sub.nil _) rfl) (dep_get rfl e3));refine ts_store ha rfl rfl rfl (hs12 hfi) sz_3 rfl rfl rfl rfl ?_;intro w' hq hgr;refine ⟨undef, rfl, hgr.size, ⟨hT.grown hgr (by simp), (fun h => by rw [fset_eq] at h; cases h), (fun h => (hs13 (by rwa [fset_ne rfl] at h)).grown hgr (fun h => n2_3.symm (Option.some.inj h)))⟩, hq, fun j _ hj hn hA => ?_⟩
     exact phiS_cons_st (C := fun j => j ≠ 12 ∧ 12 ∉ clsAt [[], [], [1], [0, 1, 2], [], [], [5], [4, 5, 6], [], [], [9], [8, 9, 10], [0, 1, 2, 3], [0, 1, 2, 3, 4, 5, 6, 7, 12], [0, 1, 2, 3, 4, 5, 6, 7, 8, 9, 10, 11, 12, 13]] j) (fun hc => absurd rfl hc.1) (phiS_cons_st (C := fun j => j ≠ 12 ∧ 12 ∉ clsAt [[], [], [1], [0, 1, 2], [], [], [5], [4, 5, 6], [], [], [9], [8, 9, 10], [0, 1, 2, 3], [0, 1, 2, 3, 4, 5, 6, 7, 12], [0, 1, 2, 3, 4, 5, 6, 7, 8, 9, 10, 11, 12, 13]] j) (fun _ h => h.grown hgr (fun h => n2_3.symm (Option.some.inj h))) (fun _ _ h => h)) j ⟨hj, hn⟩
    ·
     intro val fl w1 a hb hfi ha hd hfl;obtain ⟨hT, hs12, hs13⟩ := hb;have e7 : val 7 = _ := hd 7 (memB_mem.1 rfl);have ha := ha.sub (Sub.ins (d := 40) (Sub.ins (d := 5) (Sub.nil _) rfl) (dep_get rfl e7));refine ts_store ha rfl rfl rfl (hs13 hfi) sz_3 rfl rfl rfl rfl ?_;intro w' hq hgr;refine ⟨undef, rfl, hgr.size, ⟨hT.grown hgr (by simp), (fun h => (hs12 (by rwa [fset_ne rfl] at h)).grown hgr (fun h => n2_3 (Option.some.inj h))), (fun h => by rw [fset_eq] at h; cases h)⟩, hq, fun j _ hj hn hA => ?_⟩
     exact phiS_cons_st (C := fun j => j ≠ 13 ∧ 13 ∉ clsAt [[], [], [1], [0, 1, 2], [], [], [5], [4, 5, 6], [], [], [9], [8, 9, 10], [0, 1, 2, 3], [0, 1, 2, 3, 4, 5, 6, 7, 12], [0, 1, 2, 3, 4, 5, 6, 7, 8, 9, 10, 11, 12, 13]] j) (fun _ h => h.grown hgr (fun h => n2_3 (Option.some.inj h))) (phiS_cons_st (C := fun j => j ≠ 13 ∧ 13 ∉ clsAt [[], [], [1], [0, 1, 2], [], [], [5], [4, 5, 6], [], [], [9], [8, 9, 10], [0, 1, 2, 3], [0, 1, 2, 3, 4, 5, 6, 7, 12], [0, 1, 2, 3, 4, 5, 6, 7, 8, 9, 10, 11, 12, 13]] j) (fun hc => absurd rfl hc.1) (fun _ _ h => h)) j ⟨hj, hn⟩
   ·intro val fl wR7 hfl hb halc hd
    have hT := hb.1;clear hb;have e0 : val 0 = _ := hd 0 (by omega)
    have e1 : val 1 = _ := hd 1 (by omega)
    have e2 : val 2 = _ := hd 2 (by omega)
    have e3 : val 3 = _ := hd 3 (by omega)
    have e4 : val 4 = _ := hd 4 (by omega)
    have e5 : val 5 = _ := hd 5 (by omega)
    have e6 : val 6 = _ := hd 6 (by omega)
    have e7 : val 7 = _ := hd 7 (by omega)
    have e8 : val 8 = _ := hd 8 (by omega)
    have e9 : val 9 = _ := hd 9 (by omega)
    have e10 : val 10 = _ := hd 10 (by omega)
    have e11 : val 11 = _ := hd 11 (by omega)
    refine EL.ends (cs := [_, _, _, _, _, _, _, _, _, _, _, _, val 12, val 13]) ⟨e0, e1, e2, e3, e4, e5, e6, e7, e8, e9, e10, e11, rfl, rfl, trivial⟩ rfl ?_;replace pq2 := pq2.touch hT (by simp only [List.mem_cons, List.not_mem_nil, or_false, not_or]; exact ⟨n1_2, n1_3⟩)
    have pq4 : Blk wR7 g2 3 #[.int .i64 (bm + (ru.kinds.getD k kd0).mins)] := hd 12 (by omega)
    have pq5 : Blk wR7 g3 3 #[.int .i64 (bw + (ru.kinds.getD k kd0).water)] := hd 13 (by omega)
    replace pq6 := pq6.touch hT (by simp only [List.mem_cons, List.not_mem_nil, or_false, not_or]; exact ⟨n2_4.symm, n3_4.symm⟩)
    replace pq8 := pq8.touch hT (by simp only [List.mem_cons, List.not_mem_nil, or_false, not_or]; exact ⟨nm_2.symm, nm_3.symm⟩)
    replace q11 := q11.touch hT (by simp only [List.mem_cons, List.not_mem_nil, or_false, not_or]; exact ⟨n2_11.symm, n3_11.symm⟩)
    replace hbw := hT.anchor hbw (by simp only [List.mem_cons, List.not_mem_nil, or_false, forall_eq_or_imp, forall_eq]; exact ⟨bhbw_2, bhbw_3⟩)
    have hT7 := hT;replace hkp := hkp.trans (touch_kp hT7 (by simp only [List.mem_cons, List.not_mem_nil, or_false, forall_eq_or_imp, forall_eq]; exact ⟨⟨hbb_2, _, _, rfl, hA4⟩, hbb_3, _, _, rfl, hA5⟩) hszA)
    replace hkf := hkf.trans (.of (touch_others hT7 (by simp only [List.mem_cons, List.not_mem_nil, or_false, forall_eq_or_imp, forall_eq]; exact ⟨⟨_, _, hA4⟩, _, _, hA5⟩)))
    clear hT hT7;refine EL.store rfl rfl pq6 sz_3 rfl rfl rfl rfl ?_;intro w13 hq13 hg13;replace pq2 := pq2.gr hg13 n1_4;replace pq4 := pq4.gr hg13 n2_4;replace pq5 := pq5.gr hg13 n3_4;replace pq8 := pq8.gr hg13 nm_4.symm;replace q11 := q11.gr hg13 n4_11.symm;replace hkp := hkp.trans (Kp.grown pq6 rfl bhbw_4 hg13);replace hkf := hkf.trans (.of (keeps_blk pq6 hg13));replace hbw := below_store hbw hg13 bhbw_4;replace pq6 := hq13;clear hg13 hq13;refine EL.nil (EX.toI (EXI.blk ?_))
    exact fun a0 ha0 => ⟨hkf, hkp, .inl ⟨rfl, pq2, by rw [hminss]; exact pq4, by rw [hwaters]; exact pq5, by rw [hcosts]; exact pq6, hbw⟩⟩
  ·rintro D xs W hD hall ⟨q2, q4, q5, q6, hbw⟩ hkp hdef
   have hxl : xs.length = (wsL l l.length).length := by have := congrArg List.length hall; simpa [allW] using this
   rw [hxl] at q4 q5 q6;have hdm : Marks w.heap.size [{ target := .collected D, args := #[] }] W := fun d hd => ⟨D, Nat.le_trans hsz hD, List.mem_singleton.1 hd, hdef⟩
   refine EXI.blk (EXI.seqw (ECI.seq ?_));have hA4 := q4;have hA5 := q5;have hszA := hbw.size;have lt_2 := q4.lt;have lt_3 := q5.lt;have lt_4 := q6.lt;refine ECI.regionD (EO.regionS [[], [], [], [0], [0, 1, 3], [0, 1, 2, 3, 4], [0, 1, 2, 3, 4, 5]] 5 [] [3, 4] (fun fl w_ => Touch W w_ [g2, g3] ∧ (fl 3 = false → Blk w_ g2 3 #[.int .i64 (billS (·.mins) ru l (wsL l l.length).length)]) ∧ (fl 4 = false → Blk w_ g3 3 #[.int .i64 (billS (·.water) ru l (wsL l l.length).length)])) (phiS (fun i_ r => match i_ with | 0 => r 0 = .int .i64 (billS (·.mins) ru l (wsL l l.length).length) | 1 => r 1 = .int .i64 (billS (·.water) ru l (wsL l l.length).length) | 2 => r 2 = .int .i64 (billS (·.cost) ru l (wsL l l.length).length) | _ => True) [(3, fun _ r w_ => Blk w_ g2 3 #[.int .i64 (billS (·.mins) ru l (wsL l l.length).length)]), (4, fun _ r w_ => Blk w_ g3 3 #[.int .i64 (billS (·.water) ru l (wsL l l.length).length)])]) (by kernel_rfl) rfl rfl (by intro i hi; simp at hi; rcases hi with rfl | rfl <;> exact ⟨by simp, by omega⟩) ⟨fun _ _ => ⟨Touch.start _ _, fun _ => q4, fun _ => q5⟩, fun _ _ _ ⟨hT, hs3, hs4⟩ hb => ⟨hT.below hb, fun h => (hs3 h).below hb (hs3 h).lt, fun h => (hs4 h).below hb (hs4 h).lt⟩, fun _ _ h => h.1.size⟩ (phiS_cons monoS_own (phiS_cons monoS_own (phiS_nil))) (fun i_ hi_ hs_ => ?_) (fun i_ hi_ => ?_) ?_)
   ·match i_, hi_ with
    | 0, _ =>
     intro val fl w1 a hb ha hd hfl;obtain ⟨hT, hs3, hs4⟩ := hb;have ha := ha.s0 (d := 4) rfl
     exact ss_val ha rfl rfl (ld_3 rfl ((hs3 (hfl 3 (by simp) (memB_mem.1 rfl))).at (j := 0) rfl)) rfl rfl
    | 1, _ =>
     intro val fl w1 a hb ha hd hfl;obtain ⟨hT, hs3, hs4⟩ := hb;have ha := ha.s0 (d := 5) rfl
     exact ss_val ha rfl rfl (ld_3 rfl ((hs4 (hfl 4 (by simp) (memB_mem.1 rfl))).at (j := 0) rfl)) rfl rfl
    | 2, _ =>
     intro val fl w1 a hb ha hd hfl;obtain ⟨hT, hs3, hs4⟩ := hb;have ha := ha.s0 (d := 6) rfl
     exact ss_val ha rfl rfl (ld_3 rfl ((q6.touch hT (by simp only [List.mem_cons, List.not_mem_nil, or_false, not_or]; exact ⟨n2_4.symm, n3_4.symm⟩)).at (j := 0) rfl)) rfl rfl
    | 3, _ =>
     exact absurd (by simp) hs_
    | 4, _ =>
     exact absurd (by simp) hs_
    | k + 5, h => exact absurd h (by omega)
   ·simp only [List.mem_cons, List.not_mem_nil, or_false] at hi_; rcases hi_ with rfl | rfl
    ·
     intro val fl w1 a hb hfi ha hd hfl;obtain ⟨hT, hs3, hs4⟩ := hb;have e0 : val 0 = _ := hd 0 (memB_mem.1 rfl);have ha := ha.sub (Sub.ins (d := 45) (Sub.ins (d := 4) (Sub.nil _) rfl) (dep_get rfl e0));refine ts_store ha rfl rfl rfl (hs3 hfi) sz_3 rfl rfl rfl rfl ?_;intro w' hq hgr;refine ⟨undef, rfl, hgr.size, ⟨hT.grown hgr (by simp), (fun h => by rw [fset_eq] at h; cases h), (fun h => (hs4 (by rwa [fset_ne rfl] at h)).grown hgr (fun h => n2_3.symm (Option.some.inj h)))⟩, hq, fun j _ hj hn hA => ?_⟩
     exact phiS_cons_st (C := fun j => j ≠ 3 ∧ 3 ∉ clsAt [[], [], [], [0], [0, 1, 3], [0, 1, 2, 3, 4], [0, 1, 2, 3, 4, 5]] j) (fun hc => absurd rfl hc.1) (phiS_cons_st (C := fun j => j ≠ 3 ∧ 3 ∉ clsAt [[], [], [], [0], [0, 1, 3], [0, 1, 2, 3, 4], [0, 1, 2, 3, 4, 5]] j) (fun _ h => h.grown hgr (fun h => n2_3.symm (Option.some.inj h))) (fun _ _ h => h)) j ⟨hj, hn⟩
    ·
     intro val fl w1 a hb hfi ha hd hfl;obtain ⟨hT, hs3, hs4⟩ := hb;have e1 : val 1 = _ := hd 1 (memB_mem.1 rfl);have ha := ha.sub (Sub.ins (d := 46) (Sub.ins (d := 5) (Sub.nil _) rfl) (dep_get rfl e1));refine ts_store ha rfl rfl rfl (hs4 hfi) sz_3 rfl rfl rfl rfl ?_;intro w' hq hgr;refine ⟨undef, rfl, hgr.size, ⟨hT.grown hgr (by simp), (fun h => (hs3 (by rwa [fset_ne rfl] at h)).grown hgr (fun h => n2_3 (Option.some.inj h))), (fun h => by rw [fset_eq] at h; cases h)⟩, hq, fun j _ hj hn hA => ?_⟩
     exact phiS_cons_st (C := fun j => j ≠ 4 ∧ 4 ∉ clsAt [[], [], [], [0], [0, 1, 3], [0, 1, 2, 3, 4], [0, 1, 2, 3, 4, 5]] j) (fun _ h => h.grown hgr (fun h => n2_3 (Option.some.inj h))) (phiS_cons_st (C := fun j => j ≠ 4 ∧ 4 ∉ clsAt [[], [], [], [0], [0, 1, 3], [0, 1, 2, 3, 4], [0, 1, 2, 3, 4, 5]] j) (fun hc => absurd rfl hc.1) (fun _ _ h => h)) j ⟨hj, hn⟩
   ·intro val fl wR8 hfl hb halc hd
    have hT := hb.1;clear hb;have e0 : val 0 = _ := hd 0 (by omega)
    have e1 : val 1 = _ := hd 1 (by omega)
    have e2 : val 2 = _ := hd 2 (by omega)
    refine EL.ends (cs := [_, _, _, val 3, val 4]) ⟨e0, e1, e2, rfl, rfl, trivial⟩ rfl ?_;have q4 : Blk wR8 g2 3 #[.int .i64 (billS (·.mins) ru l (wsL l l.length).length)] := hd 3 (by omega)
    have q5 : Blk wR8 g3 3 #[.int .i64 (billS (·.water) ru l (wsL l l.length).length)] := hd 4 (by omega)
    replace q6 := q6.touch hT (by simp only [List.mem_cons, List.not_mem_nil, or_false, not_or]; exact ⟨n2_4.symm, n3_4.symm⟩)
    replace hbw := hT.anchor hbw (by simp only [List.mem_cons, List.not_mem_nil, or_false, forall_eq_or_imp, forall_eq]; exact ⟨bhbw_2, bhbw_3⟩)
    replace hdm := hdm.keeps (touch_others hT (by simp only [List.mem_cons, List.not_mem_nil, or_false, forall_eq_or_imp, forall_eq]; exact ⟨⟨_, _, hA4⟩, _, _, hA5⟩))
    clear hT;refine EL.store rfl rfl q6 sz_3 rfl rfl rfl rfl ?_;intro w14 hq14 hg14;replace q4 := q4.gr hg14 n2_4;replace q5 := q5.gr hg14 n3_4;replace hdm := hdm.keeps (keeps_blk q6 hg14);replace hbw := below_store hbw hg14 bhbw_4;replace q6 := hq14;clear hg14 hq14;refine EL.as rfl rfl (EL.nil (EX.ofD (EXI.seq (ECI.ret ?_))))
    exact EXI.done hdm (by simp) (v := .tuple #[.int .i64 (billS (·.mins) ru l (wsL l l.length).length), .int .i64 (billS (·.water) ru l (wsL l l.length).length), .int .i64 (billS (·.cost) ru l (wsL l l.length).length), .int .i64 0]) (fun w' ht => resc3t rfl rfl rfl rfl rfl (lv_3 ((ht.blk _ _ _ q4).at (j := 0) rfl)) (lv_3 ((ht.blk _ _ _ q5).at (j := 0) rfl)) (lv_3 ((ht.blk _ _ _ q6).at (j := 0) rfl))) (fun w' ht => ⟨by rw [billE, if_pos hz], hbw.trans ht.below⟩)
  ·intro D pre W hD hne hall h
   exact absurd h id
 ·
  refine EL.val (x_neq (r := true) rfl rfl (decide_eq_true hz)) rfl (EL.nil (EX.seq (EC.yes rfl (EC.seq (EC.region (EL.mv rfl rfl (EL.store rfl rfl q2 sz_3 rfl rfl rfl rfl ?_)))))));intro w15 hq15 hg15;replace q1 := q1.gr hg15 n1_2;replace q3 := q3.gr hg15 n2_3.symm;replace q4 := q4.gr hg15 n2_4.symm;replace q6 := q6.gr hg15 n2_6.symm;replace q7 := q7.gr hg15 n2_7.symm;replace hbw := below_store hbw hg15 bhbw_2;replace q2 := hq15;clear hg15 hq15;refine EL.store rfl rfl q3 sz_3 rfl rfl rfl rfl ?_;intro w16 hq16 hg16;replace q1 := q1.gr hg16 n1_3;replace q2 := q2.gr hg16 n2_3;replace q4 := q4.gr hg16 n3_4.symm;replace q6 := q6.gr hg16 n3_6.symm;replace q7 := q7.gr hg16 n3_7.symm;replace hbw := below_store hbw hg16 bhbw_3;replace q3 := hq16;clear hg16 hq16;refine EL.store rfl rfl q4 sz_3 rfl rfl rfl rfl ?_;intro w17 hq17 hg17;replace q1 := q1.gr hg17 n1_4;replace q2 := q2.gr hg17 n2_4;replace q3 := q3.gr hg17 n3_4;replace q6 := q6.gr hg17 n4_6.symm;replace q7 := q7.gr hg17 n4_7.symm;replace hbw := below_store hbw hg17 bhbw_4;replace q4 := hq17;clear hg17 hq17;refine EL.as rfl rfl (EL.nil (EX.seq (EC.ret (EX.seq_ret ?_))))
  exact EX.doneM (resc3t rfl rfl rfl rfl rfl (lv_3 (q2.at (j := 0) rfl)) (lv_3 (q3.at (j := 0) rfl)) (lv_3 (q4.at (j := 0) rfl))) ⟨by rw [billE, if_neg hz]; rfl, hbw⟩
def stC (x : St) : List Value := [.int .i64 (x.tank : Nat), .int .i64 x.wash]
def stsC (l : List St) : List Value := l.flatMap stC
theorem stC_len (x : St) : (stC x).length = 2 := rfl
theorem stsC_len (l : List St) : (stsC l).length = l.length * 2 := flat_len stC_len l
theorem stsC_app {l m : List St} : stsC (l ++ m) = stsC l ++ stsC m := List.flatMap_append
theorem st_info : (Try.prog.info? 70).map (fun i => (i.zero, i.size, i.bytes)) = some (some (.agg #[.int .i64 0, .int .i64 0]), 2, 16) := by kernel_rfl
theorem st_elem : Elem Try.prog 65 70 2 16 := Elem.mk' Try.underlying65 st_info rfl (by omega)
def st0 : St := ⟨0, 0⟩
theorem sts_cells (l : List St) (k : Nat) (hk : k < l.length) (w : World) (B : Nat) (A : Option Addr) (n c : Nat) (hr : Rd w B 2 (.slice A n c) n (stsC l)) :
  ∃ b off, A = some ⟨b, off, none⟩ ∧ b < B ∧ w.cell? ⟨b, off + k * 2, none⟩ = some (.int .i64 ((l.getD k st0).tank : Nat)) ∧ w.cell? ⟨b, off + k * 2 + 1, none⟩ = some (.int .i64 (l.getD k st0).wash) := by
 have hl : n * 2 = l.length * 2 := by rw [← hr.len, stsC_len]
 obtain ⟨b, off, rfl, hb, hc⟩ := hr.at_ (by omega)
 have e : l.getD k st0 = l[k] := by simp [hk]
 rw [e];have g := fun j hj => flat_get stC_len l k hk j hj
 exact ⟨b, off, rfl, hb, hc (k * 2) _ (g 0 (by omega)), hc (k * 2 + 1) _ (g 1 (by omega))⟩
/-! ### Numbers that are compared -/
def orL : List Int → Int
 | [] => 0
 | a :: l => if a = 0 then orL l else a
theorem orL_2 (a b : Int) : orL [a, b] = or3 a b := by
 unfold orL or3 orL orL
 split
 ·split <;> omega
 ·rfl
theorem orL_3 (a b c : Int) : orL [a, b, c] = or3 a (or3 b c) := by
 unfold orL or3
 split
 ·exact orL_2 b c
 ·rfl
theorem orL_skip {l : List Int} {k : Nat} (h : ∀ i, i < k → l.getD i 0 = 0) (hk : k ≤ l.length) : orL l = orL (l.drop k) := by
 induction k with
 | zero => rfl
 | succ k ih =>
  rw [ih (fun i hi => h i (by omega)) (by omega), List.drop_eq_getElem_cons (by omega)]
  have h0 := h k (by omega)
  rw [getD_in (by omega)] at h0
  show (if _ = 0 then _ else _) = _
  rw [if_pos h0]
theorem cmpL_drop {l m : List St} : ∀ {k : Nat}, (∀ i, i < k → cmpSt (l.getD i st0) (m.getD i st0) = 0) → k ≤ l.length → k ≤ m.length → cmpL cmpSt l m = cmpL cmpSt (l.drop k) (m.drop k)
 | 0, _, _, _ => rfl
 | k + 1, h, h1, h2 => by
  rw [cmpL_drop (k := k) (fun i hi => h i (by omega)) (by omega) (by omega), List.drop_eq_getElem_cons (show k < l.length by omega), List.drop_eq_getElem_cons (show k < m.length by omega)]
  have h0 := h k (by omega)
  rw [getD_in (by omega), getD_in (by omega)] at h0
  show or3 _ _ = _
  rw [h0]
  rfl
theorem cmpL_at {l m : List St} {k : Nat} (h : ∀ i, i < k → cmpSt (l.getD i st0) (m.getD i st0) = 0) (h1 : k < l.length) (h2 : k < m.length) (hn : cmpSt (l.getD k st0) (m.getD k st0) ≠ 0) : cmpL cmpSt l m = cmpSt (l.getD k st0) (m.getD k st0) := by
 rw [cmpL_drop h (by omega) (by omega), List.drop_eq_getElem_cons h1, List.drop_eq_getElem_cons h2]
 rw [getD_in h1, getD_in h2] at hn ⊢
 show or3 _ _ = _
 exact if_neg hn
theorem cmpL_more {l m : List St} {k : Nat} (h : ∀ i, i < k → cmpSt (l.getD i st0) (m.getD i st0) = 0) (h1 : k < l.length) (h2 : m.length ≤ k) (h3 : k ≤ m.length) : cmpL cmpSt l m = 1 := by
 rw [cmpL_drop h (by omega) h3, List.drop_eq_getElem_cons h1, List.drop_eq_nil_of_le h2]
 rfl
theorem cmpL_end {l m : List St} (h : ∀ i, i < l.length → cmpSt (l.getD i st0) (m.getD i st0) = 0) (h1 : l.length ≤ m.length) : cmpL cmpSt l m = if l.length < m.length then -1 else 0 := by
 rw [cmpL_drop h (Nat.le_refl _) h1, List.drop_length]
 split
 ·rename_i h2
  rw [List.drop_eq_getElem_cons h2]
  rfl
 ·rw [List.drop_eq_nil_of_le (by omega)]
  rfl
section
variable {n : Nat} {σ : Sg} {w : World} {dst : Option Tmp} {ty : TypeId} {pos : String} {af : Array Edge} {g : Option (Nat × Bool)} {x y z : Operand} {at' : Array TypeId}
theorem cF106 : cF 106 := fun _ _ => by simp [go_sem]
theorem bx_70 {v0 v1 : Value} (hx : evS σ x = some (.agg #[v0, v1])) (a : Act) (ha : Env n σ a) : (execOp a.eval ⟨dst, .box 70 x, ty, pos, af, g⟩).run Try.prog w = .ok (.value (.pointer (some ⟨w.heap.size, 0, none⟩))) (w.alloc (.cells #[v0, v1] 70)) := by
 simp only [execOp, ha.eval hx]
 simp [go_sem]
theorem fa_70_0 {b o : Nat} (hx : evS σ x = some (.pointer (some ⟨b, o, none⟩))) : Gives Try.prog n σ w ⟨dst, .fieldAddr 70 x 0, ty, pos, af, g⟩ (.pointer (some ⟨b, o, none⟩)) := fun a ha => by
 simp only [execOp, ha.eval hx]
 simp [go_sem]
theorem cF103 : cF 103 := fun _ _ => by simp [go_sem]
theorem fa_70_1 {b o : Nat} (hx : evS σ x = some (.pointer (some ⟨b, o, none⟩))) : Gives Try.prog n σ w ⟨dst, .fieldAddr 70 x 1, ty, pos, af, g⟩ (.pointer (some ⟨b, o + 1, none⟩)) := fun a ha => by
 simp only [execOp, ha.eval hx]
 simp [go_sem]
theorem cF102 : cF 102 := fun _ _ => by simp [go_sem]
theorem ln_65 {A : Option Addr} {m c : Nat} (hx : evS σ x = some (.slice A m c)) : Gives Try.prog n σ w ⟨dst, .call { callee := .builtin .len, args := #[x], argTypes := #[65] }, ty, pos, af, g⟩ (.int .i64 (m : Int)) := fun a ha => by
 simp only [execOp, resolve, List.map_toArray, List.map_cons, List.map_nil, ha.eval hx]
 simp [go_sem]
theorem ix_65 {b o m c k : Nat} (hx : evS σ x = some (.slice (some ⟨b, o, none⟩) m c)) (hy : evS σ y = some (.int .i64 (k : Int))) (hk : k < m) : Gives Try.prog n σ w ⟨dst, .indexAddr 65 x y, ty, pos, af, g⟩ (.pointer (some ⟨b, o + k * 2, none⟩)) := fun a ha => by
 have k0 : (0 : Int) ≤ (k : Int) := Int.natCast_nonneg _;have k1 : (k : Int) < (m : Int) := by omega
 simp only [execOp, ha.eval hx, ha.eval hy]
 simp [go_sem, k0, k1]
theorem ld_70 {b o : Nat} {v0 v1 : Value} (hx : evS σ x = some (.pointer (some ⟨b, o, none⟩))) (c0 : w.cell? ⟨b, o, none⟩ = some v0) (c1 : w.cell? ⟨b, o + 1, none⟩ = some v1) : Gives Try.prog n σ w ⟨dst, .load 70 x, ty, pos, af, g⟩ (.agg #[v0, v1]) := fun a ha => by
 simp only [execOp, ha.eval hx]
 simp [go_sem, c0, c1]
theorem al_70 (a : Act) (_ : Env n σ a) : (execOp a.eval ⟨dst, .alloc 70, ty, pos, af, g⟩).run Try.prog w = .ok (.value (.pointer (some ⟨w.heap.size, 0, none⟩))) (w.alloc (.cells #[.int .i64 0, .int .i64 0] 70)) := by
 simp only [execOp]
 simp [go_sem]
theorem sz_70 : (Try.prog.info? 70).map (·.size) = some 2 := by kernel_rfl
theorem clv_105_0_2_0 {xf x0 x1 : Operand} {v0 v1 : Value} (hf : evS σ xf = some (.func (.func 105) #[] #[])) (h0 : evS σ x0 = some v0) (h1 : evS σ x1 = some v1) (a : Act) (ha : Env n σ a) : (execOp a.eval ⟨dst, .call { callee := .value xf, args := #[x0, x1], argTypes := at' }, ty, pos, af, g⟩).run Try.prog w = .ok (.enter 105 #[v0, v1]) w := by
 simp only [execOp, resolve, List.map_toArray, List.map_cons, List.map_nil, ha.eval hf, ha.eval h0, ha.eval h1]
 simp [go_sem, Deferred.ofValue]
theorem bx_134 {v0 v1 v2 : Value} (hx : evS σ x = some (.agg #[v0, v1, v2])) (a : Act) (ha : Env n σ a) : (execOp a.eval ⟨dst, .box 134 x, ty, pos, af, g⟩).run Try.prog w = .ok (.value (.pointer (some ⟨w.heap.size, 0, none⟩))) (w.alloc (.cells #[v0, v1, v2] 134)) := by
 simp only [execOp, ha.eval hx]
 simp [go_sem]
theorem bs_22_3 {x0 x1 x2 : Operand} {z0_0 z1_0 z2_0 : Int} (h0 : evS σ x0 = some (.int .i64 z0_0)) (h1 : evS σ x1 = some (.int .i64 z1_0)) (h2 : evS σ x2 = some (.int .i64 z2_0)) (a : Act) (ha : Env n σ a) : (execOp a.eval ⟨dst, .buildSlice 22 3 #[(0, x0), (1, x1), (2, x2)], ty, pos, af, g⟩).run Try.prog w = .ok (.value (.slice (some ⟨w.heap.size, 0, none⟩) 3 3)) (w.alloc (.cells #[.int .i64 z0_0, .int .i64 z1_0, .int .i64 z2_0] 3)) := by
 simp only [execOp, List.map_toArray, List.map_cons, List.map_nil, ha.eval h0, ha.eval h1, ha.eval h2]
 go_simp
theorem fa_134_1 {b o : Nat} (hx : evS σ x = some (.pointer (some ⟨b, o, none⟩))) : Gives Try.prog n σ w ⟨dst, .fieldAddr 134 x 1, ty, pos, af, g⟩ (.pointer (some ⟨b, o + 1, none⟩)) := fun a ha => by
 simp only [execOp, ha.eval hx]
 simp [go_sem]
theorem fa_134_2 {b o : Nat} (hx : evS σ x = some (.pointer (some ⟨b, o, none⟩))) : Gives Try.prog n σ w ⟨dst, .fieldAddr 134 x 2, ty, pos, af, g⟩ (.pointer (some ⟨b, o + 2, none⟩)) := fun a ha => by
 simp only [execOp, ha.eval hx]
 simp [go_sem]
theorem fa_134_0 {b o : Nat} (hx : evS σ x = some (.pointer (some ⟨b, o, none⟩))) : Gives Try.prog n σ w ⟨dst, .fieldAddr 134 x 0, ty, pos, af, g⟩ (.pointer (some ⟨b, o, none⟩)) := fun a ha => by
 simp only [execOp, ha.eval hx]
 simp [go_sem]
theorem ld_65 {b o : Nat} {v0 : Value} (hx : evS σ x = some (.pointer (some ⟨b, o, none⟩))) (c0 : w.cell? ⟨b, o, none⟩ = some v0) : Gives Try.prog n σ w ⟨dst, .load 65 x, ty, pos, af, g⟩ (v0) := fun a ha => by
 simp only [execOp, ha.eval hx]
 simp [go_sem, c0]
theorem cF104 : cF 104 := fun _ _ => by simp [go_sem]
end
theorem isNaN_any (x : Int) (w : World) : Calls Try.prog 106 #[.int .i64 x] w fun e w' => e = .returned (.bool false) ∧ Below w.heap.size w w' := by
 have hbw := Below.refl w.heap.size w;refine EC.enter 6 Try.func106 rfl rfl rfl (EC.seq (EC.region (EL.as rfl rfl (EL.nil (EX.seq (EC.seq (EC.region (EL.mv rfl rfl (EL.mv rfl rfl ?_)))))))));refine EL.val (x_neq (r := false) rfl rfl (decide_eq_false (fun h => h rfl))) rfl ?_
 refine EL.as rfl rfl (EL.nil (EX.seq (EC.ret ?_)))
 exact EX.done (res1 rfl rfl) ⟨rfl, hbw⟩
theorem Compare_any (x y : Int) (w : World) : Calls Try.prog 103 #[.int .i64 x, .int .i64 y] w fun e w' => e = .returned (.int .i64 (c3 x y)) ∧ Below w.heap.size w w' := by
 have hbw := Below.refl w.heap.size w;refine EC.enter 20 Try.func103 rfl rfl rfl (EC.seq (EC.region (EL.as rfl rfl (EL.nil (EX.seq (EC.seq (EC.region (EL.mv rfl rfl (EL.call (cA1 cF106 rfl) rfl (isNaN_any _ _) ?_)))))))))
 rintro e w1 ⟨rfl, hc1⟩
 refine ⟨_, rfl, ?_⟩;replace hbw := bo_ hbw hc1;clear hc1;refine EL.as rfl rfl (EL.nil (EX.seq (EC.seq (EC.region (EL.mv rfl rfl (EL.call (cA1 cF106 rfl) rfl (isNaN_any _ _) ?_))))))
 rintro e w2 ⟨rfl, hc2⟩
 refine ⟨_, rfl, ?_⟩;replace hbw := bo_ hbw hc2;clear hc2;refine EL.as rfl rfl (EL.nil (EX.seq (EC.seq (EC.seq (EC.region (EL.mv rfl rfl (EL.nil (EX.seq (EC.no rfl ?_)))))))));refine EC.skip (EX.seq (EC.seq (EC.seq (EC.region (EL.mv rfl rfl (EL.nil (EX.seq (EC.no rfl (EC.skip ?_)))))))));refine EX.seq (EC.seq (EC.seq (EC.region (EL.mv rfl rfl (EL.mv rfl rfl ?_)))))
 by_cases h1 : x < y
 ·
  refine EL.val (x_lss rfl rfl (by first | assumption | exact decide_eq_true (by omega))) rfl ?_
  refine EL.nil (EX.seq (EC.yes rfl (EC.seq (EC.region (EL.as rfl rfl (EL.nil (EX.seq (EC.ret (EX.seq_ret ?_)))))))))
  exact EX.done (res1 rfl rfl) ⟨by unfold c3; simp [*], hbw⟩
 ·
  refine EL.val (x_lss rfl rfl (by first | assumption | exact decide_eq_false (by omega))) rfl ?_
  refine EL.nil (EX.seq (EC.no rfl (EC.skip (EX.seq (EC.seq (EC.seq (EC.region (EL.mv rfl rfl (EL.mv rfl rfl ?_)))))))))
  by_cases h2 : y < x
  ·
   refine EL.val (x_gtr rfl rfl (by first | assumption | exact decide_eq_true (by omega))) rfl ?_
   refine EL.nil (EX.seq (EC.yes rfl (EC.seq (EC.region (EL.as rfl rfl (EL.nil (EX.seq (EC.ret (EX.seq_ret ?_)))))))))
   exact EX.done (res1 rfl rfl) ⟨by unfold c3; simp [*], hbw⟩
  ·
   refine EL.val (x_gtr rfl rfl (by first | assumption | exact decide_eq_false (by omega))) rfl ?_
   refine EL.nil (EX.seq (EC.no rfl (EC.skip (EX.seq (EC.seq (EC.region (EL.as rfl rfl (EL.nil (EX.seq ?_)))))))));refine EC.ret ?_
   exact EX.done (res1 rfl rfl) ⟨by unfold c3; simp [*], hbw⟩
theorem orL_at {l : List Int} {k : Nat} (h : ∀ i, i < k → l.getD i 0 = 0) (hk : k < l.length) (hn : l.getD k 0 ≠ 0) : orL l = l.getD k 0 := by
 rw [orL_skip h (by omega), List.drop_eq_getElem_cons hk]
 rw [getD_in hk] at hn ⊢
 exact if_neg hn
theorem Or_any (l : List Int) (v : Value) (w : World) (B : Nat) (hr : Rd w B 1 v l.length (ints l)) (hB : B ≤ w.heap.size) (hn : l.length ≤ 1048576) :
  Calls Try.prog 102 #[v] w fun e w' => e = .returned (.int .i64 (orL l)) ∧ Below w.heap.size w w' := by
 obtain ⟨A, c, rfl, _⟩ := hr.shape;have hbw := Below.refl w.heap.size w;refine EC.enter 18 Try.func102 rfl rfl rfl (EC.seq (EC.region (EL.as rfl rfl (EL.nil (EX.seq (EC.seq (EC.region (EL.as rfl rfl (EL.nil ?_)))))))));refine EX.seq (EC.seq (EC.seq (EC.region (EL.mv rfl rfl (EL.val (ln_22 rfl) rfl (EL.mv rfl rfl (EL.nil (EX.seq (EC.block ?_)))))))));refine EC.loopD [2, 5, 8, 9, 10, 11, 12, 13, 14, 15, 16] (fun x : Nat => [(8, .int .i64 (x : Nat))]) (fun x W => x ≤ l.length ∧ (∀ i, i < x → l.getD i 0 = 0) ∧ Below w.heap.size w W) (fun x => l.length - x) 0 ⟨Nat.zero_le _, fun i hi => absurd hi (by omega), hbw⟩ ⟨rfl, trivial⟩ ?_
 clear hbw
 rintro x wx ⟨hx, hz, hbw⟩
 by_cases hlt : x < l.length
 ·
  obtain ⟨b, o, rfl, _, hc⟩ := ints_cells l x hlt w w.heap.size _ _ _ (hr.more hB);refine EC.seq (EC.region ?_);refine EL.val (x_lss rfl rfl (decide_eq_true (show (((x : Nat) : Int) < ((l.length : Nat) : Int)) by omega))) rfl ?_
  refine EL.nil (EX.seq (EC.seq (EC.yes rfl (EC.skip (EX.seq (EC.seq (EC.block (EC.seq (EC.region ?_)))))))));refine EL.val (ix_22 rfl rfl hlt) rfl (EL.val (ld_3 rfl (below_load hbw hc)) rfl (EL.as rfl rfl (EL.nil (EX.seq (EC.seq (EC.region (EL.mv rfl rfl (EL.mv rfl rfl ?_))))))))
  by_cases h0 : l.getD x 0 = 0
  ·
   refine EL.val (x_neq (r := false) rfl rfl (decide_eq_false (fun h => h h0))) rfl ?_
   refine EL.nil (EX.seq (EC.no rfl (EC.skip (EX.blk (EX.seq (EC.region ?_))))));refine EL.val (x_add rfl rfl (c := ((x + 1 : Nat) : Int)) ((IntWalk.i64_in _ ⟨by first | omega | (simp only; omega), by first | omega | (simp only; omega)⟩).trans (by first | omega | (simp only; omega)))) rfl ?_
   refine EL.mv rfl rfl (EL.nil ?_);refine EX.roundD (x + 1) ⟨rfl, trivial⟩ (by repeat first | with_reducible exact .refl _ | refine sp_ rfl ?_ | exact .refl _ | refine sd_ rfl ?_ | refine sn_ ?_) ⟨hlt, fun i hi => (by by_cases e : i = x; exact e ▸ h0; exact hz i (by omega)), hbw⟩ (by omega)
  ·
   refine EL.val (x_neq (r := true) rfl rfl (decide_eq_true h0)) rfl (EL.nil (EX.seq (EC.yes rfl (EC.seq (EC.region (EL.mv rfl rfl (EL.as rfl rfl (EL.nil (EX.seq ?_)))))))));refine EC.ret (EX.blk_ret (EX.seq_ret (EX.seq_ret (EX.blk_ret (EX.seq_ret ?_)))))
   exact EX.done (res1 rfl rfl) ⟨by rw [orL_at hz hlt h0], hbw⟩
 ·
  have hxe : x = l.length := by omega
  subst hxe;refine EC.seq (EC.region ?_);refine EL.val (x_lss rfl rfl (decide_eq_false (show ¬(((l.length : Nat) : Int) < ((l.length : Nat) : Int)) by omega))) rfl ?_
  refine EL.nil (EX.seq (EC.seq (EC.no rfl (EC.exit (EX.seq_exit (EX.seq_exit (EX.blk_here (EX.seq (EC.seq ?_)))))))));refine EC.region (EL.mv rfl rfl (EL.as rfl rfl (EL.nil (EX.seq (EC.ret ?_)))))
  exact EX.done (res1 rfl rfl) ⟨by rw [orL_skip hz (Nat.le_refl _), List.drop_length]; rfl, hbw⟩
theorem Or_2 {x y : Int} {g : Nat} {w : World} (hq : Blk w g 3 #[.int .i64 x, .int .i64 y]) :
  Calls Try.prog 102 #[.slice (some ⟨g, 0, none⟩) 2 2] w fun e w' => e = .returned (.int .i64 (or3 x y)) ∧ Below w.heap.size w w' := by
 have key := Or_any [x, y] _ w w.heap.size (rd_blk (k := 2) (l := [.int .i64 x, .int .i64 y]) hq rfl) (Nat.le_refl _) (by simp)
 rw [orL_2] at key
 exact key
theorem Or_3 {x y z : Int} {g : Nat} {w : World} (hq : Blk w g 3 #[.int .i64 x, .int .i64 y, .int .i64 z]) :
  Calls Try.prog 102 #[.slice (some ⟨g, 0, none⟩) 3 3] w fun e w' => e = .returned (.int .i64 (or3 x (or3 y z))) ∧ Below w.heap.size w w' := by
 have key := Or_any [x, y, z] _ w w.heap.size (rd_blk (k := 3) (l := [.int .i64 x, .int .i64 y, .int .i64 z]) hq rfl) (Nat.le_refl _) (by simp)
 rw [orL_3] at key
 exact key
theorem compare1 (x y : St) (w : World) : Calls Try.prog 105 #[.agg #[.int .i64 (x.tank : Nat), .int .i64 x.wash], .agg #[.int .i64 (y.tank : Nat), .int .i64 y.wash]] w fun e w' => e = .returned (.int .i64 (cmpSt x y)) ∧ Below w.heap.size w w' := by
 have hbw := Below.refl w.heap.size w
 unfold cmpSt
 refine EC.enter 17 Try.func105 rfl rfl rfl (EC.seq (EC.region (EL.newP (bx_70 rfl) rfl ?_)));intro g1 w1 q1 hb1 hg1 hl1;have bhbw_1 := Nat.le_trans hbw.size hg1;replace hbw := bo_ hbw hb1;clear hb1 hg1 hl1;refine EL.newP (bx_70 rfl) rfl ?_;intro g2 w2 q2 hb2 hg2 hl2;have n1_2 := q1.na hg2;have bhbw_2 := Nat.le_trans hbw.size hg2;replace q1 := q1.bl hb2;replace hbw := bo_ hbw hb2;clear hb2 hg2 hl2;refine EL.as rfl rfl (EL.nil (EX.seq (EC.seq ?_)));have lt_1 := q1.lt;have lt_2 := q2.lt;refine EC.regionP [[], [0], [], [2], [0, 1, 2, 3], [], [5], [], [7], [0, 1, 2, 3, 4, 5, 6, 7, 8], [0, 1, 2, 3, 4, 5, 6, 7, 8, 9], [0, 1, 2, 3, 4, 5, 6, 7, 8, 9, 10], [0, 1, 2, 3, 4, 5, 6, 7, 8, 9, 10, 11]] 11 [] (phi (fun i_ r => match i_ with | 0 => r 0 = .pointer (some ⟨g1, 0, none⟩) | 1 => r 1 = .int .i64 (x.tank : Nat) | 2 => r 2 = .pointer (some ⟨g2, 0, none⟩) | 3 => r 3 = .int .i64 (y.tank : Nat) | 4 => r 4 = .int .i64 (c3 (x.tank : Nat) (y.tank : Nat)) | 5 => r 5 = .pointer (some ⟨g1, 1, none⟩) | 6 => r 6 = .int .i64 x.wash | 7 => r 7 = .pointer (some ⟨g2, 1, none⟩) | 8 => r 8 = .int .i64 y.wash | 9 => r 9 = .int .i64 (c3 x.wash y.wash) | _ => True) [(10, fun r w_ => ∃ g_, r 10 = .slice (some ⟨g_, 0, none⟩) 2 2 ∧ Blk w_ g_ 3 #[.int .i64 (c3 (x.tank : Nat) (y.tank : Nat)), .int .i64 (c3 x.wash y.wash)] ∧ w2.heap.size ≤ g_)]) (by kernel_rfl) rfl rfl (phi_cons mono_bs (phi_nil)) (fun i_ hi_ => ?_) ?_
 ·match i_, hi_ with
  | 0, _ =>
   intro val w1 a hb ha hd;have ha := ha.s0 (d := 2) rfl
   exact hs_val ha rfl rfl (fa_70_0 rfl) rfl rfl
  | 1, _ =>
   intro val w1 a hb ha hd;have e0 : val 0 = _ := hd 0 (memB_mem.1 rfl);have ha := ha.s1 (d := 5) rfl e0
   exact hs_val ha rfl rfl (ld_3 rfl ((q1.below hb q1.lt).at (j := 0) rfl)) rfl rfl
  | 2, _ =>
   intro val w1 a hb ha hd;have ha := ha.s0 (d := 3) rfl
   exact hs_val ha rfl rfl (fa_70_0 rfl) rfl rfl
  | 3, _ =>
   intro val w1 a hb ha hd;have e2 : val 2 = _ := hd 2 (memB_mem.1 rfl);have ha := ha.s1 (d := 7) rfl e2
   exact hs_val ha rfl rfl (ld_3 rfl ((q2.below hb q2.lt).at (j := 0) rfl)) rfl rfl
  | 4, _ =>
   intro val w1 a hb ha hd;have e1 : val 1 = _ := hd 1 (memB_mem.1 rfl);have e3 : val 3 = _ := hd 3 (memB_mem.1 rfl);have ha := ha.s2 (d := 8) (e := 6) rfl e3 rfl e1;refine hs_call ha rfl rfl (cA2 cF103 rfl rfl) (Compare_any _ _ w1) rfl ?_
   rintro e w' ⟨rfl, hb'⟩
   exact ⟨_, rfl, hb', rfl⟩
  | 5, _ =>
   intro val w1 a hb ha hd;have ha := ha.s0 (d := 2) rfl
   exact hs_val ha rfl rfl (fa_70_1 rfl) rfl rfl
  | 6, _ =>
   intro val w1 a hb ha hd;have e5 : val 5 = _ := hd 5 (memB_mem.1 rfl);have ha := ha.s1 (d := 10) rfl e5
   exact hs_val ha rfl rfl (ld_3 rfl ((q1.below hb q1.lt).at (j := 1) rfl)) rfl rfl
  | 7, _ =>
   intro val w1 a hb ha hd;have ha := ha.s0 (d := 3) rfl
   exact hs_val ha rfl rfl (fa_70_1 rfl) rfl rfl
  | 8, _ =>
   intro val w1 a hb ha hd;have e7 : val 7 = _ := hd 7 (memB_mem.1 rfl);have ha := ha.s1 (d := 12) rfl e7
   exact hs_val ha rfl rfl (ld_3 rfl ((q2.below hb q2.lt).at (j := 1) rfl)) rfl rfl
  | 9, _ =>
   intro val w1 a hb ha hd;have e6 : val 6 = _ := hd 6 (memB_mem.1 rfl);have e8 : val 8 = _ := hd 8 (memB_mem.1 rfl);have ha := ha.s2 (d := 13) (e := 11) rfl e8 rfl e6;refine hs_call ha rfl rfl (cA2 cF103 rfl rfl) (Compare_any _ _ w1) rfl ?_
   rintro e w' ⟨rfl, hb'⟩
   exact ⟨_, rfl, hb', rfl⟩
  | 10, _ =>
   intro val w1 a hb ha hd;have e4 : val 4 = _ := hd 4 (memB_mem.1 rfl);have e9 : val 9 = _ := hd 9 (memB_mem.1 rfl);have ha := ha.s2 (d := 14) (e := 9) rfl e9 rfl e4
   exact hs_newS ha rfl rfl (bs_22_2 rfl rfl) rfl (fun g w' hq _ hge => ⟨g, rfl, hq, Nat.le_trans hb.size hge⟩)
  | k + 11, h => exact absurd h (by omega)
 ·intro val wR1 hb halc hd
  have e0 : val 0 = _ := hd 0 (by omega)
  have e1 : val 1 = _ := hd 1 (by omega)
  have e2 : val 2 = _ := hd 2 (by omega)
  have e3 : val 3 = _ := hd 3 (by omega)
  have e4 : val 4 = _ := hd 4 (by omega)
  have e5 : val 5 = _ := hd 5 (by omega)
  have e6 : val 6 = _ := hd 6 (by omega)
  have e7 : val 7 = _ := hd 7 (by omega)
  have e8 : val 8 = _ := hd 8 (by omega)
  have e9 : val 9 = _ := hd 9 (by omega)
  obtain ⟨ga10_1, e10, qa10_1, hga10_1⟩ := hd 10 (by omega)
  change val 10 = _ at e10;change Blk wR1 ga10_1 3 #[.int .i64 (c3 (x.tank : Nat) (y.tank : Nat)), .int .i64 (c3 x.wash y.wash)] at qa10_1;refine EL.ends (cs := [_, _, _, _, _, _, _, _, _, _, _]) ⟨e0, e1, e2, e3, e4, e5, e6, e7, e8, e9, e10, trivial⟩ rfl ?_;replace q1 := q1.bl hb;replace q2 := q2.bl hb;have n1_3 : g1 ≠ ga10_1 := Nat.ne_of_lt (Nat.lt_of_lt_of_le lt_1 hga10_1);have n2_3 : g2 ≠ ga10_1 := Nat.ne_of_lt (Nat.lt_of_lt_of_le lt_2 hga10_1);have bhbw_3 := Nat.le_trans hbw.size hga10_1;replace hbw := bo_ hbw hb;clear hb;refine EL.call (cA1 cF102 rfl) rfl (Or_2 qa10_1) ?_
  rintro e w4 ⟨rfl, hc4⟩
  refine ⟨_, rfl, ?_⟩;replace q1 := q1.bl hc4;replace q2 := q2.bl hc4;replace qa10_1 := qa10_1.bl hc4;replace hbw := bo_ hbw hc4;clear hc4;refine EL.as rfl rfl (EL.nil (EX.seq (EC.ret ?_)))
  exact EX.done (res1 rfl rfl) ⟨rfl, hbw⟩
theorem CompareFunc_any (l m : List St) (v u : Value) (w : World) (B : Nat) (hr : Rd w B 2 v l.length (stsC l)) (hr2 : Rd w B 2 u m.length (stsC m)) (hB : B ≤ w.heap.size) (hn : l.length ≤ 1048576) (hn2 : m.length ≤ 1048576) :
  Calls Try.prog 104 #[v, u, .func (.func 105) #[] #[]] w fun e w' => e = .returned (.int .i64 (cmpL cmpSt l m)) ∧ Below w.heap.size w w' := by
 obtain ⟨A, c, rfl, _⟩ := hr.shape;obtain ⟨A2, c2, rfl, _⟩ := hr2.shape;have hbw := Below.refl w.heap.size w;refine EC.enter 39 Try.func104 rfl rfl rfl (EC.seq (EC.region (EL.as rfl rfl (EL.nil (EX.seq (EC.seq (EC.seq (EC.region (EL.mv rfl rfl ?_)))))))));refine EL.val (ln_65 rfl) rfl (EL.mv rfl rfl (EL.nil (EX.seq (EC.block ?_))));refine EC.loopD [6, 7, 8, 9, 10, 13, 14, 15, 16, 17, 18, 19, 20, 21, 22, 23, 24, 25, 26, 27, 28, 29, 30, 31, 32, 33] (fun x : Nat => [(13, .int .i64 (x : Nat))]) (fun x W => x ≤ l.length ∧ x ≤ m.length ∧ (∀ i, i < x → cmpSt (l.getD i st0) (m.getD i st0) = 0) ∧ Below w.heap.size w W) (fun x => l.length - x) 0 ⟨Nat.zero_le _, Nat.zero_le _, fun i hi => absurd hi (by omega), hbw⟩ ⟨rfl, trivial⟩ ?_
 clear hbw
 rintro x wx ⟨hx, hxm, hz, hbw⟩
 by_cases hlt : x < l.length
 ·
  obtain ⟨b, o, rfl, _, hc, hc2⟩ := sts_cells l x hlt w w.heap.size _ _ _ (hr.more hB);refine EC.seq (EC.region ?_);refine EL.val (x_lss rfl rfl (decide_eq_true (show (((x : Nat) : Int) < ((l.length : Nat) : Int)) by omega))) rfl ?_
  refine EL.nil (EX.seq (EC.seq (EC.yes rfl (EC.skip (EX.seq (EC.seq (EC.block (EC.seq (EC.region ?_)))))))));refine EL.mv rfl rfl (EL.val (ix_65 rfl rfl hlt) rfl (EL.val (ld_70 rfl (below_load hbw hc) (below_load hbw hc2)) rfl (EL.newP al_70 rfl ?_)));intro g1 w1 q1 hb1 hg1 hl1;have bhbw_1 := Nat.le_trans hbw.size hg1;replace hbw := bo_ hbw hb1;clear hb1 hg1 hl1;refine EL.as rfl rfl (EL.store rfl rfl q1 sz_70 rfl rfl rfl rfl ?_);intro w2 hq2 hg2;replace hbw := below_store hbw hg2 bhbw_1;replace q1 := hq2;clear hg2 hq2;refine EL.nil (EX.seq (EC.seq (EC.seq (EC.region (EL.mv rfl rfl (EL.mv rfl rfl (EL.val (ln_65 rfl) rfl ?_)))))))
  by_cases hm : m.length ≤ x
  ·
   refine EL.val (x_geq (r := true) rfl rfl (decide_eq_true (by omega))) rfl ?_
   refine EL.nil (EX.seq (EC.yes rfl (EC.seq (EC.region (EL.as rfl rfl (EL.nil (EX.seq (EC.ret (EX.seq_ret ?_)))))))));refine EX.blk_ret (EX.seq_ret (EX.seq_ret (EX.blk_ret (EX.seq_ret ?_))))
   exact EX.done (res1 rfl rfl) ⟨by rw [cmpL_more hz hlt hm (by omega)], hbw⟩
  ·
   obtain ⟨b2, o2, rfl, _, hd, hd2⟩ := sts_cells m x (by omega) w w.heap.size _ _ _ (hr2.more hB)
   refine EL.val (x_geq (r := false) rfl rfl (decide_eq_false (by omega))) rfl ?_
   refine EL.nil (EX.seq (EC.no rfl (EC.skip (EX.seq (EC.seq (EC.region (EL.mv rfl rfl (EL.mv rfl rfl ?_))))))));refine EL.val (ix_65 rfl rfl (show x < m.length by omega)) rfl ?_
   refine EL.val (ld_70 rfl (below_load hbw hd) (below_load hbw hd2)) rfl (EL.newP al_70 rfl ?_);intro g3 w3 q3 hb3 hg3 hl3;have n1_3 := q1.na hg3;have bhbw_3 := Nat.le_trans hbw.size hg3;replace q1 := q1.bl hb3;replace hbw := bo_ hbw hb3;clear hb3 hg3 hl3;refine EL.store rfl rfl q3 sz_70 rfl rfl rfl rfl ?_;intro w4 hq4 hg4;replace q1 := q1.gr hg4 n1_3;replace hbw := below_store hbw hg4 bhbw_3;replace q3 := hq4;clear hg4 hq4;refine EL.nil (EX.seq (EC.seq (EC.region (EL.mv rfl rfl (EL.val (ld_70 rfl (q1.at (j := 0) rfl) (q1.at (j := 1) rfl)) rfl (EL.val (ld_70 rfl (q3.at (j := 0) rfl) (q3.at (j := 1) rfl)) rfl (EL.call (clv_105_0_2_0 rfl rfl rfl) rfl (compare1 (l.getD x st0) (m.getD x st0) _) ?_)))))))
   rintro e w5 ⟨rfl, hc5⟩
   refine ⟨_, rfl, ?_⟩;replace q1 := q1.bl hc5;replace q3 := q3.bl hc5;replace hbw := bo_ hbw hc5;clear hc5;refine EL.as rfl rfl (EL.nil (EX.seq (EC.seq (EC.region (EL.mv rfl rfl ?_)))))
   by_cases h0 : cmpSt (l.getD x st0) (m.getD x st0) = 0
   ·
    refine EL.val (x_neq (r := false) rfl rfl (decide_eq_false (fun h => h h0))) rfl ?_
    refine EL.nil (EX.seq (EC.no rfl (EC.skip (EX.blk (EX.seq (EC.region ?_))))));refine EL.val (x_add rfl rfl (c := ((x + 1 : Nat) : Int)) ((IntWalk.i64_in _ ⟨by first | omega | (simp only; omega), by first | omega | (simp only; omega)⟩).trans (by first | omega | (simp only; omega)))) rfl ?_
    refine EL.mv rfl rfl (EL.nil ?_);refine EX.roundD (x + 1) ⟨rfl, trivial⟩ (by repeat first | with_reducible exact .refl _ | refine sp_ rfl ?_ | exact .refl _ | refine sd_ rfl ?_ | refine sn_ ?_) ⟨hlt, by omega, fun i hi => (by by_cases e : i = x; exact e ▸ h0; exact hz i (by omega)), hbw⟩ (by omega)
   ·
    refine EL.val (x_neq (r := true) rfl rfl (decide_eq_true h0)) rfl (EL.nil (EX.seq (EC.yes rfl (EC.seq (EC.region (EL.mv rfl rfl (EL.as rfl rfl (EL.nil (EX.seq ?_)))))))));refine EC.ret (EX.blk_ret (EX.seq_ret (EX.seq_ret (EX.blk_ret (EX.seq_ret ?_)))))
    exact EX.done (res1 rfl rfl) ⟨by rw [cmpL_at hz hlt (by omega) h0], hbw⟩
 ·
  have hxe : x = l.length := by omega
  subst hxe;refine EC.seq (EC.region ?_);refine EL.val (x_lss rfl rfl (decide_eq_false (show ¬(((l.length : Nat) : Int) < ((l.length : Nat) : Int)) by omega))) rfl ?_
  refine EL.nil (EX.seq (EC.seq (EC.no rfl (EC.exit (EX.seq_exit (EX.seq_exit (EX.blk_here (EX.seq (EC.seq ?_)))))))));refine EC.seq (EC.region (EL.mv rfl rfl (EL.val (ln_65 rfl) rfl (EL.mv rfl rfl (EL.val (ln_65 rfl) rfl ?_)))))
  by_cases hlm : l.length < m.length
  ·
   refine EL.val (x_lss (r := true) rfl rfl (decide_eq_true (by omega))) rfl ?_
   refine EL.nil (EX.seq (EC.yes rfl (EC.seq (EC.region (EL.as rfl rfl (EL.nil (EX.seq (EC.ret (EX.seq_ret ?_)))))))))
   exact EX.done (res1 rfl rfl) ⟨by rw [cmpL_end hz hxm, if_pos hlm], hbw⟩
  ·
   refine EL.val (x_lss (r := false) rfl rfl (decide_eq_false (by omega))) rfl ?_
   refine EL.nil (EX.seq (EC.no rfl (EC.skip (EX.seq (EC.seq (EC.region (EL.as rfl rfl (EL.nil (EX.seq ?_)))))))));refine EC.ret ?_
   exact EX.done (res1 rfl rfl) ⟨by rw [cmpL_end hz hxm, if_neg hlm], hbw⟩
theorem compare_any (p q : Pl) (v u : Value) (w : World) (B : Nat) (hr : Rd w B 2 v p.steps.length (stsC p.steps)) (hr2 : Rd w B 2 u q.steps.length (stsC q.steps)) (hB : B ≤ w.heap.size) (hn : p.steps.length ≤ 1048576) (hn2 : q.steps.length ≤ 1048576) :
  Calls Try.prog 99 #[.agg #[v, .int .i64 p.washes, .int .i64 p.cost], .agg #[u, .int .i64 q.washes, .int .i64 q.cost]] w fun e w' => e = .returned (.int .i64 (cmpP p q)) ∧ Below w.heap.size w w' := by
 obtain ⟨A, c, rfl, _⟩ := hr.shape;obtain ⟨A2, c2, rfl, _⟩ := hr2.shape;have hbw := Below.refl w.heap.size w
 unfold cmpP
 refine EC.enter 22 Try.func99 rfl rfl rfl (EC.seq (EC.region (EL.newP (bx_134 rfl) rfl ?_)));intro g1 w1 q1 hb1 hg1 hl1;have bhbw_1 := Nat.le_trans hbw.size hg1;replace hbw := bo_ hbw hb1;clear hb1 hg1 hl1;refine EL.newP (bx_134 rfl) rfl ?_;intro g2 w2 q2 hb2 hg2 hl2;have n1_2 := q1.na hg2;have bhbw_2 := Nat.le_trans hbw.size hg2;replace q1 := q1.bl hb2;replace hbw := bo_ hbw hb2;clear hb2 hg2 hl2;refine EL.as rfl rfl (EL.nil (EX.seq (EC.seq ?_)));have lt_1 := q1.lt;have lt_2 := q2.lt;refine EC.regionP [[], [0], [], [2], [0, 1, 2, 3], [], [5], [], [7], [0, 1, 2, 3, 4, 5, 6, 7, 8], [], [10], [], [12], [0, 1, 2, 3, 4, 5, 6, 7, 8, 9, 10, 11, 12, 13], [0, 1, 2, 3, 4, 5, 6, 7, 8, 9, 10, 11, 12, 13, 14], [0, 1, 2, 3, 4, 5, 6, 7, 8, 9, 10, 11, 12, 13, 14, 15], [0, 1, 2, 3, 4, 5, 6, 7, 8, 9, 10, 11, 12, 13, 14, 15, 16]] 16 [] (phi (fun i_ r => match i_ with | 0 => r 0 = .pointer (some ⟨g1, 1, none⟩) | 1 => r 1 = .int .i64 p.washes | 2 => r 2 = .pointer (some ⟨g2, 1, none⟩) | 3 => r 3 = .int .i64 q.washes | 4 => r 4 = .int .i64 (c3 p.washes q.washes) | 5 => r 5 = .pointer (some ⟨g1, 2, none⟩) | 6 => r 6 = .int .i64 p.cost | 7 => r 7 = .pointer (some ⟨g2, 2, none⟩) | 8 => r 8 = .int .i64 q.cost | 9 => r 9 = .int .i64 (c3 p.cost q.cost) | 10 => r 10 = .pointer (some ⟨g1, 0, none⟩) | 11 => r 11 = .slice A p.steps.length c | 12 => r 12 = .pointer (some ⟨g2, 0, none⟩) | 13 => r 13 = .slice A2 q.steps.length c2 | 14 => r 14 = .int .i64 (cmpL cmpSt p.steps q.steps) | _ => True) [(15, fun r w_ => ∃ g_, r 15 = .slice (some ⟨g_, 0, none⟩) 3 3 ∧ Blk w_ g_ 3 #[.int .i64 (c3 p.washes q.washes), .int .i64 (c3 p.cost q.cost), .int .i64 (cmpL cmpSt p.steps q.steps)] ∧ w2.heap.size ≤ g_)]) (by kernel_rfl) rfl rfl (phi_cons mono_bs (phi_nil)) (fun i_ hi_ => ?_) ?_
 ·match i_, hi_ with
  | 0, _ =>
   intro val w1 a hb ha hd;have ha := ha.s0 (d := 2) rfl
   exact hs_val ha rfl rfl (fa_134_1 rfl) rfl rfl
  | 1, _ =>
   intro val w1 a hb ha hd;have e0 : val 0 = _ := hd 0 (memB_mem.1 rfl);have ha := ha.s1 (d := 5) rfl e0
   exact hs_val ha rfl rfl (ld_3 rfl ((q1.below hb q1.lt).at (j := 1) rfl)) rfl rfl
  | 2, _ =>
   intro val w1 a hb ha hd;have ha := ha.s0 (d := 3) rfl
   exact hs_val ha rfl rfl (fa_134_1 rfl) rfl rfl
  | 3, _ =>
   intro val w1 a hb ha hd;have e2 : val 2 = _ := hd 2 (memB_mem.1 rfl);have ha := ha.s1 (d := 7) rfl e2
   exact hs_val ha rfl rfl (ld_3 rfl ((q2.below hb q2.lt).at (j := 1) rfl)) rfl rfl
  | 4, _ =>
   intro val w1 a hb ha hd;have e1 : val 1 = _ := hd 1 (memB_mem.1 rfl);have e3 : val 3 = _ := hd 3 (memB_mem.1 rfl);have ha := ha.s2 (d := 8) (e := 6) rfl e3 rfl e1;refine hs_call ha rfl rfl (cA2 cF103 rfl rfl) (Compare_any _ _ w1) rfl ?_
   rintro e w' ⟨rfl, hb'⟩
   exact ⟨_, rfl, hb', rfl⟩
  | 5, _ =>
   intro val w1 a hb ha hd;have ha := ha.s0 (d := 2) rfl
   exact hs_val ha rfl rfl (fa_134_2 rfl) rfl rfl
  | 6, _ =>
   intro val w1 a hb ha hd;have e5 : val 5 = _ := hd 5 (memB_mem.1 rfl);have ha := ha.s1 (d := 10) rfl e5
   exact hs_val ha rfl rfl (ld_3 rfl ((q1.below hb q1.lt).at (j := 2) rfl)) rfl rfl
  | 7, _ =>
   intro val w1 a hb ha hd;have ha := ha.s0 (d := 3) rfl
   exact hs_val ha rfl rfl (fa_134_2 rfl) rfl rfl
  | 8, _ =>
   intro val w1 a hb ha hd;have e7 : val 7 = _ := hd 7 (memB_mem.1 rfl);have ha := ha.s1 (d := 12) rfl e7
   exact hs_val ha rfl rfl (ld_3 rfl ((q2.below hb q2.lt).at (j := 2) rfl)) rfl rfl
  | 9, _ =>
   intro val w1 a hb ha hd;have e6 : val 6 = _ := hd 6 (memB_mem.1 rfl);have e8 : val 8 = _ := hd 8 (memB_mem.1 rfl);have ha := ha.s2 (d := 13) (e := 11) rfl e8 rfl e6;refine hs_call ha rfl rfl (cA2 cF103 rfl rfl) (Compare_any _ _ w1) rfl ?_
   rintro e w' ⟨rfl, hb'⟩
   exact ⟨_, rfl, hb', rfl⟩
  | 10, _ =>
   intro val w1 a hb ha hd;have ha := ha.s0 (d := 2) rfl
   exact hs_val ha rfl rfl (fa_134_0 rfl) rfl rfl
  | 11, _ =>
   intro val w1 a hb ha hd;have e10 : val 10 = _ := hd 10 (memB_mem.1 rfl);have ha := ha.s1 (d := 15) rfl e10
   exact hs_val ha rfl rfl (ld_65 rfl ((q1.below hb q1.lt).at (j := 0) rfl)) rfl rfl
  | 12, _ =>
   intro val w1 a hb ha hd;have ha := ha.s0 (d := 3) rfl
   exact hs_val ha rfl rfl (fa_134_0 rfl) rfl rfl
  | 13, _ =>
   intro val w1 a hb ha hd;have e12 : val 12 = _ := hd 12 (memB_mem.1 rfl);have ha := ha.s1 (d := 17) rfl e12
   exact hs_val ha rfl rfl (ld_65 rfl ((q2.below hb q2.lt).at (j := 0) rfl)) rfl rfl
  | 14, _ =>
   intro val w1 a hb ha hd;have e11 : val 11 = _ := hd 11 (memB_mem.1 rfl);have e13 : val 13 = _ := hd 13 (memB_mem.1 rfl);have ha := ha.s2 (d := 18) (e := 16) rfl e13 rfl e11;refine hs_call ha rfl rfl (cA3 cF104 rfl rfl rfl) (CompareFunc_any p.steps q.steps _ _ w1 B ((hr.below (hbw.mono hB)).below (hb.mono (Nat.le_trans hB hbw.size))) ((hr2.below (hbw.mono hB)).below (hb.mono (Nat.le_trans hB hbw.size))) (Nat.le_trans (Nat.le_trans hB hbw.size) hb.size) hn hn2) rfl ?_
   rintro e w' ⟨rfl, hb'⟩
   exact ⟨_, rfl, hb', rfl⟩
  | 15, _ =>
   intro val w1 a hb ha hd;have e4 : val 4 = _ := hd 4 (memB_mem.1 rfl);have e9 : val 9 = _ := hd 9 (memB_mem.1 rfl);have e14 : val 14 = _ := hd 14 (memB_mem.1 rfl);have ha := ha.sub (Sub.ins (d := 19) (Sub.ins (d := 14) (Sub.ins (d := 9) (Sub.nil _) (dep_get rfl e4)) (dep_get rfl e9)) (dep_get rfl e14))
   exact hs_newS ha rfl rfl (bs_22_3 rfl rfl rfl) rfl (fun g w' hq _ hge => ⟨g, rfl, hq, Nat.le_trans hb.size hge⟩)
  | k + 16, h => exact absurd h (by omega)
 ·intro val wR1 hb halc hd
  have e0 : val 0 = _ := hd 0 (by omega)
  have e1 : val 1 = _ := hd 1 (by omega)
  have e2 : val 2 = _ := hd 2 (by omega)
  have e3 : val 3 = _ := hd 3 (by omega)
  have e4 : val 4 = _ := hd 4 (by omega)
  have e5 : val 5 = _ := hd 5 (by omega)
  have e6 : val 6 = _ := hd 6 (by omega)
  have e7 : val 7 = _ := hd 7 (by omega)
  have e8 : val 8 = _ := hd 8 (by omega)
  have e9 : val 9 = _ := hd 9 (by omega)
  have e10 : val 10 = _ := hd 10 (by omega)
  have e11 : val 11 = _ := hd 11 (by omega)
  have e12 : val 12 = _ := hd 12 (by omega)
  have e13 : val 13 = _ := hd 13 (by omega)
  have e14 : val 14 = _ := hd 14 (by omega)
  obtain ⟨ga15_1, e15, qa15_1, hga15_1⟩ := hd 15 (by omega)
  change val 15 = _ at e15;change Blk wR1 ga15_1 3 #[.int .i64 (c3 p.washes q.washes), .int .i64 (c3 p.cost q.cost), .int .i64 (cmpL cmpSt p.steps q.steps)] at qa15_1;refine EL.ends (cs := [_, _, _, _, _, _, _, _, _, _, _, _, _, _, _, _]) ⟨e0, e1, e2, e3, e4, e5, e6, e7, e8, e9, e10, e11, e12, e13, e14, e15, trivial⟩ rfl ?_;replace q1 := q1.bl hb;replace q2 := q2.bl hb;have n1_3 : g1 ≠ ga15_1 := Nat.ne_of_lt (Nat.lt_of_lt_of_le lt_1 hga15_1);have n2_3 : g2 ≠ ga15_1 := Nat.ne_of_lt (Nat.lt_of_lt_of_le lt_2 hga15_1);have bhbw_3 := Nat.le_trans hbw.size hga15_1;replace hbw := bo_ hbw hb;clear hb;refine EL.call (cA1 cF102 rfl) rfl (Or_3 qa15_1) ?_
  rintro e w4 ⟨rfl, hc4⟩
  refine ⟨_, rfl, ?_⟩;replace q1 := q1.bl hc4;replace q2 := q2.bl hc4;replace qa15_1 := qa15_1.bl hc4;replace hbw := bo_ hbw hc4;clear hc4;refine EL.as rfl rfl (EL.nil (EX.seq (EC.ret ?_)))
  exact EX.done (res1 rfl rfl) ⟨rfl, hbw⟩
abbrev Sx := List (List Tr) × Pl
/-- a plan that is read -/
def PlV (W : World) (base : Nat) (v : Value) (p : Pl) : Prop := ∃ A c, v = .agg #[.slice A p.steps.length c, .int .i64 p.washes, .int .i64 p.cost] ∧ W.ownsRow base 70 2 (.slice A p.steps.length c) p.steps.length (stsC p.steps)
structure PlOk (p : Pl) (j : Nat) : Prop where
 len : p.steps.length = j
 w0 : 0 ≤ p.washes
 w1 : p.washes ≤ j
 c0 : 0 ≤ p.cost
 c1 : p.cost ≤ j * 100000000
section
variable {W W' : World} {base : Nat} {v : Value} {p : Pl}
theorem PlV.keep (h : PlV W base v p) (hk : ∀ (n : Nat) (u : Value) (xs : List Value), W.ownsRow base 70 2 u n xs → W'.ownsRow base 70 2 u n xs) : PlV W' base v p := let ⟨A, c, h1, h2⟩ := h; ⟨A, c, h1, hk _ _ _ h2⟩
theorem PlV.below (h : PlV W base v p) (hb : Below W.heap.size W W') : PlV W' base v p := h.keep fun _ _ _ ho => own_below ho hb (Nat.le_refl _)
theorem PlV.rd (h : PlV W base v p) : ∃ A c, v = .agg #[.slice A p.steps.length c, .int .i64 p.washes, .int .i64 p.cost] ∧ Rd W W.heap.size 2 (.slice A p.steps.length c) p.steps.length (stsC p.steps) := let ⟨A, c, h1, h2⟩ := h; ⟨A, c, h1, Rd.of_own h2⟩
theorem PlV.nil : PlV W base (.agg #[.slice none 0 0, .int .i64 0, .int .i64 0]) pl0 := ⟨none, 0, rfl, World.ownsRow_nil _ _ _ _⟩
end
/-- entries l are the plans F -/
structure Ents (W : World) (base j : Nat) (l : List (Value × Value)) (F : List Sx) : Prop where
 to : ∀ e ∈ l, ∃ x ∈ F, e.1 = flV x.1 ∧ PlV W base e.2 x.2
 fro : ∀ x ∈ F, ∃ e ∈ l, e.1 = flV x.1 ∧ PlV W base e.2 x.2
 ok : ∀ x ∈ F, FlOk x.1 ∧ PlOk x.2 j
 one : ∀ x ∈ F, ∀ y ∈ F, x.1 = y.1 → x = y
theorem Ents.keep {W W' : World} {base j : Nat} {l : List (Value × Value)} {F : List Sx} (h : Ents W base j l F) (hk : ∀ (n : Nat) (u : Value) (xs : List Value), W.ownsRow base 70 2 u n xs → W'.ownsRow base 70 2 u n xs) : Ents W' base j l F :=
 ⟨fun e he => let ⟨x, h1, h2, h3⟩ := h.to e he; ⟨x, h1, h2, h3.keep hk⟩, fun x hx => let ⟨e, h1, h2, h3⟩ := h.fro x hx; ⟨e, h1, h2, h3.keep hk⟩, h.ok, h.one⟩
/-- block mb is a front -/
def Front (W : World) (base mb n j : Nat) (F : List Sx) : Prop := ∃ l, MapV Try.prog 150 W mb n l ∧ Ents W base j l F
/-- .. that is ranged over by block r: D has come -/
def RFront (W : World) (base mb r n j : Nat) (F D : List Sx) (c : Nat) : Prop := ∃ l d, RangeV Try.prog 150 W mb r n l d c ∧ Ents W base j l F ∧ (∀ e ∈ d, ∃ x ∈ D, e.1 = flV x.1) ∧ ∀ x ∈ D, x ∈ F
/-- a step that writes only what is new, a block that holds no cells, or a box of another type -/
def Mild (k : Nat) (A B : World) : Prop := ∃ row, A.grownBy B row ∧ ∀ g, row = some g → g ≠ k ∧ ∀ T cs, Blk A g T cs → Nat.beq T 70 = false
section
variable {A B : World} {k : Nat}
theorem Mild.below (h : Below A.heap.size A B) : Mild k A B := ⟨none, ⟨h.os, h.tape, h.output, h.size, fun i hi _ => h.block i hi⟩, fun _ h => by cases h⟩
theorem Mild.box {g T : Nat} {cs : Array Value} (hq : Blk A g T cs) (hT : Nat.beq T 70 = false) (hg : A.grownBy B (some g)) (hk : g ≠ k) : Mild k A B := ⟨some g, hg, fun i e => by
 injection e with e
 subst e;refine ⟨hk, fun T' cs' h2 => ?_⟩
 unfold Blk at hq h2
 rw [hq] at h2
 injection h2 with h2
 injection h2 with _ h3
 rw [← h3]
 exact hT⟩
theorem Mild.other {g : Nat} {o : Obj} (hg : A.grownBy B (some g)) (ho : A.heap[g]? = some o) (hc : o.isCells = false) (hk : g ≠ k) : Mild k A B := ⟨some g, hg, fun i e => by
 injection e with e
 subst e;refine ⟨hk, fun T' cs' h2 => ?_⟩
 unfold Blk at h2
 rw [ho] at h2
 injection h2 with h2
 subst h2
 cases hc⟩
theorem Mild.row {base n : Nat} {u : Value} {xs : List Value} (h : Mild k A B) (ho : A.ownsRow base 70 2 u n xs) : B.ownsRow base 70 2 u n xs := by
 obtain ⟨row, hg, hr⟩ := h;refine ho.kept hg ?_;obtain ⟨_, ⟨rfl, _⟩ | ⟨b, cap, cur, rfl, _, hb, _⟩⟩ := ho
 ·exact .inl rfl
 ·refine .inr fun e => ?_
  have := (hr b e.symm).2 _ cur hb;rw [Nat.beq_refl] at this
  cases this
theorem Mild.soft {b m k : Nat} {U : List Nat} (h : Soft b m U A B) (hU : ∀ T, memB U T = true → Nat.beq T 70 = false) {o : Obj} (hk : A.heap[k]? = some o) (hc : o.isCells = false) (hkm : k < m) : Mild k A B := by
 obtain ⟨row, hg, hr⟩ := h;refine ⟨row, hg, fun g e => ?_⟩
 rcases hr g e with ⟨_, T, cs, h1, h2⟩ | ⟨h1, o', h2, h3⟩
 ·refine ⟨fun e2 => ?_, fun T' cs' h4 => ?_⟩
  ·subst e2
   unfold Blk at h2
   rw [hk] at h2
   injection h2 with h2
   subst h2
   cases hc
  ·unfold Blk at h2 h4
   rw [h2] at h4
   injection h4 with h4
   injection h4 with _ h5
   rw [← h5]
   exact hU T h1
 ·refine ⟨by omega, fun T' cs' h4 => ?_⟩
  unfold Blk at h4
  rw [h2] at h4
  injection h4 with h4
  subst h4
  cases h3
end
section
variable {W W' : World} {base mb r n j c : Nat} {F D : List Sx}
theorem Front.mild (h : Front W base mb n j F) (hm : Mild mb W W') : Front W' base mb n j F := by
 obtain ⟨l, h1, h2⟩ := h;have hr := fun n u xs => hm.row (n := n) (u := u) (xs := xs) (base := base)
 obtain ⟨row, hg, hk⟩ := hm
 exact ⟨l, h1.kept hg (fun e => (hk mb e.symm).1 rfl), h2.keep hr⟩
theorem Front.below (h : Front W base mb n j F) (hb : Below W.heap.size W W') : Front W' base mb n j F := h.mild (.below hb)
theorem Front.map (h : Front W base mb n j F) : ∃ es clock, W.heap[mb]? = some (.map es clock) := by
 obtain ⟨l, h1, _⟩ := h
 exact h1.map
theorem Front.lt (h : Front W base mb n j F) : mb < W.heap.size := by
 obtain ⟨l, h1, _⟩ := h
 exact h1.lt
theorem Front.ne {g T : Nat} {cs : Array Value} (h : Front W base mb n j F) (hq : Blk W g T cs) : g ≠ mb := fun e => by
 obtain ⟨es, clock, hm⟩ := h.map;subst e
 unfold Blk at hq
 rw [hq] at hm
 cases hm
theorem Front.box {g T : Nat} {cs : Array Value} (h : Front W base mb n j F) (hq : Blk W g T cs) (hT : Nat.beq T 70 = false) (hg : W.grownBy W' (some g)) : Front W' base mb n j F := h.mild (.box hq hT hg (h.ne hq))
theorem Front.ok (h : Front W base mb n j F) : ∀ x ∈ F, FlOk x.1 ∧ PlOk x.2 j := let ⟨_, _, h2⟩ := h; h2.ok
theorem Front.mono {m : Nat} (h : Front W base mb n j F) (hm : n ≤ m) : Front W base mb m j F := let ⟨l, h1, h2⟩ := h; ⟨l, h1.mono hm, h2⟩
theorem Front.made (w : World) {j : Nat} : Front (w.alloc (.map #[] 0)) base w.heap.size 0 j [] := ⟨[], MapV.made w, fun _ h => absurd h List.not_mem_nil, fun _ h => absurd h List.not_mem_nil, fun _ h => absurd h List.not_mem_nil, fun _ h => absurd h List.not_mem_nil⟩
open Classical in
/-- a store: the state's plan is this one -/
theorem Front.store {s : List (List Tr)} {p : Pl} {v : Value} (h : Front W base mb n j F) (hn : n < maxLen) (hs : FlOk s) (hp : PlOk p j) (hv : PlV W base v p) :
  ∃ W' F', (Instr.mapUpdate 171 (.map (some mb)) (flV s) v).run Try.prog W = .ok () W' ∧ W.grownBy W' (some mb) ∧ Front W' base mb (n + 1) j F' ∧ (s, p) ∈ F' ∧ (∀ y ∈ F', y = (s, p) ∨ (y ∈ F ∧ y.1 ≠ s)) ∧ ∀ y ∈ F, y ∈ F' ∨ y.1 = s := by
 obtain ⟨l, h1, h2⟩ := h;obtain ⟨kl, hkl⟩ := fleet_key hs;obtain ⟨W', l', hrun, k1, k2, k3, k4, k5⟩ := h1.store fleet_keyed Try.underlying171 hn hkl (val := v);obtain ⟨es, clock, hmap⟩ := h1.map;have hm : Mild (mb + 1) W W' := .other k2 hmap rfl (by omega)
 have hmem : ∀ y, y ∈ (F.filter fun x => decide (x.1 ≠ s)) ++ [(s, p)] ↔ y = (s, p) ∨ (y ∈ F ∧ y.1 ≠ s) := fun y => by
  rw [List.mem_append, List.mem_filter, List.mem_singleton, decide_eq_true_eq]
  exact Or.comm
 refine ⟨W', (F.filter fun x => decide (x.1 ≠ s)) ++ [(s, p)], hrun, k2, ⟨l', k1, fun e he => ?_, fun x hx => ?_, fun x hx => ?_, fun x hx y hy hxy => ?_⟩, (hmem _).2 (.inl rfl), fun y hy => (hmem y).1 hy, fun y hy => ?_⟩
 ·rcases k4 e he with rfl | ⟨h3, h4⟩
  ·exact ⟨(s, p), (hmem _).2 (.inl rfl), rfl, hv.keep fun _ _ _ => hm.row⟩
  ·obtain ⟨x, hx, e1, e2⟩ := h2.to e h3
   refine ⟨x, (hmem _).2 (.inr ⟨hx, fun e3 => h4 (by rw [e1, e3])⟩), e1, e2.keep fun _ _ _ => hm.row⟩
 ·rcases (hmem x).1 hx with rfl | ⟨h3, h4⟩
  ·exact ⟨_, k3, rfl, hv.keep fun _ _ _ => hm.row⟩
  ·obtain ⟨e, he, e1, e2⟩ := h2.fro x h3
   rcases k5 e he with h5 | h5
   ·exact ⟨e, h5, e1, e2.keep fun _ _ _ => hm.row⟩
   ·exact absurd (flV_inj (h2.ok x h3).1.fl hs.fl (e1.symm.trans h5)) h4
 ·rcases (hmem x).1 hx with rfl | ⟨h3, h4⟩
  ·exact ⟨hs, hp⟩
  ·exact h2.ok x h3
 ·rcases (hmem x).1 hx with rfl | ⟨h3, h4⟩
  ·rcases (hmem y).1 hy with rfl | ⟨h5, h6⟩
   ·rfl
   ·exact absurd hxy.symm h6
  ·rcases (hmem y).1 hy with rfl | ⟨h5, h6⟩
   ·exact absurd hxy h4
   ·exact h2.one x h3 y h5 hxy
 ·by_cases e : y.1 = s
  ·exact .inr e
  ·exact .inl ((hmem y).2 (.inr ⟨hy, e⟩))
theorem Front.look {s : List (List Tr)} (h : Front W base mb n j F) (hs : FlOk s) :
  ((Instr.lookup 171 (.map (some mb)) (flV s) true).run Try.prog W = .ok (.tuple #[.agg #[.slice none 0 0, .int .i64 0, .int .i64 0], .bool false]) W ∧ ∀ x ∈ F, x.1 ≠ s) ∨
  ∃ v q, (s, q) ∈ F ∧ PlV W base v q ∧ (Instr.lookup 171 (.map (some mb)) (flV s) true).run Try.prog W = .ok (.tuple #[v, .bool true]) W := by
 obtain ⟨l, h1, h2⟩ := h;obtain ⟨kl, hkl⟩ := fleet_key hs
 rcases h1.look true fleet_keyed Try.underlying171 (z := .agg #[.slice none 0 0, .int .i64 0, .int .i64 0]) (by kernel_rfl) hkl with ⟨h3, h4⟩ | ⟨v, h3, h4⟩
 ·refine .inl ⟨h3, fun x hx e => ?_⟩
  obtain ⟨e1, he1, h5, _⟩ := h2.fro x hx
  exact h4 e1 he1 (by rw [h5, e])
 ·obtain ⟨x, hx, e1, e2⟩ := h2.to _ h3
  have : x.1 = s := (flV_inj hs.fl (h2.ok x hx).1.fl e1).symm;refine .inr ⟨v, x.2, ?_, e2, h4⟩;rw [← this]
  exact hx
/-! ### Ranging -/
theorem Front.range (h : Front W base mb n j F) : ∃ W' c, (Instr.range 171 (.map (some mb))).run Try.prog W = .ok (.pointer (some ⟨W.heap.size, 0, none⟩)) W' ∧ RFront W' base mb W.heap.size n j F [] c ∧ c ≤ n ∧ Below W.heap.size W W' := by
 obtain ⟨l, h1, h2⟩ := h;obtain ⟨W', hrun, h3, h4⟩ := h1.range Try.underlying171
 exact ⟨W', _, hrun, ⟨l, [], h3, h2.keep (fun _ _ _ ho => own_below ho h4 (Nat.le_refl _)), fun _ h => absurd h List.not_mem_nil, fun _ h => absurd h List.not_mem_nil⟩, h1.len, h4⟩
theorem RFront.front (h : RFront W base mb r n j F D c) : Front W base mb n j F := let ⟨l, _, h1, h2, _⟩ := h; ⟨l, h1.map, h2⟩
theorem RFront.iter (h : RFront W base mb r n j F D c) : ∃ m s seen c, W.heap[r]? = some (.mapIter m s seen c) := let ⟨_, _, h1, _⟩ := h; h1.iter
theorem RFront.lt (h : RFront W base mb r n j F D c) : r < W.heap.size := let ⟨_, _, h1, _⟩ := h; h1.lt
theorem RFront.mild (h : RFront W base mb r n j F D c) (hm : Mild mb W W') (hr : Mild r W W') : RFront W' base mb r n j F D c := by
 obtain ⟨l, d, h1, h2, h3⟩ := h;have hrow := fun n u xs => hm.row (n := n) (u := u) (xs := xs) (base := base)
 obtain ⟨row, hg, hk⟩ := hm;obtain ⟨row2, hg2, hk2⟩ := hr;have k1 := h1.map.kept hg (fun e => (hk mb e.symm).1 rfl)
 refine ⟨l, d, ?_, h2.keep hrow, h3⟩;obtain ⟨es, clock, since, seen, c0, hb, F1, hs, e, hit, rest⟩ := h1;have hbl : mb < W.heap.size := (Array.getElem?_eq_some_iff.1 hb).1;have hil : r < W.heap.size := (Array.getElem?_eq_some_iff.1 hit).1
 exact ⟨es, clock, since, seen, c0, (hg.block mb hbl (fun e => (hk mb e.symm).1 rfl)).trans hb, F1, hs, e, (hg2.block r hil (fun e => (hk2 r e.symm).1 rfl)).trans hit, rest⟩
theorem RFront.below (h : RFront W base mb r n j F D c) (hb : Below W.heap.size W W') : RFront W' base mb r n j F D c := h.mild (.below hb) (.below hb)
theorem RFront.ne {g T : Nat} {cs : Array Value} (h : RFront W base mb r n j F D c) (hq : Blk W g T cs) : g ≠ r := fun e => by
 obtain ⟨m, s, seen, c', hi⟩ := h.iter;subst e
 unfold Blk at hq
 rw [hq] at hi
 cases hi
theorem RFront.box {g T : Nat} {cs : Array Value} (h : RFront W base mb r n j F D c) (hq : Blk W g T cs) (hT : Nat.beq T 70 = false) (hg : W.grownBy W' (some g)) : RFront W' base mb r n j F D c := h.mild (.box hq hT hg (h.front.ne hq)) (.box hq hT hg (h.ne hq))
theorem RFront.next (h : RFront W base mb r n j F D c) (ty : TypeId) :
  ((∀ x ∈ F, x ∈ D) ∧ (Instr.next (.pointer (some ⟨r, 0, none⟩)) false ty).run Try.prog W = .ok (.tuple #[.bool false]) W) ∨
  ∃ x v W' c', x ∈ F ∧ PlV W' base v x.2 ∧ (Instr.next (.pointer (some ⟨r, 0, none⟩)) false ty).run Try.prog W = .ok (.tuple #[.bool true, flV x.1, v]) W' ∧ RFront W' base mb r n j F (D ++ [x]) c' ∧ c' < c ∧ W.grownBy W' (some r) ∧ W'.heap.size = W.heap.size ∧ (Instr.entry (.pointer (some ⟨r, 0, none⟩))).run Try.prog W' = .ok (.tuple #[flV x.1, v]) W' := by
 obtain ⟨m, s, seen, c0, hit⟩ := h.iter;obtain ⟨l, d, h1, h2, h3, h4⟩ := h
 rcases h1.next ty with ⟨_, h5, hrun⟩ | ⟨key, v, W', c', h5, hrun, h6, h7, h8, h9, h10⟩
 ·refine .inl ⟨fun x hx => ?_, hrun⟩
  obtain ⟨e, he, e1, _⟩ := h2.fro x hx;obtain ⟨y, hy, e2⟩ := h3 e (h5 e he);have := h2.one x hx y (h4 y hy) (flV_inj (h2.ok x hx).1.fl (h2.ok y (h4 y hy)).1.fl (e1.symm.trans e2));rw [this]
  exact hy
 ·obtain ⟨x, hx, e1, e2⟩ := h2.to _ h5
  have e1 : key = flV x.1 := e1;subst e1;have hm : Mild mb W W' := .other h8 hit rfl (fun e => by
   obtain ⟨es, clock, hb⟩ := h1.map.map;subst e;rw [hb] at hit
   cases hit)
  have hrow := fun n u xs => hm.row (n := n) (u := u) (xs := xs) (base := base)
  refine .inr ⟨x, v, W', c', hx, e2.keep hrow, hrun, ⟨l, _, h6, h2.keep hrow, fun e he => ?_, fun y hy => ?_⟩, h7, h8, h9, h10⟩
  ·rcases List.mem_append.1 he with he | he
   ·obtain ⟨y, hy, h11⟩ := h3 e he
    exact ⟨y, List.mem_append.2 (.inl hy), h11⟩
   ·rw [List.mem_singleton.1 he]
    exact ⟨x, List.mem_append.2 (.inr (List.mem_singleton.2 rfl)), rfl⟩
  ·rcases List.mem_append.1 hy with hy | hy
   ·exact h4 y hy
   ·rw [List.mem_singleton.1 hy]
    exact hx
end
theorem blk_iter2 {W W' : World} {base mb r n j c g T : Nat} {F D : List Sx} {cs : Array Value} (hq : Blk W g T cs) (h : RFront W base mb r n j F D c) (hg : W.grownBy W' (some r)) : Blk W' g T cs := hq.grown hg fun e => h.ne hq (Option.some.inj e)
theorem blk_map2 {W W' : World} {base mb n j g T : Nat} {F : List Sx} {cs : Array Value} (hq : Blk W g T cs) (h : Front W base mb n j F) (hg : W.grownBy W' (some mb)) : Blk W' g T cs := hq.grown hg fun e => h.ne hq (Option.some.inj e)
theorem below_blk {B k : Nat} {W W' : World} (hg : W.grownBy W' (some k)) (h1 : B ≤ k) (h2 : B ≤ W.heap.size) : Below B W W' := (Below.refl _ _).grown hg h2 fun g hk => by injection hk with hk; omega
theorem below_then {k : Nat} {A B C : World} (h : Below A.heap.size A B) (hg : B.grownBy C (some k)) : A.grownBy C (some k) :=
 ⟨hg.os.trans h.os, hg.tape.trans h.tape, hg.output.trans h.output, Nat.le_trans h.size hg.size, fun i hi hne => (hg.block i (Nat.lt_of_lt_of_le hi h.size) hne).trans (h.block i hi)⟩
/-! ### The operations -/
section
variable {P : Program} {n : Nat} {L : List Oper} {Q : Exit → Act → World → Prop} {rest : List Oper} {σ : Sg} {w : World} {dst : Option Tmp} {ty : TypeId} {pos : String} {af : Array Edge} {g : Option (Nat × Bool)} {x y z : Operand} {t : TypeId}
theorem x_look {m key v : Value} {c : Bool} (hx : evS σ x = some m) (hy : evS σ y = some key) (hr : (Instr.lookup t m key c).run P w = .ok v w) : Gives P n σ w ⟨dst, .lookup t x y c, ty, pos, af, g⟩ v := fun a ha => by
 simp only [execOp, ha.eval hx, ha.eval hy]
 simp [hr, Result.andThen]
theorem x_entry2 {r : Nat} {v : Value} (hx : evS σ x = some (.pointer (some ⟨r, 0, none⟩))) (hen : (Instr.entry (.pointer (some ⟨r, 0, none⟩))).run P w = .ok v w) : Gives P n σ w ⟨dst, .entry x, ty, pos, af, g⟩ v := fun a ha => by
 simp only [execOp, ha.eval hx]
 simp [hen, Result.andThen]
theorem EL.mapPut {m key v : Value} {w' : World} (hx : evS σ x = some m) (hy : evS σ y = some key) (hz : evS σ z = some v) (hr : (Instr.mapUpdate t m key v).run P w = .ok () w') (k : EL P n L Q rest σ w') : EL P n L Q (⟨none, .mapUpdate t x y z, ty, pos, af, none⟩ :: rest) σ w := fun a ha => by
 unfold wpList
 rw [if_pos (wanted_none rfl _)]
 left
 unfold Oper.wp
 have hr' : (execOp a.eval ⟨none, .mapUpdate t x y z, ty, pos, af, none⟩).run P w = .ok .skip w' := by
  simp only [execOp, ha.eval hx, ha.eval hy, ha.eval hz]
  simp [hr, Result.andThen]
 rw [hr', Oper.upon_skip]
 exact k a ha
theorem EL.mapIns {m key v : Value} {w' : World} (hx : evS σ x = some m) (hy : evS σ y = some key) (hz : evS σ z = some v) (hr : (Instr.mapUpdate t m key v).run P w = .ok () w') (k : EL P n L Q rest σ w') : EL P n L Q (⟨none, .insert t x y z, ty, pos, af, none⟩ :: rest) σ w := fun a ha => by
 unfold wpList
 rw [if_pos (wanted_none rfl _)]
 left
 unfold Oper.wp
 have hr' : (execOp a.eval ⟨none, .insert t x y z, ty, pos, af, none⟩).run P w = .ok .skip w' := by
  simp only [execOp, ha.eval hx, ha.eval hy, ha.eval hz]
  simp [hr, Result.andThen]
 rw [hr', Oper.upon_skip]
 exact k a ha
theorem EL.rangeM {d : Nat} {m v : Value} {w' : World} (hx : evS σ x = some m) (hd : Nat.blt d n = true) (hr : (Instr.range t m).run P w = .ok v w') (k : EL P n L Q rest (ins σ d v) w') : EL P n L Q (⟨some d, .range t x, ty, pos, af, none⟩ :: rest) σ w := fun a ha => by
 refine wpL_run (wanted_none rfl _) (v := v) (w' := w') ?_ (k _ (ha.put hd _))
 simp only [execOp, ha.eval hx]
 simp [hr, Result.andThen]
theorem EL.nextM {d : Nat} {m v : Value} {w' : World} (hx : evS σ x = some m) (hd : Nat.blt d n = true) (hr : (Instr.next m false ty).run P w = .ok v w') (k : EL P n L Q rest (ins σ d v) w') : EL P n L Q (⟨some d, .next x false, ty, pos, af, none⟩ :: rest) σ w := fun a ha => by
 refine wpL_run (wanted_none rfl _) (v := v) (w' := w') ?_ (k _ (ha.put hd _))
 simp only [execOp, ha.eval hx]
 simp [hr, Result.andThen]
end
theorem EL.newFront {n : Nat} {L : List Oper} {Q : Exit → Act → World → Prop} {rest : List Oper} {σ : Sg} {w : World} {d ty base j : Nat} {pos : String} {af : Array Edge} (hd : Nat.blt d n = true)
  (next : ∀ b w', Front w' base b 0 j [] → Below w.heap.size w w' → w.heap.size ≤ b → EL Try.prog n L Q rest (ins σ d (.map (some b))) w') : EL Try.prog n L Q (⟨some d, .makeMap 171 none, ty, pos, af, none⟩ :: rest) σ w := fun a ha =>
 wpL_run (wanted_none rfl _) (by simp only [execOp]; kernel_rfl) (next _ _ (Front.made w) ((Below.refl _ _).alloc (Nat.le_refl _) _) (Nat.le_refl _) _ (ha.put hd _))
/-! ### What a store tells of the front -/
theorem FrontOf.stored {L F F' : List Sx} {s : List (List Tr)} {p : Pl} (h : FrontOf L F) (h1 : (s, p) ∈ F') (h2 : ∀ y ∈ F', y = (s, p) ∨ (y ∈ F ∧ y.1 ≠ s)) (h3 : ∀ y ∈ F, y ∈ F' ∨ y.1 = s) (hlt : ∀ q, (s, q) ∈ F → cmpP p q ≤ 0) : FrontOf (L ++ [(s, p)]) F' := by
 refine ⟨fun y hy => ?_, fun y hy => ?_⟩
 ·rcases h2 y hy with rfl | ⟨h4, _⟩
  ·exact List.mem_append.2 (.inr (List.mem_singleton.2 rfl))
  ·exact List.mem_append.2 (.inl (h.mem y h4))
 ·rcases List.mem_append.1 hy with hy | hy
  ·obtain ⟨q, h4, h5⟩ := h.least y hy
   rcases h3 _ h4 with h6 | h6
   ·exact ⟨q, h6, h5⟩
   ·have h6 : y.1 = s := h6
    refine ⟨p, by rw [h6]; exact h1, cmp_pl.trans _ _ _ (hlt q (by rw [← h6]; exact h4)) h5⟩
  ·rw [List.mem_singleton.1 hy]
   exact ⟨p, h1, by rw [cmp_pl.self]; decide⟩
section
variable {n : Nat} {σ : Sg} {w : World} {dst : Option Tmp} {ty : TypeId} {pos : String} {af : Array Edge} {g : Option (Nat × Bool)} {x y z : Operand} {at' : Array TypeId}
theorem sz_150 : (Try.prog.info? 150).map (·.size) = some 96 := by kernel_rfl
theorem al_134 (a : Act) (_ : Env n σ a) : (execOp a.eval ⟨dst, .alloc 134, ty, pos, af, g⟩).run Try.prog w = .ok (.value (.pointer (some ⟨w.heap.size, 0, none⟩))) (w.alloc (.cells #[.slice none 0 0, .int .i64 0, .int .i64 0] 134)) := by
 simp only [execOp]
 simp [go_sem]
theorem sz_134 : (Try.prog.info? 134).map (·.size) = some 3 := by kernel_rfl
theorem ld_134 {b o : Nat} {v0 v1 v2 : Value} (hx : evS σ x = some (.pointer (some ⟨b, o, none⟩))) (c0 : w.cell? ⟨b, o, none⟩ = some v0) (c1 : w.cell? ⟨b, o + 1, none⟩ = some v1) (c2 : w.cell? ⟨b, o + 2, none⟩ = some v2) : Gives Try.prog n σ w ⟨dst, .load 134 x, ty, pos, af, g⟩ (.agg #[v0, v1, v2]) := fun a ha => by
 simp only [execOp, ha.eval hx]
 simp [go_sem, c0, c1, c2]
theorem cF99 : cF 99 := fun _ _ => by simp [go_sem]
theorem lv_134 {b o : Nat} {v0 v1 v2 : Value} (c0 : w.cell? ⟨b, o, none⟩ = some v0) (c1 : w.cell? ⟨b, o + 1, none⟩ = some v1) (c2 : w.cell? ⟨b, o + 2, none⟩ = some v2) : (loadVar 134 ⟨b, o, none⟩).run Try.prog w = .ok (.agg #[v0, v1, v2]) w := by
 simp [go_sem, loadVar, c0, c1, c2]
end
theorem al_fleet {n : Nat} {σ : Sg} {w : World} {dst : Option Tmp} {ty : TypeId} {pos : String} {af : Array Edge} {g : Option (Nat × Bool)} (a : Act) (_ : Env n σ a) : (execOp a.eval ⟨dst, .alloc 150, ty, pos, af, g⟩).run Try.prog w = .ok (.value (.pointer (some ⟨w.heap.size, 0, none⟩))) (w.alloc (.cells (flC [tank0, tank0, tank0]).toArray 150)) := by
 simp only [execOp]
 kernel_rfl
set_option maxHeartbeats 1000000 in
theorem note_any {w : World} {base mb n j : Nat} {F : List Sx} (hf : Front w base mb n j F) (hn : n < maxLen) {sf : List (List Tr)} (hs : FlOk sf) {p : Pl} {v : Value} (hv : PlV w base v p) (hp : PlOk p j) (hj : j ≤ 1048576) :
  Calls Try.prog 98 #[.map (some mb), flV sf, v] w fun e w' => e = .returned (.tuple #[]) ∧ w.grownBy w' (some mb) ∧ ∃ F2, Front w' base mb (n + 1) j F2 ∧ ∀ L, FrontOf L F → FrontOf (L ++ [(sf, p)]) F2 := by
 obtain ⟨A, c, rfl, ho⟩ := hv;have hf_one : ∀ x ∈ F, ∀ y ∈ F, x.1 = y.1 → x = y := let ⟨_, _, h⟩ := hf; h.one
 have hbw := Below.refl w.heap.size w;refine EC.enter 25 Try.func98 rfl rfl rfl (EC.seq (EC.region (EL.newP (x_boxA rfl) rfl ?_)));intro g1 w1 q1 hb1 hg1 hl1;have bhbw_1 := Nat.le_trans hbw.size hg1;replace hf := hf.below hb1;replace ho := own_below ho hb1 (Nat.le_refl _);replace hbw := bo_ hbw hb1;clear hb1 hg1 hl1;refine EL.newP (bx_134 rfl) rfl ?_;intro g2 w2 q2 hb2 hg2 hl2;have n1_2 := q1.na hg2;have bhbw_2 := Nat.le_trans hbw.size hg2;replace q1 := q1.bl hb2;replace hf := hf.below hb2;replace ho := own_below ho hb2 (Nat.le_refl _);replace hbw := bo_ hbw hb2;clear hb2 hg2 hl2;refine EL.nil (EX.seq (EC.seq (EC.region (EL.mv rfl rfl (EL.val (x_loadA rfl (q1.range (PartAt.whole _)) Try.underlying150 rfl (sz_150.trans (congrArg some hs.fl.len.symm))) rfl ?_)))))
 rcases hf.look hs with ⟨hlk, hno⟩ | ⟨v2, q, hin, hpv, hlk⟩
 ·
  refine EL.val (x_look rfl rfl hlk) rfl (EL.mv rfl rfl (EL.xt rfl rfl rfl (EL.xt rfl rfl rfl (EL.newP al_134 rfl ?_))));intro g3 w3 q3 hb3 hg3 hl3;have n1_3 := q1.na hg3;have n2_3 := q2.na hg3;have bhbw_3 := Nat.le_trans hbw.size hg3;replace q1 := q1.bl hb3;replace q2 := q2.bl hb3;replace hf := hf.below hb3;replace ho := own_below ho hb3 (Nat.le_refl _);replace hbw := bo_ hbw hb3;clear hb3 hg3 hl3;refine EL.store rfl rfl q3 sz_134 rfl rfl rfl rfl ?_;intro w4 hq4 hg4;replace q1 := q1.gr hg4 n1_3;replace q2 := q2.gr hg4 n2_3;replace hf := hf.box q3 rfl hg4;replace ho := own_type ho q3 rfl hg4;replace hbw := below_store hbw hg4 bhbw_3;replace q3 := hq4;clear hg4 hq4;refine EL.as rfl rfl (EL.nil (EX.seq (EC.seq (EC.region (EL.mv rfl rfl (EL.val (x_not rfl) rfl (EL.mv rfl rfl (EL.skip rfl rfl rfl rfl (EL.skip rfl rfl rfl rfl ?_)))))))));refine EL.skip rfl rfl rfl rfl (EL.skip rfl rfl rfl rfl (EL.pt rfl rfl rfl (EL.nil (EX.seq (EC.yes rfl (EC.region (EL.mv rfl rfl (EL.val (x_loadA rfl (q1.range (PartAt.whole _)) Try.underlying150 rfl (sz_150.trans (congrArg some hs.fl.len.symm))) rfl (EL.val (ld_134 rfl (q2.at (j := 0) rfl) (q2.at (j := 1) rfl) (q2.at (j := 2) rfl)) rfl ?_)))))))));obtain ⟨w9, F2, hrun, hg9, hf2, k1, k2, k3⟩ := hf.store hn hs hp ⟨A, c, rfl, ho⟩;refine EL.mapPut rfl rfl rfl hrun (EL.nil ?_)
  exact EX.done' (res0 rfl) ⟨rfl, below_then hbw hg9, F2, hf2, fun L hL => hL.stored k1 k2 k3 (fun q2 hq2 => absurd rfl (hno _ hq2))⟩
 ·
  obtain ⟨A2, c2, rfl, ho2⟩ := hpv;have hq := (hf.ok _ hin).2;refine EL.val (x_look rfl rfl hlk) rfl (EL.mv rfl rfl (EL.xt rfl rfl rfl (EL.xt rfl rfl rfl (EL.newP al_134 rfl ?_))));intro g5 w5 q5 hb5 hg5 hl5;have n1_5 := q1.na hg5;have n2_5 := q2.na hg5;have bhbw_5 := Nat.le_trans hbw.size hg5;replace q1 := q1.bl hb5;replace q2 := q2.bl hb5;replace hf := hf.below hb5;replace ho := own_below ho hb5 (Nat.le_refl _);replace ho2 := own_below ho2 hb5 (Nat.le_refl _);replace hbw := bo_ hbw hb5;clear hb5 hg5 hl5;refine EL.store rfl rfl q5 sz_134 rfl rfl rfl rfl ?_;intro w6 hq6 hg6;replace q1 := q1.gr hg6 n1_5;replace q2 := q2.gr hg6 n2_5;replace hf := hf.box q5 rfl hg6;replace ho := own_type ho q5 rfl hg6;replace ho2 := own_type ho2 q5 rfl hg6;replace hbw := below_store hbw hg6 bhbw_5;replace q5 := hq6;clear hg6 hq6;refine EL.as rfl rfl (EL.nil (EX.seq (EC.seq (EC.region (EL.mv rfl rfl (EL.val (x_not rfl) rfl (EL.mv rfl rfl (EL.valg rfl rfl (ld_134 rfl (q2.at (j := 0) rfl) (q2.at (j := 1) rfl) (q2.at (j := 2) rfl)) rfl (EL.valg rfl rfl (ld_134 rfl (q5.at (j := 0) rfl) (q5.at (j := 1) rfl) (q5.at (j := 2) rfl)) rfl ?_)))))))));refine EL.callg rfl rfl (cA2 cF99 rfl rfl) rfl (compare_any p q _ _ w6 _ (Rd.of_own ho) (Rd.of_own ho2) (Nat.le_refl _) (by rw [hp.len]; exact hj) (by rw [hq.len]; exact hj)) ?_
  rintro e w7 ⟨rfl, hc7⟩
  refine ⟨_, rfl, ?_⟩;replace q1 := q1.bl hc7;replace q2 := q2.bl hc7;replace q5 := q5.bl hc7;replace hf := hf.below hc7;replace ho := own_below ho hc7 (Nat.le_refl _);replace ho2 := own_below ho2 hc7 (Nat.le_refl _);replace hbw := bo_ hbw hc7;clear hc7
  by_cases hlt : cmpP p q < 0
  ·
   refine EL.valg rfl rfl (x_lss (r := true) rfl rfl (decide_eq_true hlt)) rfl (EL.pf rfl rfl rfl (EL.nil (EX.seq (EC.yes rfl (EC.region (EL.mv rfl rfl (EL.val (x_loadA rfl (q1.range (PartAt.whole _)) Try.underlying150 rfl (sz_150.trans (congrArg some hs.fl.len.symm))) rfl (EL.val (ld_134 rfl (q2.at (j := 0) rfl) (q2.at (j := 1) rfl) (q2.at (j := 2) rfl)) rfl ?_))))))));obtain ⟨w9, F2, hrun, hg9, hf2, k1, k2, k3⟩ := hf.store hn hs hp ⟨A, c, rfl, ho⟩;refine EL.mapPut rfl rfl rfl hrun (EL.nil ?_)
   exact EX.done' (res0 rfl) ⟨rfl, below_then hbw hg9, F2, hf2, fun L hL => hL.stored k1 k2 k3 (fun q2 hq2 => by rw [(Prod.mk.inj (hf_one _ hq2 _ hin rfl)).2]; omega)⟩
  ·
   refine EL.valg rfl rfl (x_lss (r := false) rfl rfl (decide_eq_false hlt)) rfl (EL.pf rfl rfl rfl (EL.nil (EX.seq (EC.no rfl (EC.skip ?_)))))
   exact EX.done' (res0 rfl) ⟨rfl, ⟨hbw.os, hbw.tape, hbw.output, hbw.size, fun k hk _ => hbw.block k hk⟩, F, hf.mono (Nat.le_succ _), fun L hL => hL.stay (x := (sf, p)) hin (by have := cmp_pl.anti p q; show cmpP q p ≤ 0; omega)⟩
/-- the best of what has come -/
def BestAt (W : World) (base g : Nat) (first : Bool) (D : List Sx) : Prop := (first = true ∧ D = [] ∧ Blk W g 134 #[.slice none 0 0, .int .i64 0, .int .i64 0]) ∨
 (first = false ∧ ∃ (p : Pl) (A : Option Addr) (c : Nat), Blk W g 134 #[.slice A p.steps.length c, .int .i64 p.washes, .int .i64 p.cost] ∧ W.ownsRow base 70 2 (.slice A p.steps.length c) p.steps.length (stsC p.steps) ∧ (∃ s, (s, p) ∈ D) ∧ ∀ y ∈ D, cmpP p y.2 ≤ 0)
theorem RFront.sub {W : World} {base mb r n j c : Nat} {F D : List Sx} (h : RFront W base mb r n j F D c) : ∀ x ∈ D, x ∈ F := let ⟨_, _, _, _, _, h4⟩ := h; h4
theorem best_new {p : Pl} {y : Sx} {D : List Sx} (h : cmpP y.2 p < 0) (hp : ∀ u ∈ D, cmpP p u.2 ≤ 0) : ∀ u ∈ D ++ [y], cmpP y.2 u.2 ≤ 0 := fun u hu => by
 rcases List.mem_append.1 hu with hu | hu
 ·exact cmp_pl.trans _ _ _ (by omega) (hp u hu)
 ·rw [List.mem_singleton.1 hu, cmp_pl.self]; decide
theorem best_old {p : Pl} {y : Sx} {D : List Sx} (h : ¬cmpP y.2 p < 0) (hp : ∀ u ∈ D, cmpP p u.2 ≤ 0) : ∀ u ∈ D ++ [y], cmpP p u.2 ≤ 0 := fun u hu => by
 rcases List.mem_append.1 hu with hu | hu
 ·exact hp u hu
 ·rw [List.mem_singleton.1 hu]; have := cmp_pl.anti p y.2; omega
set_option maxHeartbeats 1000000 in
theorem best_any {w : World} {base mb n j : Nat} {F : List Sx} (hf : Front w base mb n j F) (hne : F ≠ []) (hj : j ≤ 1048576) :
  Calls Try.prog 88 #[.map (some mb)] w fun e w' => (∃ (p : Pl) (sp : List (List Tr)) (A : Option Addr) (c : Nat), e = .returned (.agg #[.slice A p.steps.length c, .int .i64 p.washes, .int .i64 p.cost]) ∧ w'.ownsRow base 70 2 (.slice A p.steps.length c) p.steps.length (stsC p.steps) ∧ (sp, p) ∈ F ∧ ∀ u ∈ F, cmpP p u.2 ≤ 0) ∧ Below w.heap.size w w' := by
 have hbw := Below.refl w.heap.size w;refine EC.enter 21 Try.func88 rfl rfl rfl (EC.seq (EC.region (EL.newP al_134 rfl ?_)));intro g1 w1 q1 hb1 hg1 hl1;have bhbw_1 := Nat.le_trans hbw.size hg1;replace hf := hf.below hb1;replace hbw := bo_ hbw hb1;clear hb1 hg1 hl1;refine EL.nil (EX.seq (EC.seq (EC.region (EL.as rfl rfl (EL.nil (EX.seq (EC.seq (EC.seq (EC.region ?_)))))))));refine EL.mv rfl rfl ?_;obtain ⟨w2, c0, hrun, hR, hcn, hb2⟩ := hf.range;obtain ⟨rr, err⟩ : ∃ z, z = w1.heap.size := ⟨_, rfl⟩;rw [← err] at hrun hR;have hrw : w.heap.size ≤ rr := by rw [err]; exact hbw.size
 refine EL.rangeM rfl rfl hrun ?_;clear hf;replace q1 := q1.bl hb2;replace hbw := bo_ hbw hb2;clear hb2 hrun;refine EL.nil (EX.seq (EC.block ?_));refine EC.loopD [3, 5, 8, 9, 10, 11, 12, 13, 14, 15, 16, 17, 18, 19] (fun x : Bool × List Sx × Nat => [(3, .bool x.1)]) (fun x W => RFront W base mb rr n j F x.2.1 x.2.2 ∧ BestAt W base g1 x.1 x.2.1 ∧ Below w.heap.size w W) (fun x => x.2.2) (true, [], c0) ⟨hR, .inl ⟨rfl, rfl, q1⟩, hbw⟩ ⟨rfl, trivial⟩ ?_
 clear q1 hR hbw
 rintro ⟨fi, D, c⟩ wx ⟨hR, hB, hbw⟩
 dsimp only at hR hB
 rcases hB with ⟨hfi, hD0, q1⟩ | ⟨hfi, p, Ap, cp, q1, hop, hps, hpl⟩
 ·
  subst hfi;refine EC.seq (EC.region ?_)
  rcases hR.next 0 with ⟨hall, hrun⟩ | ⟨y, v, w3, c2, hyF, hpv, hrun, hR2, hcnt, hg3, hsz3, hen⟩
  ·
   refine EL.nextM rfl rfl hrun ?_
   exact absurd (List.eq_nil_iff_forall_not_mem.2 fun x hx => by have := hall x hx; rw [hD0] at this; exact absurd this List.not_mem_nil) hne
  ·
   refine EL.nextM rfl rfl hrun ?_;obtain ⟨Av, cv, rfl, hov⟩ := hpv;replace q1 := blk_iter2 q1 hR hg3;replace hbw := hbw.trans (below_blk hg3 hrw hbw.size);clear hR hrun hg3 hsz3;have hR := hR2;clear hR2;have hyo := (hR.front.ok _ hyF).2;refine EL.xt rfl rfl rfl (EL.nil (EX.seq (EC.seq (EC.yes rfl (EC.skip (EX.seq (EC.block (EC.seq (EC.region ?_)))))))));refine EL.val (x_entry2 rfl hen) rfl (EL.xt rfl rfl rfl (EL.newP al_134 rfl ?_));intro g4 w4 q4 hb4 hg4 hl4;have n1_4 := q1.na hg4;have bhbw_4 := Nat.le_trans hbw.size hg4;replace q1 := q1.bl hb4;replace hR := hR.below hb4;replace hov := own_below hov hb4 (Nat.le_refl _);replace hbw := bo_ hbw hb4;clear hb4 hg4 hl4;refine EL.store rfl rfl q4 sz_134 rfl rfl rfl rfl ?_;intro w5 hq5 hg5;replace q1 := q1.gr hg5 n1_4;replace hR := hR.box q4 rfl hg5;replace hov := own_type hov q4 rfl hg5;replace hbw := below_store hbw hg5 bhbw_4;replace q4 := hq5;clear hg5 hq5;refine EL.nil (EX.seq (EC.seq (EC.region (EL.mv rfl rfl (EL.mv rfl rfl (EL.skip rfl rfl rfl rfl (EL.skip rfl rfl rfl rfl (EL.skip rfl rfl rfl rfl (EL.skip rfl rfl rfl rfl ?_)))))))));refine EL.pt rfl rfl rfl (EL.nil (EX.seq (EC.yes rfl (EC.region (EL.val (ld_134 rfl (q4.at (j := 0) rfl) (q4.at (j := 1) rfl) (q4.at (j := 2) rfl)) rfl (EL.store rfl rfl q1 sz_134 rfl rfl rfl rfl ?_))))));intro w6 hq6 hg6;replace q4 := q4.gr hg6 n1_4.symm;replace hR := hR.box q1 rfl hg6;replace hov := own_type hov q1 rfl hg6;replace hbw := below_store hbw hg6 bhbw_1;replace q1 := hq6;clear hg6 hq6;refine EL.as rfl rfl (EL.nil (EX.blk ?_));refine EX.roundD (false, D ++ [y], c2) ⟨rfl, trivial⟩ (by repeat first | with_reducible exact .refl _ | refine sp_ rfl ?_ | exact .refl _ | refine sd_ rfl ?_ | refine sn_ ?_) ⟨hR, .inr ⟨rfl, y.2, Av, cv, q1, hov, ⟨y.1, by rw [hD0]; exact List.mem_singleton.2 rfl⟩, fun u hu => by rw [hD0] at hu; rw [List.mem_singleton.1 hu, cmp_pl.self]; decide⟩, hbw⟩ hcnt
 ·
  subst hfi;obtain ⟨sp, hsp⟩ := hps;refine EC.seq (EC.region ?_)
  rcases hR.next 0 with ⟨hall, hrun⟩ | ⟨y, v, w7, c2, hyF, hpv, hrun, hR2, hcnt, hg7, hsz7, hen⟩
  ·
   refine EL.nextM rfl rfl hrun (EL.xt rfl rfl rfl (EL.nil (EX.seq (EC.seq (EC.no rfl (EC.exit (EX.seq_exit (EX.seq_exit (EX.blk_here ?_)))))))));refine EX.seq (EC.seq (EC.region (EL.val (ld_134 rfl (q1.at (j := 0) rfl) (q1.at (j := 1) rfl) (q1.at (j := 2) rfl)) rfl (EL.store rfl rfl q1 sz_134 rfl rfl rfl rfl ?_))));intro w8 hq8 hg8;replace hR := hR.box q1 rfl hg8;replace hop := own_type hop q1 rfl hg8;replace hbw := below_store hbw hg8 bhbw_1;replace q1 := hq8;clear hg8 hq8;refine EL.nil (EX.seq (EC.ret ?_))
   exact EX.done (resc1 rfl rfl (lv_134 (q1.at (j := 0) rfl) (q1.at (j := 1) rfl) (q1.at (j := 2) rfl))) ⟨⟨p, sp, Ap, cp, rfl, hop, hR.sub _ hsp, fun u hu => hpl u (hall u hu)⟩, hbw⟩
  ·
   refine EL.nextM rfl rfl hrun ?_;obtain ⟨Av, cv, rfl, hov⟩ := hpv;replace q1 := blk_iter2 q1 hR hg7;obtain ⟨mi, si, sei, ci, hit⟩ := hR.iter;replace hop := (Mild.other (k := rr + 1) hg7 hit rfl (by omega)).row hop
   replace hbw := hbw.trans (below_blk hg7 hrw hbw.size);clear hR hrun hg7 hsz7;have hR := hR2;clear hR2;have hyo := (hR.front.ok _ hyF).2;refine EL.xt rfl rfl rfl (EL.nil (EX.seq (EC.seq (EC.yes rfl (EC.skip (EX.seq (EC.block (EC.seq (EC.region ?_)))))))));refine EL.val (x_entry2 rfl hen) rfl (EL.xt rfl rfl rfl (EL.newP al_134 rfl ?_));intro g9 w9 q9 hb9 hg9 hl9;have n1_9 := q1.na hg9;have bhbw_9 := Nat.le_trans hbw.size hg9;replace q1 := q1.bl hb9;replace hR := hR.below hb9;replace hop := own_below hop hb9 (Nat.le_refl _);replace hov := own_below hov hb9 (Nat.le_refl _);replace hbw := bo_ hbw hb9;clear hb9 hg9 hl9;refine EL.store rfl rfl q9 sz_134 rfl rfl rfl rfl ?_;intro w10 hq10 hg10;replace q1 := q1.gr hg10 n1_9;replace hR := hR.box q9 rfl hg10;replace hop := own_type hop q9 rfl hg10;replace hov := own_type hov q9 rfl hg10;replace hbw := below_store hbw hg10 bhbw_9;replace q9 := hq10;clear hg10 hq10;refine EL.nil (EX.seq (EC.seq (EC.region (EL.mv rfl rfl (EL.mv rfl rfl (EL.valg rfl rfl (ld_134 rfl (q9.at (j := 0) rfl) (q9.at (j := 1) rfl) (q9.at (j := 2) rfl)) rfl (EL.valg rfl rfl (ld_134 rfl (q1.at (j := 0) rfl) (q1.at (j := 1) rfl) (q1.at (j := 2) rfl)) rfl ?_)))))));refine EL.callg rfl rfl (cA2 cF99 rfl rfl) rfl (compare_any y.2 p _ _ w10 _ (Rd.of_own hov) (Rd.of_own hop) (Nat.le_refl _) (by rw [hyo.len]; exact hj) (by have h : p.steps.length = j := (hR.front.ok (sp, p) (hR.sub (sp, p) (List.mem_append.2 (.inl hsp)))).2.len; omega)) ?_
   rintro e w11 ⟨rfl, hc11⟩
   refine ⟨_, rfl, ?_⟩;replace q1 := q1.bl hc11;replace q9 := q9.bl hc11;replace hR := hR.below hc11;replace hop := own_below hop hc11 (Nat.le_refl _);replace hov := own_below hov hc11 (Nat.le_refl _);replace hbw := bo_ hbw hc11;clear hc11
   by_cases hlt : cmpP y.2 p < 0
   ·
    refine EL.valg rfl rfl (x_lss (r := true) rfl rfl (decide_eq_true hlt)) rfl (EL.pf rfl rfl rfl (EL.nil (EX.seq (EC.yes rfl (EC.region (EL.val (ld_134 rfl (q9.at (j := 0) rfl) (q9.at (j := 1) rfl) (q9.at (j := 2) rfl)) rfl (EL.store rfl rfl q1 sz_134 rfl rfl rfl rfl ?_)))))));intro w12 hq12 hg12;replace q9 := q9.gr hg12 n1_9.symm;replace hR := hR.box q1 rfl hg12;replace hop := own_type hop q1 rfl hg12;replace hov := own_type hov q1 rfl hg12;replace hbw := below_store hbw hg12 bhbw_1;replace q1 := hq12;clear hg12 hq12;refine EL.as rfl rfl (EL.nil (EX.blk ?_));refine EX.roundD (false, D ++ [y], c2) ⟨rfl, trivial⟩ (by repeat first | with_reducible exact .refl _ | refine sp_ rfl ?_ | exact .refl _ | refine sd_ rfl ?_ | refine sn_ ?_) ⟨hR, .inr ⟨rfl, y.2, Av, cv, q1, hov, ⟨y.1, List.mem_append.2 (.inr (List.mem_singleton.2 rfl))⟩, best_new hlt hpl⟩, hbw⟩ hcnt
   ·
    refine EL.valg rfl rfl (x_lss (r := false) rfl rfl (decide_eq_false hlt)) rfl (EL.pf rfl rfl rfl (EL.nil (EX.seq (EC.no rfl (EC.skip (EX.blk ?_))))));refine EX.roundD (false, D ++ [y], c2) ⟨rfl, trivial⟩ (by repeat first | with_reducible exact .refl _ | refine sp_ rfl ?_ | exact .refl _ | refine sd_ rfl ?_ | refine sn_ ?_) ⟨hR, .inr ⟨rfl, p, Ap, cp, q1, hop, ⟨sp, List.mem_append.2 (.inl hsp)⟩, best_old hlt hpl⟩, hbw⟩ hcnt
def IterAt2 (U : List Nat) (P : Program) (gf : Nat) (caps : Array Value) (ok : It → World → Prop) (n0 : Nat) (S : List Nat) (all : List (List Int)) (w : World) : Prop :=
 ∀ (l : Nat) (J Jx : List It → World → Prop) (W : World), Kp n0 S w W → l < W.heap.size → SoftI n0 (l + 1) U J → SoftI n0 (l + 1) U Jx →
  (∀ pre x W1, ok x W1 → J pre W1 → (pre ++ [x]).map (·.1) <+: all → YieldW P l #[.int .i64 (x.1.getD 0 0), x.2] W1 (RoundAnsK n0 S l J Jx (pre ++ [x]) W1)) →
  J [] W → Calls P gf (#[.func (.yield l) #[] #[]] ++ caps) W fun e W' => (∃ v, e = .returned v) ∧ Kp n0 S W W' ∧ ((∃ xs : List It, xs.map (·.1) = all ∧ J xs W') ∨ (∃ pre : List It, pre ≠ [] ∧ pre.map (·.1) <+: all ∧ Jx pre W'))
theorem env_arg2 {n : Nat} {ds : List Deferred} {σ : Sg} {d1 d2 : Nat} {a : Act} {v1 v2 : Value} (h : EnvG n ds σ a) (hd1 : Nat.blt d1 n = true) (hd2 : Nat.blt d2 n = true) : EnvG n [] (ins (ins σ d1 v1) d2 v2) ⟨(#[d1, d2].zip #[v1, v2]).foldl (fun t (p, v) => t.setIfInBounds p v) a.tmps, []⟩ := by
 have h1 := (Env.put (Env.put (a := ⟨a.tmps, []⟩) h.env hd1 v1) hd2 v2).g
 simpa [Act.put] using h1
section
variable {ro : Option Nat} {k : Nat} {P : Program} {n : Nat} {ds : List Deferred} {σ : Sg} {w : World} {Q : Exit → Act → World → Prop} {L : List Oper} {rest : List Oper}
theorem ELI.yield2 {d ty l : Nat} {x y z : Operand} {at' : Array TypeId} {pos : String} {af : Array Edge} {v u : Value} {R : Ending → World → Prop} {fn : FuncId} {tmps : Array Value} {assign body : Code} (hx : evS σ x = some (.func (.yield l) #[] #[])) (hy : evS σ y = some v) (hz : evS σ z = some u) (hd : Nat.blt d n = true) (hi : (Instr.yield l #[v, u]).run P w = .ok (.round l fn tmps assign body) w) (hR : RoundIn Fence.wide 0 P l fn tmps assign body w R)
  (next : ∀ e w', R e w' → ∃ v, e = .returned v ∧ ELI ro k P n ds L Q rest (ins σ d v) w') : ELI ro k P n ds L Q (⟨some d, .call { callee := .value x, args := #[y, z], argTypes := at' }, ty, pos, af, none⟩ :: rest) σ w := fun a ha => by
 have hr' : (execOp a.eval ⟨some d, .call { callee := .value x, args := #[y, z], argTypes := at' }, ty, pos, af, none⟩).run P w = .ok (.round l fn tmps assign body) w := by
  simp only [execOp, resolve, List.map_toArray, List.map_cons, List.map_nil, ha.eval hx, ha.eval hy, ha.eval hz]
  simp [go_sem, Deferred.ofValue, hi]
 unfold wpListIn
 rw [if_pos (wanted_none rfl _)];refine ⟨fun _ _ => trivial, ?_⟩
 rw [semAt_fr (nodefer hr' (fun d h => by cases h)), hr']
 refine ⟨fr_depth _ _, RoundIn.mono (roundIn_fr hR) fun e w' he => ?_⟩
 obtain ⟨v, rfl, hv⟩ := next e w' he
 exact hv _ (ha.put hd v)
end
section
variable {P : Program} {n : Nat} {ds : List Deferred} {σ : Sg} {w : World} {Q : Exit → Act → World → Prop}
theorem rangeF2 {MT : TypeId} {cs : It → Array Value} {U : List Nat} {k : Nat} {g : Operand} {d1 d2 : Nat} {assign body : Code} {gf : Nat} {caps : Array Value} (hg : evS σ g = some (.func (.func gf) #[] caps)) (eg : ∀ args w, (callFunc gf args).run P w = .ok (.enter gf args) w) (hd1 : Nat.blt d1 n = true) (hd2 : Nat.blt d2 n = true)
  {ok : It → World → Prop} {n0 : Nat} {S : List Nat} {all : List (List Int)} (hit : IterAt2 U P gf caps ok n0 S all w) (hn0 : n0 ≤ w.heap.size)
  (I Ix : List It → World → Prop) (hIS : SoftI n0 w.heap.size U I) (hIxS : SoftI n0 w.heap.size U Ix) (h0 : I [] w) (hok : OwnFrom w.heap.size ok) (hokB : ∀ x A B, ok x A → Below A.heap.size A B → ok x B) (σ1 : It → Nat → Sg)
  (hassign : ∀ l x W K, ok x W → (∀ g a' W', EnvG n [] (σ1 x g) a' → Blk W' g MT (cs x) → Below W.heap.size W W' → W.heap.size ≤ g → K a' W') → ECI (some l) 0 P n [] assign (Exit.then K (fun _ _ _ => False)) (ins (ins σ d1 (.int .i64 (x.1.getD 0 0))) d2 x.2) W)
  (hbody : ∀ l pre x g W, (pre ++ [x]).map (·.1) <+: all → ok x W → I pre W → Blk W g MT (cs x) → w.heap.size ≤ g → w.heap.size ≤ W.heap.size → ECI (some l) 0 P n [] body (fun e _ W' => KeepsFrom w.heap.size W W' ∧ Kp n0 S W W' ∧ ((e = .normal ∧ I (pre ++ [x]) W') ∨ (e = .ret ∧ Ix (pre ++ [x]) W'))) (σ1 x g) W)
  (hdone : ∀ D xs W, w.heap.size ≤ D → xs.map (·.1) = all → I xs W → Kp n0 S w W → W.heap[D]? = some (.deferred (some [])) → EXI n ({ target := .collected D, args := #[] } :: ds) Q .normal σ W)
  (hstop : ∀ D pre W, w.heap.size ≤ D → pre ≠ [] → pre.map (·.1) <+: all → Ix pre W → Kp n0 S w W → W.heap[D]? = some (.deferred (some [])) → EXI n ({ target := .collected D, args := #[] } :: ds) Q .ret σ W) :
  ECI none k P n ds (.rangeFunc g #[d1, d2] assign body) Q σ w := fun a ha => by
 have hI := hIS.own;have hIx := hIxS.own;refine wpIn_rangeFunc fun fn hfn => ?_
 obtain ⟨rec, hrec⟩ : ∃ rec : LoopState → Option Code → Loop, rec = fun st pe => { state := st, pending := pe, fn, tmps := a.tmps, params := #[d1, d2], assign, body, defers := w.heap.size } := ⟨_, rfl⟩
 obtain ⟨W1, eW1⟩ : ∃ W1, W1 = (w.alloc (.deferred (some []))).alloc (.loop (rec .ready none)) := ⟨_, rfl⟩;have hL := World.alloc_heap_new (w.alloc (.deferred (some []))) (.loop (rec .ready none));rw [World.size_alloc, ← eW1] at hL;have hD : W1.heap[w.heap.size]? = some (.deferred (some [])) := by rw [eW1]; exact (Below.heap_alloc _ _ _ (by simp)).trans (World.alloc_heap_new w _)
 have hs1 : W1.heap.size = w.heap.size + 2 := by rw [eW1]; simp
 have hI1 : I [] W1 := by rw [eW1]; exact hI.alloc _ (hI.alloc _ h0)
 have hK1 : Kp n0 S w W1 := by rw [eW1]; exact (Kp.alloc w hn0 _).trans (Kp.alloc _ (by simp; omega) _)
 refine ⟨w.heap.size + 1, [{ target := .collected w.heap.size, args := #[] }], W1, { target := .fn (.func gf) caps, args := #[.func (.yield (w.heap.size + 1)) #[] #[]] }, W1, gf, #[.func (.yield (w.heap.size + 1)) #[] #[]] ++ caps, W1, ?_, ?_, ?_, ?_, fr_depth _ _, ?_⟩
 ·rw [eW1, hrec]; exact run_enterLoop_outer _ _ _ _ _
 ·simp only [resolve, ha.eval hg]
  simp [go_sem]
 ·intro f' hf'; trivial
 ·simp [invoke, go_sem, eg]
 ·refine CallsIn.mono (callsIn_fr (hit (w.heap.size + 1) (fun pre W => I pre W ∧ w.heap.size + 2 ≤ W.heap.size ∧ W.heap[w.heap.size + 1]? = some (.loop (rec .ready none)) ∧ W.heap[w.heap.size]? = some (.deferred (some [])))
   (fun pre W => Ix pre W ∧ w.heap.size + 2 ≤ W.heap.size ∧ W.heap[w.heap.size + 1]? = some (.loop (rec .done (some .ret))) ∧ W.heap[w.heap.size]? = some (.deferred (some [])))
   W1 hK1 (by omega) ?_ ?_ ?_ ⟨hI1, by omega, hL, hD⟩)) ?_
  ·rintro s A B ⟨h1, h2, h3, h4⟩ hb
   exact ⟨hIS s A B h1 (hb.mono (by omega)), Nat.le_trans h2 hb.size, hb.other h3 rfl (by omega), hb.other h4 rfl (by omega)⟩
  ·rintro s A B ⟨h1, h2, h3, h4⟩ hb
   exact ⟨hIxS s A B h1 (hb.mono (by omega)), Nat.le_trans h2 hb.size, hb.other h3 rfl (by omega), hb.other h4 rfl (by omega)⟩
  ·rintro pre x W hokx ⟨hi, hsz, hl, hk⟩ hpf
   have hlt : w.heap.size + 1 < W.heap.size := by omega
   have hy := run_yield (P := P) (args := #[.int .i64 (x.1.getD 0 0), x.2]) hl (by rw [hrec]; rfl)
   rw [hrec] at hy;refine ⟨fn, _, assign, body, hy, roundIn_of_wpIn hfn (hassign (w.heap.size + 1) x W _ hokx (fun g a' W' ha' hq hbel hgW => ?_) _ (env_arg2 ha hd1 hd2))⟩
   have hl' : W'.heap[w.heap.size + 1]? = some (.loop (rec .ready none)) := (hbel.block _ hlt).trans hl;have hk' : W'.heap[w.heap.size]? = some (.deferred (some [])) := (hbel.block _ (by omega)).trans hk
   have hsz' := hbel.size;refine ⟨_, run_beginRound hl' (by rw [hrec]), ?_⟩
   obtain ⟨W2, eW2⟩ : ∃ W2, W2 = W'.putObj (w.heap.size + 1) (.loop { rec .ready none with state := .busy }) := ⟨_, rfl⟩;have hl2 : W2.heap[w.heap.size + 1]? = some (.loop { rec .ready none with state := .busy }) := by rw [eW2]; exact World.putObj_heap_same (by omega)
   have hk2 : W2.heap[w.heap.size]? = some (.deferred (some [])) := by rw [eW2]; exact (World.putObj_heap_other (by omega)).trans hk'
   have hw2 : Kp n0 S W W2 := by rw [eW2]; exact (Kp.of_below hbel (by omega)).trans (Kp.putObj _ (by omega) hl' rfl)
   have hkw2 : KeepsFrom (w.heap.size + 1 + 1) W W2 := (KeepsFrom.below hbel).trans fun j o hj ho _ => by rw [eW2]; exact (World.putObj_heap_other (by omega)).trans ho
   have hi2 : I pre W2 := by rw [eW2]; exact hI.putObj _ (hIS _ _ _ hi (Soft.of_below hbel)) (by omega) hl' rfl
   have hok2 : ok x W2 := by rw [eW2]; exact hok.putObj _ (hokB _ _ _ hokx hbel) (by omega) hl' rfl
   have hq2 : Blk W2 g MT (cs x) := by
    rw [eW2];refine (World.putObj_heap_other fun e => ?_).trans hq
    subst e
    unfold Blk at hq
    rw [hq] at hl'
    cases hl'
   have hsz2 : w.heap.size + 2 ≤ W2.heap.size := Nat.le_trans hsz hw2.size;rw [← eW2];refine wpIn_mono (hbody (w.heap.size + 1) pre x g W2 hpf hok2 hi2 hq2 (by omega) (by omega) a' ha') ?_
   rintro e a3 W3 ⟨hk3, hp3, h3⟩
   have hl3 := hk3 _ _ (by omega) hl2 rfl
   have hd3 := hk3 _ _ (by omega) hk2 rfl
   have fin : ∀ jump : Option Code, ∃ W4, (Instr.endRound (w.heap.size + 1) jump).run P W3 = .ok (.bool jump.isNone) W4 ∧ W4 = W3.putObj (w.heap.size + 1) (.loop (rec (if jump.isNone then .ready else .done) jump)) ∧ (Kp n0 S W W4 ∧ KeepsFrom (w.heap.size + 1 + 1) W W4) ∧ w.heap.size + 2 ≤ W4.heap.size ∧ W4.heap[w.heap.size + 1]? = some (.loop (rec (if jump.isNone then .ready else .done) jump)) ∧ W4.heap[w.heap.size]? = some (.deferred (some [])) := fun jump => by
    have hr := run_endRound (P := P) jump hl3;rw [hrec] at hr ⊢;have hk4 : Kp n0 S W3 (W3.putObj (w.heap.size + 1) (.loop (rec (if jump.isNone then .ready else .done) jump))) := Kp.putObj _ (by omega) hl3 rfl
    rw [hrec] at hk4
    exact ⟨_, hr, rfl, ⟨hw2.trans (hp3.trans hk4), (hkw2.trans (hk3.mono (by omega))).trans fun j o hj ho _ => (World.putObj_heap_other (by omega)).trans ho⟩, Nat.le_trans hsz2 (Nat.le_trans hp3.size hk4.size), World.putObj_heap_same (Array.getElem?_eq_some_iff.1 hl3).1, (World.putObj_heap_other (by omega)).trans hd3⟩
   rcases h3 with ⟨rfl, hi3⟩ | ⟨rfl, hi3⟩
   ·obtain ⟨W4, hr, e4, k4, s4, l4, d4⟩ := fin none
    exact ⟨_, W4, hr, k4.1, k4.2, .inl ⟨rfl, by rw [e4]; exact hI.putObj _ hi3 (by omega) hl3 rfl, s4, l4, d4⟩⟩
   ·obtain ⟨W4, hr, e4, k4, s4, l4, d4⟩ := fin (some .ret)
    exact ⟨_, W4, hr, k4.1, k4.2, .inr ⟨rfl, by rw [e4]; exact hIx.putObj _ hi3 (by omega) hl3 rfl, s4, l4, d4⟩⟩
  ·rintro e W2 ⟨⟨v, rfl⟩, hkk, ⟨xs, hS, hi, hsz, hl, hk⟩ | ⟨pre, hne, hS, hi, hsz, hl, hk⟩⟩
   ·refine ⟨none, _, by have := run_endLoop (P := P) hl (by rw [hrec]; simp); rw [hrec] at this; exact this, ?_⟩
    exact hdone w.heap.size xs _ (Nat.le_refl _) hS (hI.putObj _ hi (by omega) hl rfl) (hK1.trans (hkk.trans (Kp.putObj _ (by omega) hl rfl))) ((World.putObj_heap_other (by omega)).trans hk) _ ⟨ha.env, by rw [List.singleton_append, ha.ds]⟩
   ·refine ⟨some .ret, _, by have := run_endLoop (P := P) hl (by rw [hrec]; simp); rw [hrec] at this; exact this, wpIn_ret ?_⟩
    exact hstop w.heap.size pre _ (Nat.le_refl _) hne hS (hIx.putObj _ hi (by omega) hl rfl) (hK1.trans (hkk.trans (Kp.putObj _ (by omega) hl rfl))) ((World.putObj_heap_other (by omega)).trans hk) _ ⟨ha.env, by rw [List.singleton_append, ha.ds]⟩
end
section
variable {n : Nat} {σ : Sg} {w : World} {dst : Option Tmp} {ty : TypeId} {pos : String} {af : Array Edge} {g : Option (Nat × Bool)} {x y z : Operand} {at' : Array TypeId}
theorem mf_101_0_2 {x0 x1 : Operand} {v0 v1 : Value} (h0 : evS σ x0 = some v0) (h1 : evS σ x1 = some v1) : Gives Try.prog n σ w ⟨dst, .makeFunc (.func 101) #[] #[x0, x1], ty, pos, af, g⟩ (.func (.func 101) #[] #[v0, v1]) := fun a ha => by
 simp only [execOp, List.map_toArray, List.map_cons, List.map_nil, ha.eval h0, ha.eval h1]
 simp [go_sem]
end
theorem ways_fn {v0 v3 v4 v5 : Value} {z1 z2 : Value} {tk : List Tr} (h8 : tk.length = 8) (w : World) : Calls Try.prog 96 #[.agg #[v0, z1, z2, v3, v4, v5], .agg (tkC tk).toArray] w fun e w' => (∃ b1 b2, e = .returned (.func (.func 101) #[] #[.pointer (some ⟨b1, 0, none⟩), .pointer (some ⟨b2, 0, none⟩)]) ∧ Blk w' b1 120 (tkC tk).toArray ∧ Blk w' b2 116 #[v0, z1, z2, v3, v4, v5] ∧ w.heap.size ≤ b1 ∧ w.heap.size ≤ b2) ∧ Below w.heap.size w w' := by
 have hbw := Below.refl w.heap.size w;refine EC.enter 6 Try.func96 rfl rfl rfl (EC.seq (EC.region (EL.newP (bx_116 rfl) rfl ?_)));intro g1 w1 q1 hb1 hg1 hl1;have bhbw_1 := Nat.le_trans hbw.size hg1;replace hbw := bo_ hbw hb1;clear hb1 hg1 hl1;refine EL.newP (x_boxA rfl) rfl ?_;intro g2 w2 q2 hb2 hg2 hl2;have n1_2 := q1.na hg2;have bhbw_2 := Nat.le_trans hbw.size hg2;replace q1 := q1.bl hb2;replace hbw := bo_ hbw hb2;clear hb2 hg2 hl2;refine EL.as rfl rfl (EL.nil (EX.seq (EC.seq (EC.region (EL.val (mf_101_0_2 rfl rfl) rfl (EL.as rfl rfl (EL.nil (EX.seq (EC.ret ?_)))))))))
 exact EX.done (res1 rfl rfl) ⟨⟨_, _, rfl, q2, q1, bhbw_2, bhbw_1⟩, hbw⟩
/-- a tank behind a cleaning of kind k, or without one -/
def wayT (ru : Rules) (tk : List Tr) (k : Int) : List Tr := if k < 0 then tk else washT ru tk k.toNat
theorem wayT_ok {ru : Rules} {tk : List Tr} (hro : RulesOk ru) (ht : TkOk tk) (k : Int) : TkOk (wayT ru tk k) := by
 unfold wayT
 split
 ·exact ht
 ·exact washT_ok ht hro _
def allK (K : Nat) : List (List Int) := (kindsL K).map fun k => [k]
theorem kindsL_succ {K : Nat} : kindsL (K + 1) = kindsL K ++ [((K : Nat) : Int)] := by
 unfold kindsL
 rw [List.range_succ, List.map_append, List.cons_append]
 rfl
theorem allK_succ {K : Nat} : allK (K + 1) = allK K ++ [[((K : Nat) : Int)]] := by
 unfold allK
 rw [kindsL_succ, List.map_append]
 rfl
theorem allK_le {n : Nat} : ∀ k, allK n <+: allK (n + k)
 | 0 => List.prefix_refl _
 | k + 1 => (allK_le k).trans (by rw [← Nat.add_assoc, allK_succ]; exact List.prefix_append _ _)
theorem allK_pre {x K : Nat} (h : x < K) : allK x ++ [[((x : Nat) : Int)]] <+: allK K := by
 rw [← allK_succ];have h1 := allK_le (n := x + 1) (K - (x + 1))
 rwa [show x + 1 + (K - (x + 1)) = K by omega] at h1
theorem allK_one {K : Nat} : [([-1] : List Int)] <+: allK K := by
 have h := allK_le (n := 0) K
 rwa [Nat.zero_add] at h
def okW (ru : Rules) (tk : List Tr) (x : It) (_ : World) : Prop := ∃ k : Int, x.1 = [k] ∧ x.2 = .agg (tkC (wayT ru tk k)).toArray
set_option maxHeartbeats 1000000 in
theorem ways_iter {ru : Rules} {ua up : List Value} {vl va vp vk : Value} {w : World} {B : Nat} (hr : RdRules w B vl va vp vk ru ua up) (hro : RulesOk ru) {tk : List Tr} (ht : TkOk tk)
  {n0 : Nat} {S : List Nat} (hBn : B ≤ n0) (hn0 : n0 ≤ w.heap.size) (hS : memB S 116 = false ∧ memB S 120 = false) {b1 b2 : Nat} (hq1 : Blk w b1 120 (tkC tk).toArray) (hq2 : Blk w b2 116 #[vl, .int .i64 ru.fade.lo, .int .i64 ru.fade.hi, va, vp, vk]) :
  IterAt2 [] Try.prog 101 #[.pointer (some ⟨b1, 0, none⟩), .pointer (some ⟨b2, 0, none⟩)] (okW ru tk) n0 S (allK ru.kinds.length) w := by
 intro la J Jx W hkW hlt_ hJ hJx hY hJ0;have hn0W := Nat.le_trans hn0 hkW.size;have qc1 := hkW.blk _ _ _ hq1 hS.2;have qc2 := hkW.blk _ _ _ hq2 hS.1;have hkp := Kp.refl n0 S W;have hkw := hkW;have hk4 := hro.k4;obtain ⟨Al, cl, Aa, ca, Ap, cp, Ak, ck, rfl, rfl, rfl, rfl⟩ := hr.sh4;change Calls Try.prog 101 #[.func (.yield la) #[] #[], .pointer (some ⟨b1, 0, none⟩), .pointer (some ⟨b2, 0, none⟩)] W _;refine EC.enter 25 Try.func101 rfl rfl rfl (EC.seq (EC.seq (EC.inn (k := 0) (ECI.region (ELI.val (x_move rfl) rfl (ELI.val (x_loadA rfl (qc1.range (PartAt.whole _)) Try.underlying120 rfl (sz_120.trans (congrArg some (tkC_8 ht.n8).symm))) rfl ?_))))));have hpf : (([] : List It) ++ [(([-1] : List Int), Value.agg (tkC (wayT ru tk (-1))).toArray)]).map (·.1) <+: allK ru.kinds.length := allK_one;obtain ⟨fn_, tmps_, assign_, body_, hi_, hR_⟩ := hY [] ([-1], .agg (tkC (wayT ru tk (-1))).toArray) _ ⟨-1, rfl, rfl⟩ hJ0 hpf;refine ELI.yield2 rfl rfl rfl rfl hi_ hR_ ?_
 rintro e wy ⟨hky, hkf, ⟨rfl, hJy⟩ | ⟨rfl, hJy⟩⟩
 ·
  refine ⟨_, rfl, ?_⟩;refine ELI.val (x_not rfl) rfl (ELI.nil (EXI.of ?_));replace hkp := hkp.trans hky;replace hkw := hkw.trans hky;replace qc1 := hky.blk _ _ _ qc1 hS.2;replace qc2 := hky.blk _ _ _ qc2 hS.1;have hJ0 := hJy;refine EX.seq (EC.no rfl (EC.skip (EX.seq (EC.seq (EC.region (EL.val (fa_116_0 rfl) rfl (EL.val (fa_28_4 rfl) rfl (EL.val (ld_26 rfl (qc2.at (j := 5) rfl)) rfl (EL.val (ln_26 rfl) rfl ?_)))))))));refine EL.mv rfl rfl (EL.nil (EX.seq (EC.block ?_)));refine EC.loopD [4, 13, 14, 15, 16, 17, 18, 19, 20, 21, 22, 23, 24] (fun x : List It × Nat => [(13, .int .i64 (x.2 : Nat))]) (fun x W1 => x.2 ≤ ru.kinds.length ∧ x.1.map (·.1) = allK x.2 ∧ Blk W1 b1 120 (tkC tk).toArray ∧ Blk W1 b2 116 #[.slice Al ru.levels.length cl, .int .i64 ru.fade.lo, .int .i64 ru.fade.hi, .slice Aa ru.allow.length ca, .slice Ap ru.apart.length cp, .slice Ak ru.kinds.length ck] ∧ Kp n0 S W W1 ∧ Kp n0 S w W1 ∧ J x.1 W1) (fun x => ru.kinds.length - x.2) (_, 0) ⟨Nat.zero_le _, rfl, qc1, qc2, hkp, hkw, hJ0⟩ ⟨rfl, trivial⟩ ?_
  clear qc1 qc2 hkp hkw hJ0 hJy
  rintro ⟨pre, x⟩ wx ⟨hx, hall, qc1, qc2, hkp, hkw, hJ0⟩
  dsimp only at hx hall hJ0
  by_cases hlt : x < ru.kinds.length
  ·
   refine EC.seq (EC.region ?_);refine EL.val (x_lss rfl rfl (decide_eq_true (show (((x : Nat) : Int) < ((ru.kinds.length : Nat) : Int)) by omega))) rfl ?_
   refine EL.nil (EX.seq (EC.seq (EC.yes rfl (EC.skip (EX.seq (EC.seq (EC.block (EC.seq (EC.region ?_)))))))));refine EL.mv rfl rfl (EL.as rfl rfl (EL.nil (EX.seq (EC.seq (EC.inn (k := 0) (ECI.region (ELI.val (x_move rfl) rfl (ELI.val (x_move rfl) rfl (ELI.val (ld_116 rfl (qc2.at (j := 0) rfl) (qc2.at (j := 1) rfl) (qc2.at (j := 2) rfl) (qc2.at (j := 3) rfl) (qc2.at (j := 4) rfl) (qc2.at (j := 5) rfl)) rfl ?_)))))))));refine ELI.val (x_loadA rfl (qc1.range (PartAt.whole _)) Try.underlying120 rfl (sz_120.trans (congrArg some (tkC_8 ht.n8).symm))) rfl (ELI.val (x_move rfl) rfl (ELI.call (cA3 cF72 rfl rfl rfl) rfl (wash_any (hr.below (hkw.below.mono hBn)) hro ht hlt) ?_))
   rintro e w5 ⟨rfl, hc5⟩
   refine ⟨_, rfl, ?_⟩;replace hkp := hkp.trans (Kp.of_below hc5 (Nat.le_trans hn0W hkp.size));replace hkw := hkw.trans (Kp.of_below hc5 (Nat.le_trans hn0 hkw.size));replace hJ0 := hJ _ _ _ hJ0 (Soft.of_below hc5);replace qc1 := qc1.bl hc5;replace qc2 := qc2.bl hc5;have hpf : (pre ++ [(([((x : Nat) : Int)] : List Int), Value.agg (tkC (wayT ru tk ((x : Nat) : Int))).toArray)]).map (·.1) <+: allK ru.kinds.length := by rw [List.map_append, hall]; exact allK_pre hlt
   have hwy : wayT ru tk ((x : Nat) : Int) = washT ru tk x := by unfold wayT; rw [if_neg (by omega), Int.toNat_natCast]
   obtain ⟨fn_, tmps_, assign_, body_, hi_, hR_⟩ := hY pre ([((x : Nat) : Int)], .agg (tkC (wayT ru tk ((x : Nat) : Int))).toArray) _ ⟨_, rfl, rfl⟩ hJ0 hpf;rw [hwy] at hi_;refine ELI.yield2 rfl rfl rfl rfl hi_ hR_ ?_
   rintro e wy ⟨hky, hkf, ⟨rfl, hJy⟩ | ⟨rfl, hJy⟩⟩
   ·
    refine ⟨_, rfl, ?_⟩;refine ELI.val (x_not rfl) rfl (ELI.nil (EXI.of ?_));replace hkp := hkp.trans hky;replace hkw := hkw.trans hky;replace qc1 := hky.blk _ _ _ qc1 hS.2;replace qc2 := hky.blk _ _ _ qc2 hS.1;have hJ0 := hJy;refine EX.seq (EC.no rfl (EC.skip (EX.blk (EX.seq (EC.region ?_)))));refine EL.val (x_add rfl rfl (c := ((x + 1 : Nat) : Int)) ((IntWalk.i64_in _ ⟨by first | omega | (simp only; omega), by first | omega | (simp only; omega)⟩).trans (by first | omega | (simp only; omega)))) rfl ?_
    refine EL.mv rfl rfl (EL.nil ?_);refine EX.roundD (pre ++ [([((x : Nat) : Int)], .agg (tkC (wayT ru tk ((x : Nat) : Int))).toArray)], x + 1) ⟨rfl, trivial⟩ (by repeat first | with_reducible exact .refl _ | refine sp_ rfl ?_ | exact .refl _ | refine sd_ rfl ?_ | refine sn_ ?_) ⟨hlt, by rw [List.map_append, hall]; exact allK_succ.symm, qc1, qc2, hkp, hkw, hJ0⟩ (by simp only; omega)
   ·
    refine ⟨_, rfl, ?_⟩;refine ELI.val (x_not rfl) rfl (ELI.nil (EXI.of ?_));replace hkp := hkp.trans hky;replace hkw := hkw.trans hky;replace qc1 := hky.blk _ _ _ qc1 hS.2;replace qc2 := hky.blk _ _ _ qc2 hS.1;refine EX.seq (EC.yes rfl (EC.ret (EX.blk_ret (EX.seq_ret (EX.seq_ret (EX.blk_ret ?_))))))
    exact EX.done (res0 rfl) ⟨⟨_, rfl⟩, hkp, .inr ⟨_, by simp, hpf, hJy⟩⟩
  ·
   have hxe : x = ru.kinds.length := by omega
   subst hxe;refine EC.seq (EC.region ?_);refine EL.val (x_lss rfl rfl (decide_eq_false (show ¬(((ru.kinds.length : Nat) : Int) < ((ru.kinds.length : Nat) : Int)) by omega))) rfl ?_
   refine EL.nil (EX.seq (EC.seq (EC.no rfl (EC.exit (EX.seq_exit (EX.seq_exit (EX.blk_here ?_)))))))
   exact EX.done' (res0 rfl) ⟨⟨_, rfl⟩, hkp, .inl ⟨pre, hall, hJ0⟩⟩
 ·
  refine ⟨_, rfl, ?_⟩;refine ELI.val (x_not rfl) rfl (ELI.nil (EXI.of ?_));replace hkp := hkp.trans hky;replace hkw := hkw.trans hky;replace qc1 := hky.blk _ _ _ qc1 hS.2;replace qc2 := hky.blk _ _ _ qc2 hS.1;refine EX.seq (EC.yes rfl (EC.ret (EX.seq_ret ?_)))
  exact EX.done (res0 rfl) ⟨⟨_, rfl⟩, hkp, .inr ⟨_, by simp, hpf, hJy⟩⟩
theorem x_clip {n : Nat} {σ : Sg} {w : World} {dst : Option Tmp} {ty : TypeId} {pos : String} {af : Array Edge} {g : Option (Nat × Bool)} {x y z : Operand} {W : World} {A : Option Addr} {m c base e size : Nat} {xs : List Value} (ho : W.ownsRow base e size (.slice A m c) m xs) (hx : evS σ x = some (.slice A m c)) (hy : evS σ y = some (.int .i64 (m : Int))) (hz : evS σ z = some (.int .i64 (m : Int))) : Gives Try.prog n σ w ⟨dst, .slice 65 x none (some y) (some z), ty, pos, af, g⟩ (.slice A m m) := fun a ha => by
 have k0 : (0 : Int) ≤ (m : Int) := Int.natCast_nonneg _
 simp only [execOp, Option.map_some, Option.map_none, ha.eval hx, ha.eval hy, ha.eval hz]
 obtain ⟨_, ⟨h, hm⟩ | ⟨b, cap, cur, h, _, _, hc, _⟩⟩ := ho
 ·simp only [Value.slice.injEq] at h
  obtain ⟨rfl, rfl, rfl⟩ := h
  simp [go_sem]
 ·simp only [Value.slice.injEq] at h
  obtain ⟨rfl, _, rfl⟩ := h;have k3 : (m : Int) ≤ (c : Int) := by omega
  by_cases e : m = 0
  ·subst e; simp [go_sem]
  ·simp [go_sem, k0, k3, hc, e]
theorem Clip_any {W : World} {A : Option Addr} {m c base e size : Nat} {xs : List Value} (w : World) (ho : W.ownsRow base e size (.slice A m c) m xs) : Calls Try.prog 97 #[.slice A m c] w fun e w' => e = .returned (.slice A m m) ∧ Below w.heap.size w w' := by
 have hbw := Below.refl w.heap.size w;refine EC.enter 9 Try.func97 rfl rfl rfl (EC.seq (EC.region (EL.as rfl rfl (EL.nil (EX.seq (EC.seq (EC.region (EL.mv rfl rfl (EL.mv rfl rfl ?_)))))))));refine EL.val (ln_65 rfl) rfl (EL.mv rfl rfl (EL.val (ln_65 rfl) rfl (EL.val (x_clip ho rfl rfl rfl) rfl (EL.as rfl rfl (EL.nil (EX.seq (EC.ret ?_)))))))
 exact EX.done (res1 rfl rfl) ⟨rfl, hbw⟩
/-- what taking the marks does, to all that is no mark -/
structure TookO (n0 : Nat) (w w' : World) : Prop where
 took : Took n0 w w'
 keep : ∀ (j : Nat) (o : Obj), w.heap[j]? = some o → (∀ x, o ≠ .deferred x) → w'.heap[j]? = some o
theorem leaves_marksO {P : Program} {fn : Func} {tmps : Array Value} {R : Ending → World → Prop} {n0 k : Nat} : ∀ (ds : List Deferred) (w : World), Marks n0 ds w → ds.Nodup → (∀ w', TookO n0 w w' → ∃ v, (results fn tmps).run P w' = .ok v w' ∧ R (.returned v) w') → LeavesInM Fence.wide k P fn tmps R ds .returning w
 | [], w, _, _, h => h w ⟨⟨Below.refl _ _, rfl, fun _ _ _ h => h⟩, fun _ _ h _ => h⟩
 | d :: ds, w, hm, hd, h => by
  obtain ⟨D, hD, rfl, hw⟩ := hm d (List.mem_cons_self ..);have ho : ∀ j, j ≠ D → (w.putObj D (.deferred none)).heap[j]? = w.heap[j]? := fun j hj => World.putObj_heap_other hj
  refine ⟨by simp, .inl ⟨D, _, rfl, run_takeDeferred hw, leaves_marksO (n0 := n0) ds _ (fun d' hd' => ?_) (List.nodup_cons.1 hd).2 fun w' ht => h w' ?_⟩⟩
  ·obtain ⟨D', h1, rfl, h3⟩ := hm d' (List.mem_cons_of_mem _ hd')
   refine ⟨D', h1, rfl, (ho D' fun e => ?_).trans h3⟩
   subst e
   exact (List.nodup_cons.1 hd).1 hd'
  ·have hk : Kp n0 [] w (w.putObj D (.deferred none)) := Kp.putObj _ hD hw rfl
   refine ⟨⟨hk.below.trans ht.took.below, ht.took.size.trans (by simp), fun g T cs hg => ht.took.blk g T cs (hk.blk g T cs hg rfl)⟩, fun j o hj hn => ht.keep j o ((ho j fun e => ?_).trans hj) hn⟩
   subst e;rw [hw] at hj
   injection hj with hj
   exact hn _ hj.symm
section
variable {P : Program} {n : Nat} {ds : List Deferred} {σ : Sg} {w : World}
theorem EXI.doneO {fn : Func} {R : Ending → World → Prop} {n0 : Nat} {v : Value} (hm : Marks n0 ds w) (hd : ds.Nodup) (hr : ∀ w', TookO n0 w w' → ∀ a, Env n σ a → (results fn a.tmps).run P w' = .ok v w') (h : ∀ w', TookO n0 w w' → R (.returned v) w') : EXI n ds (bodyPostM Fence.wide 0 P fn R) .ret σ w := fun a ha => by
 show LeavesInM Fence.wide 0 P fn a.tmps R a.defers .returning w
 rw [ha.ds]
 exact leaves_marksO ds w hm hd fun w' ht => ⟨v, hr w' ht ⟨a.tmps, []⟩ ha.env, h w' ht⟩
end
section
variable {A B : World} {n0 g : Nat} {S : List Nat} {o : Obj}
theorem Kp.other (hn : n0 ≤ g) (ho : A.heap[g]? = some o) (hc : o.isCells = false) (hg : A.grownBy B (some g)) : Kp n0 S A B :=
 ⟨hg.os, hg.tape, hg.output, hg.size, fun k hk => hg.block k (by have := (Array.getElem?_eq_some_iff.1 ho).1; omega) (fun e => by injection e; omega),
  fun k T cs hq _ => hq.grown hg fun e => by
   injection e with e
   subst e
   unfold Blk at hq
   rw [ho] at hq
   injection hq with hq
   subst hq
   cases hc⟩
theorem KeepsFrom.low {b : Nat} (hg : A.grownBy B (some g)) (h : g < b) : KeepsFrom b A B := fun j o hb hj _ => (hg.block j (Array.getElem?_eq_some_iff.1 hj).1 fun e => by injection e; omega).trans hj
theorem Marks.other {ds : List Deferred} (h : Marks n0 ds A) (ho : A.heap[g]? = some o) (hn : ∀ x, o ≠ .deferred x) (hg : A.grownBy B (some g)) : Marks n0 ds B := fun d hd => by
 obtain ⟨D, h1, h2, h3⟩ := h d hd;refine ⟨D, h1, h2, (hg.block D (Array.getElem?_eq_some_iff.1 h3).1 fun e => ?_).trans h3⟩
 injection e with e
 subst e;rw [h3] at ho
 injection ho with ho
 exact hn _ ho.symm
theorem MarksIn.other {ds : List Deferred} {W0 : World} (h : MarksIn n0 ds W0 A) (ho : A.heap[g]? = some o) (hn : ∀ x, o ≠ .deferred x) (hg : A.grownBy B (some g)) : MarksIn n0 ds W0 B := ⟨h.marks.other ho hn hg, h.old⟩
theorem MarksIn.soft {ds : List Deferred} {W0 : World} {b m : Nat} {U : List Nat} (h : MarksIn n0 ds W0 A) (hm : W0.heap.size ≤ m) (hs : Soft b m U A B) : MarksIn n0 ds W0 B := by
 obtain ⟨row, hg, hr⟩ := hs;refine ⟨fun d hd => ?_, h.old⟩
 obtain ⟨D, k1, k2, k3⟩ := h.marks d hd;obtain ⟨D', _, k5, k6⟩ := h.old d hd;have e : D' = D := by rw [k2] at k5; injection k5 with k5 _; injection k5 with k5; exact k5.symm
 subst e;have hlt := (Array.getElem?_eq_some_iff.1 k6).1;refine ⟨D', k1, k2, (hg.block D' (Array.getElem?_eq_some_iff.1 k3).1 (fun e => ?_)).trans k3⟩
 rcases hr D' e.symm with ⟨_, T, cs, _, h2⟩ | ⟨h1, _⟩
 ·unfold Blk at h2
  rw [k3] at h2
  cases h2
 ·omega
end
theorem MapV.at_ {P : Program} {k : TypeId} {w w' : World} {b n : Nat} {l : List (Value × Value)} (h : MapV P k w b n l) (hk : ∀ o, w.heap[b]? = some o → (∀ x, o ≠ .deferred x) → w'.heap[b]? = some o) : MapV P k w' b n l := by
 obtain ⟨es, clock, h1, h2⟩ := h
 exact ⟨es, clock, hk _ h1 (fun x e => by cases e), h2⟩
def kcost (ru : Rules) (k : Int) : Int := if k < 0 then 0 else (ru.kinds.getD k.toNat kd0).cost
def goT (ru : Rules) (c : Nat) (s : List (List Tr)) (i : Nat) (k : Int) : Option (List (List Tr)) :=
 if (mayT ru (wayT ru (s.getD i []) k) c ru.levels.length).1 = true then some (s.set i (loadT ru (wayT ru (s.getD i []) k) c)) else none
def yardOf (ru : Rules) (many : Nat) : Yard (List (List Tr)) := ⟨many, ru.kinds.length, kcost ru, goT ru⟩
theorem kcost_bd {ru : Rules} (hro : RulesOk ru) (k : Int) : 0 ≤ kcost ru k ∧ kcost ru k ≤ 100000000 := by
 unfold kcost
 split
 ·omega
 ·exact (kd_bd hro _).2.2
theorem goT_ok {ru : Rules} (hro : RulesOk ru) {c : Nat} {s s' : List (List Tr)} {i : Nat} {k : Int} (hs : FlOk s) (hi : i < 3) (h : goT ru c s i k = some s') : FlOk s' := by
 unfold goT at h
 split at h
 ·injection h with h
  subst h
  exact hs.set (loadT_ok (wayT_ok hro (hs.get hi) k) hro c)
 ·cases h
theorem addS_ok {ru : Rules} (hro : RulesOk ru) {p : Pl} {j : Nat} (hp : PlOk p j) (i : Nat) (k : Int) : PlOk (addS p ⟨i, k⟩ (numK k) (kcost ru k)) (j + 1) := by
 obtain ⟨h1, h2, h3, h4, h5⟩ := hp;have hk := kcost_bd hro k;have hn : 0 ≤ numK k ∧ numK k ≤ 1 := by unfold numK; split <;> omega
 unfold addS
 refine ⟨by rw [List.length_append, h1]; rfl, ?_, ?_, ?_, ?_⟩ <;> dsimp only <;> omega
theorem kindsL_len {K : Nat} : (kindsL K).length = K + 1 := by simp [kindsL]
theorem allK_len {K : Nat} : (allK K).length = K + 1 := by simp [allK, kindsL_len]
/-- what is handed, of a beginning of all kinds -/
theorem pre_k {K : Nat} {pre : List It} {x : It} (h : (pre ++ [x]).map (·.1) <+: allK K) : pre.length < K + 1 ∧ x.1 = [(kindsL K).getD pre.length 0] ∧ (kindsL K).take (pre.length + 1) = (kindsL K).take pre.length ++ [(kindsL K).getD pre.length 0] := by
 have hl := h.length_le;rw [allK_len, List.length_map, List.length_append, List.length_singleton] at hl;have hl2 : pre.length < (kindsL K).length := by rw [kindsL_len]; omega
 refine ⟨by omega, ?_, by rw [List.take_succ_eq_append_getElem hl2, getD_in hl2]⟩
 obtain ⟨t, ht⟩ := h;have e : (allK K)[pre.length]? = some x.1 := by
  rw [← ht, List.map_append, List.append_assoc, List.getElem?_append_right (by simp)]
  simp
 unfold allK at e
 rw [List.getElem?_map, List.getElem?_eq_getElem hl2] at e;rw [getD_in hl2]
 exact (Option.some.inj e).symm
theorem kinds_val {K : Nat} {i : Nat} (h : i < K + 1) : (i = 0 ∧ (kindsL K).getD i 0 = -1) ∨ ∃ k : Nat, k < K ∧ (kindsL K).getD i 0 = ((k : Nat) : Int) := by
 rcases i with _ | i
 ·exact .inl ⟨rfl, rfl⟩
 ·refine .inr ⟨i, by omega, ?_⟩
  unfold kindsL
  rw [List.getD_cons_succ, getD_in (by rw [List.length_map, List.length_range]; omega)]
  simp
theorem flatK_succ {β : Type} {K : Nat} {pre : List It} {x : It} (h : (pre ++ [x]).map (·.1) <+: allK K) {k : Int} (hx : x.1 = [k]) (f : Int → List β) : ((kindsL K).take (pre ++ [x]).length).flatMap f = ((kindsL K).take pre.length).flatMap f ++ f k := by
 obtain ⟨_, h2, h3⟩ := pre_k h;rw [hx] at h2
 injection h2 with h2 _
 rw [List.length_append, List.length_singleton, h3, List.flatMap_append, ← h2]
 simp
/-- one more that must not be -/
theorem frontK_no {L M : List Sx} {Y : Yard (List (List Tr))} {c : Nat} {x : Sx} {i : Nat} {k : Int} {F : List Sx} (h : FrontOf (L ++ M) F) (hg : Y.go c x.1 i k = none) : FrontOf (L ++ (M ++ ext1 Y c x i k)) F := by
 unfold ext1
 rw [hg]
 simpa using h
theorem frontK_yes {L M : List Sx} {Y : Yard (List (List Tr))} {c : Nat} {x : Sx} {i : Nat} {k : Int} {F : List Sx} {s : List (List Tr)} (hg : Y.go c x.1 i k = some s) (h : FrontOf ((L ++ M) ++ [(s, addS x.2 ⟨i, k⟩ (numK k) (Y.cost k))]) F) : FrontOf (L ++ (M ++ ext1 Y c x i k)) F := by
 unfold ext1
 rw [hg, ← List.append_assoc]
 exact h
theorem flatI_succ {β : Type} {i : Nat} (f : Nat → List β) : (List.range (i + 1)).flatMap f = (List.range i).flatMap f ++ f i := by
 rw [List.range_succ, List.flatMap_append]
 simp
section
variable {W W' : World} {base mb n j r c n0 : Nat} {F D : List Sx}
theorem Front.tookO (h : Front W base mb n j F) (ht : TookO n0 W W') : Front W' base mb n j F := by
 obtain ⟨l, h1, h2⟩ := h
 exact ⟨l, h1.at_ (fun o ho hn => ht.keep _ _ ho hn), h2.keep fun _ _ _ ho => own_took ho ht.took⟩
theorem Front.soft {b m : Nat} (h : Front W base mb n j F) (hm : mb < m) (hs : Soft b m [] W W') : Front W' base mb n j F := by
 obtain ⟨es, clock, hmap⟩ := h.map
 exact h.mild (.soft hs (fun T hT => by simp [memB] at hT) hmap rfl hm)
theorem RFront.soft {b m : Nat} (h : RFront W base mb r n j F D c) (hm : mb < m) (hr : r < m) (hs : Soft b m [] W W') : RFront W' base mb r n j F D c := by
 obtain ⟨es, clock, hmap⟩ := h.front.map;obtain ⟨mi, si, sei, ci, hit⟩ := h.iter
 exact h.mild (.soft hs (fun T hT => by simp [memB] at hT) hmap rfl hm) (.soft hs (fun T hT => by simp [memB] at hT) hit rfl hr)
theorem own_soft {b m k : Nat} {u : Value} {xs : List Value} (ho : W.ownsRow base 70 2 u k xs) (hs : Soft b m [] W W') : W'.ownsRow base 70 2 u k xs := by
 obtain ⟨row, hg, hr⟩ := hs;refine own_keep ho hg fun g e => ?_
 rcases hr g e with ⟨_, T, cs, h1, _⟩ | ⟨_, h⟩
 ·simp [memB] at h1
 ·exact h
/-- another map turns -/
theorem Front.other {ob m j2 : Nat} {G : List Sx} (h : Front W base mb n j F) (ho : Front W base ob m j2 G) (hg : W.grownBy W' (some ob)) (hne : ob ≠ mb) : Front W' base mb n j F := by
 obtain ⟨es, clock, hmap⟩ := ho.map
 exact h.mild (.other hg hmap rfl hne)
theorem RFront.other {ob m j2 : Nat} {G : List Sx} (h : RFront W base mb r n j F D c) (ho : Front W base ob m j2 G) (hg : W.grownBy W' (some ob)) (hne : ob ≠ mb) (hr : ob ≠ r) : RFront W' base mb r n j F D c := by
 obtain ⟨es, clock, hmap⟩ := ho.map
 exact h.mild (.other hg hmap rfl hne) (.other hg hmap rfl hr)
theorem own_map {k ob m j2 : Nat} {G : List Sx} {u : Value} {xs : List Value} (hu : W.ownsRow base 70 2 u k xs) (ho : Front W base ob m j2 G) (hg : W.grownBy W' (some ob)) : W'.ownsRow base 70 2 u k xs := by
 obtain ⟨es, clock, hmap⟩ := ho.map
 exact (Mild.other (k := ob + 1) hg hmap rfl (by omega)).row hu
end
section
variable {n : Nat} {σ : Sg} {w : World} {dst : Option Tmp} {ty : TypeId} {pos : String} {af : Array Edge} {g : Option (Nat × Bool)} {x y : Operand}
theorem x_slfl {b h : Nat} (hx : evS σ x = some (.pointer (some ⟨b, 0, none⟩))) (hh : evS σ y = some (.int .i64 (h : Int))) (h8 : h ≤ 3) : Gives Try.prog n σ w ⟨dst, .slice 150 x none (some y) none, ty, pos, af, g⟩ (.slice (some ⟨b, 0, none⟩) h 3) := fun a ha => by
 have k1 : (0 : Int) ≤ (h : Int) := Int.natCast_nonneg _;have k3 : (h : Int) ≤ (3 : Int) := by omega
 simp only [execOp, Option.map_some, Option.map_none, ha.eval hx, ha.eval hh]
 simp [go_sem, k1, k3, h8]
end
section
variable {n : Nat} {σ : Sg} {w : World} {dst : Option Tmp} {ty : TypeId} {pos : String} {af : Array Edge} {g : Option (Nat × Bool)} {x y z : Operand} {at' : Array TypeId}
theorem al_171 (a : Act) (_ : Env n σ a) : (execOp a.eval ⟨dst, .alloc 171, ty, pos, af, g⟩).run Try.prog w = .ok (.value (.pointer (some ⟨w.heap.size, 0, none⟩))) (w.alloc (.cells #[.map none] 171)) := by
 simp only [execOp]
 simp [go_sem]
theorem sz_171 : (Try.prog.info? 171).map (·.size) = some 1 := by kernel_rfl
theorem ld_171 {b o : Nat} {v0 : Value} (hx : evS σ x = some (.pointer (some ⟨b, o, none⟩))) (c0 : w.cell? ⟨b, o, none⟩ = some v0) : Gives Try.prog n σ w ⟨dst, .load 171 x, ty, pos, af, g⟩ (v0) := fun a ha => by
 simp only [execOp, ha.eval hx]
 simp [go_sem, c0]
theorem ln_180 {A : Option Addr} {m c : Nat} (hx : evS σ x = some (.slice A m c)) : Gives Try.prog n σ w ⟨dst, .call { callee := .builtin .len, args := #[x], argTypes := #[180] }, ty, pos, af, g⟩ (.int .i64 (m : Int)) := fun a ha => by
 simp only [execOp, resolve, List.map_toArray, List.map_cons, List.map_nil, ha.eval hx]
 simp [go_sem]
theorem ix_180 {b o m c k : Nat} (hx : evS σ x = some (.slice (some ⟨b, o, none⟩) m c)) (hy : evS σ y = some (.int .i64 (k : Int))) (hk : k < m) : Gives Try.prog n σ w ⟨dst, .indexAddr 180 x y, ty, pos, af, g⟩ (.pointer (some ⟨b, o + k * 32, none⟩)) := fun a ha => by
 have k0 : (0 : Int) ≤ (k : Int) := Int.natCast_nonneg _;have k1 : (k : Int) < (m : Int) := by omega
 simp only [execOp, ha.eval hx, ha.eval hy]
 simp [go_sem, k0, k1]
theorem cF96 : cF 96 := fun _ _ => by simp [go_sem]
theorem ixa_150 {b o k : Nat} (hx : evS σ x = some (.pointer (some ⟨b, o, none⟩))) (hy : evS σ y = some (.int .i64 (k : Int))) (hk : k < 3) : Gives Try.prog n σ w ⟨dst, .indexAddr 150 x y, ty, pos, af, g⟩ (.pointer (some ⟨b, o + k * 32, none⟩)) := fun a ha => by
 have k0 : (0 : Int) ≤ (k : Int) := Int.natCast_nonneg _;have k1 : (k : Int) < 3 := by omega
 simp only [execOp, ha.eval hx, ha.eval hy]
 simp [go_sem, k0, k1]
theorem bs_65_1 {x0 : Operand} {v0_0 v0_1 : Value} (h0 : evS σ x0 = some (.agg #[v0_0, v0_1]))  (a : Act) (ha : Env n σ a) : (execOp a.eval ⟨dst, .buildSlice 65 1 #[(0, x0)], ty, pos, af, g⟩).run Try.prog w = .ok (.value (.slice (some ⟨w.heap.size, 0, none⟩) 1 1)) (w.alloc (.cells #[v0_0, v0_1] 70)) := by
 simp only [execOp, List.map_toArray, List.map_cons, List.map_nil, ha.eval h0]
 go_simp
theorem cF97 : cF 97 := fun _ _ => by simp [go_sem]
theorem bd_70_0_1 {x0 x1 : Operand} {z0 : Int} {z1 : Int} (h0 : evS σ x0 = some (.int .i64 z0)) (h1 : evS σ x1 = some (.int .i64 z1)) : Gives Try.prog n σ w ⟨dst, .build 70 #[(0, x0), (1, x1)], ty, pos, af, g⟩ (.agg #[.int .i64 z0, .int .i64 z1]) := fun a ha => by
 simp only [execOp, List.map_toArray, List.map_cons, List.map_nil, ha.eval h0, ha.eval h1]
 go_simp
theorem bd_134_0_1_2 {x0 x1 x2 : Operand} {A0 : Option Addr} {m0 : Nat} {c0 : Nat} {z1 : Int} {z2 : Int} (h0 : evS σ x0 = some (.slice A0 m0 c0)) (h1 : evS σ x1 = some (.int .i64 z1)) (h2 : evS σ x2 = some (.int .i64 z2)) : Gives Try.prog n σ w ⟨dst, .build 134 #[(0, x0), (1, x1), (2, x2)], ty, pos, af, g⟩ (.agg #[.slice A0 m0 c0, .int .i64 z1, .int .i64 z2]) := fun a ha => by
 simp only [execOp, List.map_toArray, List.map_cons, List.map_nil, ha.eval h0, ha.eval h1, ha.eval h2]
 go_simp
theorem cF98 : cF 98 := fun _ _ => by simp [go_sem]
end
end Go.Proofs.Ytdkedhcbdbpccaa
