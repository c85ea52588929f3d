/- E9, E10, E11, E24, E16, E17, E25, E19, E20, E21, E27, E29, E30, E31, E32, HuBase, HuCurve, HuOpen, HuVol, HuLife, HuLift, ExX1, X1, ExX2, X2, HuShip, ExX3: what HullLivesProof needs of them (merged by trimpack.py). -/
import Derived.Test.YtfgfenmaommclaaLivesT1
set_option linter.unusedVariables false
set_option linter.unusedSimpArgs false
namespace Go.Proofs.Ytfgfenmaommclaa
open Go Go.RowKit
abbrev FR (ro : Option Nat) : Fence := { Fence.wide with round := ro }
theorem QDY (ro : Option Nat) (n : Nat) : (FR ro).depth.isSome = true → 1 ≤ n := fun h => by cases h
theorem QDg {ro : Option Nat} {n : Nat} {P : Program} {f : FuncId} {args : Array Value} {w : World} {R : Ending → World → Prop} (h : Calls P f args w R) : CallsIn (FR ro) n P f args w R :=
 (callsIn_wide (n := n)).2 h
theorem QF3 {ro : Option Nat} {m n l : Nat} {P : Program} {f : FuncId} {tmps : Array Value} {assign body : Code} {w : World} {R : Ending → World → Prop} (h : RoundIn Fence.wide m P l f tmps assign body w R) : RoundIn (FR ro) n P l f tmps assign body w R :=
 ⟨h.1, fun c cs _ => h.2 c cs (room_wide _)⟩
/-- a frame with deferred calls ds -/
structure EnvG (n : Nat) (ds : List Deferred) (σ : Sg) (a : Act) : Prop where
 env : Env n σ ⟨a.tmps, []⟩
 ds : a.defers = ds
section
variable {n : Nat} {ds : List Deferred} {σ τ : Sg} {a : Act}
theorem Env.g (h : Env n σ a) : EnvG n [] σ a := ⟨⟨h.size, rfl, h.get⟩, h.defers⟩
theorem EnvG.e (h : EnvG n [] σ a) : Env n σ a := ⟨h.env.size, h.ds, h.env.get⟩
theorem QAV (a : Act) : (⟨a.tmps, []⟩ : Act).eval = a.eval := by
 funext x
 cases x <;> rfl
theorem EnvG.eval (h : EnvG n ds σ a) {x : Operand} {v : Value} (hx : evS σ x = some v) : a.eval x = v := by
 rw [← QAV]
 exact h.env.eval hx
theorem EnvG.put (h : EnvG n ds σ a) {d : Nat} (hd : Nat.blt d n = true) (v : Value) : EnvG n ds (ins σ d v) (a.put (some d) v) :=
 ⟨h.env.put hd v, h.ds⟩
theorem EnvG.sub (h : EnvG n ds σ a) (hs : Sub τ σ) : EnvG n ds τ a := ⟨h.env.sub hs, h.ds⟩
end
def ELI (ro : Option Nat) (k : Nat) (P : Program) (n : Nat) (ds : List Deferred) (L : List Oper) (Q : Exit → Act → World → Prop) (rest : List Oper) (σ : Sg) (w : World) : Prop := ∀ a, EnvG n ds σ a → wpListIn (FR ro) k P L.toArray Q rest a w
def ECI (ro : Option Nat) (k : Nat) (P : Program) (n : Nat) (ds : List Deferred) (c : Code) (Q : Exit → Act → World → Prop) (σ : Sg) (w : World) : Prop := ∀ a, EnvG n ds σ a → c.wpIn (FR ro) k P Q a w
def EXI (n : Nat) (ds : List Deferred) (Q : Exit → Act → World → Prop) (e : Exit) (σ : Sg) (w : World) : Prop := ∀ a, EnvG n ds σ a → Q e a w
section
variable {ro : Option Nat} {k : Nat} {P : Program} {n : Nat} {ds : List Deferred} {σ τ : Sg} {w : World} {Q : Exit → Act → World → Prop} {L : List Oper} {rest : List Oper}
theorem QBj {o : Oper} (h : ∀ c, o.op ≠ .defer c) (ρ : Operand → Value) : o.semAt (FR ro).round ρ = execOp ρ o := Oper.semAt_eq _ _ _ h
/-- an operation that yields a value is no defer -/
theorem QCl {o : Oper} {ρ : Operand → Value} {w' : World} {r : Next} (hr : (execOp ρ o).run P w = .ok r w') (hn : ∀ d, r ≠ .defer d) : ∀ c, o.op ≠ .defer c := fun c h => by
 unfold execOp at hr
 simp only [h, Sem.run_bind] at hr
 cases he : (resolve ρ c o.type).run P w with
 | ok d w2 =>
  rw [he] at hr
  simp only [Result.andThen_ok, Sem.run_pure] at hr
  injection hr with h1 _
  exact hn d h1.symm
 | halt x w2 => rw [he] at hr; cases hr
theorem QBf {o : Oper} {a : Act} (hg : Region.wanted o (yielded L.toArray a.tmps) = true) {v : Value} {w' : World} (hr : (execOp a.eval o).run P w = .ok (.value v) w') (hk : wpListIn (FR ro) k P L.toArray Q rest (a.put o.dst v) w') : wpListIn (FR ro) k P L.toArray Q (o :: rest) a w := by
 unfold wpListIn
 rw [if_pos hg];refine ⟨fun _ _ => trivial, ?_⟩
 rw [QBj (QCl hr (fun d h => by cases h)), hr]
 exact hk
theorem QFw {o : Oper} {a : Act} (hg : Region.wanted o (yielded L.toArray a.tmps) = true) {w' : World} (hr : (execOp a.eval o).run P w = .ok .skip w') (hk : wpListIn (FR ro) k P L.toArray Q rest (a.put o.dst undef) w') : wpListIn (FR ro) k P L.toArray Q (o :: rest) a w := by
 unfold wpListIn
 rw [if_pos hg];refine ⟨fun _ _ => trivial, ?_⟩
 rw [QBj (QCl hr (fun d h => by cases h)), hr]
 exact hk
theorem QDy {a : Act} (ha : EnvG n ds σ a) {j : Nat} {t : Tmp} {v : Value} (hj : ZT L j = some t) (ht : σ t = some v) : yielded L.toArray a.tmps j = match v with | .bool b => some b | _ => none :=
 YQ ha.env hj ht
theorem ELI.nil (h : EXI n ds Q .normal σ w) : ELI ro k P n ds L Q [] σ w := fun a ha => wpListIn_nil (h a ha)
theorem ELI.val {d ty : Nat} {op : Op} {pos : String} {af : Array Edge} {v : Value} (h : ZE P n σ w ⟨some d, op, ty, pos, af, none⟩ v) (hd : Nat.blt d n = true) (next : ELI ro k P n ds L Q rest (ins σ d v) w) : ELI ro k P n ds L Q (⟨some d, op, ty, pos, af, none⟩ :: rest) σ w :=
 fun a ha => QBf (ZW rfl _) (by rw [← QAV]; exact h _ ha.env) (next _ (ha.put hd v))
theorem ELI.valg {d ty j t : Nat} {b : Bool} {op : Op} {pos : String} {af : Array Edge} {v : Value} (hj : ZT L j = some t) (ht : σ t = some (.bool b)) (h : ZE P n σ w ⟨some d, op, ty, pos, af, some (j, b)⟩ v) (hd : Nat.blt d n = true) (next : ELI ro k P n ds L Q rest (ins σ d v) w) : ELI ro k P n ds L Q (⟨some d, op, ty, pos, af, some (j, b)⟩ :: rest) σ w :=
 fun a ha => QBf (by simp [Region.wanted, QDy ha hj ht]) (by rw [← QAV]; exact h _ ha.env) (next _ (ha.put hd v))
theorem ELI.turn {d ty : Nat} {op : Op} {pos : String} {af : Array Edge} (v : Value) (w' : World) (h : ∀ a, Env n σ a → (execOp a.eval ⟨some d, op, ty, pos, af, none⟩).run P w = .ok (.value v) w') (hd : Nat.blt d n = true) (next : ELI ro k P n ds L Q rest (ins σ d v) w') : ELI ro k P n ds L Q (⟨some d, op, ty, pos, af, none⟩ :: rest) σ w :=
 fun a ha => QBf (ZW rfl _) (by rw [← QAV]; exact h _ ha.env) (next _ (ha.put hd v))
theorem ELI.call {d ty : Nat} {op : Op} {pos : String} {af : Array Edge} {f : FuncId} {args : Array Value} {R : Ending → World → Prop} (hr : ∀ a, Env n σ a → (execOp a.eval ⟨some d, op, ty, pos, af, none⟩).run P w = .ok (.enter f args) w) (hd : Nat.blt d n = true) (hc : Calls P f args w R)
  (next : ∀ e w', R e w' → ∃ v, e = .returned v ∧ ELI ro k P n ds L Q rest (ins σ d v) w') : ELI ro k P n ds L Q (⟨some d, op, ty, pos, af, none⟩ :: rest) σ w := fun a ha => by
 have hr' := hr _ ha.env;rw [QAV] at hr'
 unfold wpListIn
 rw [if_pos (ZW rfl _)];refine ⟨fun _ _ => trivial, ?_⟩
 rw [QBj (QCl hr' (fun d h => by cases h)), hr']
 refine ⟨QDY _ _, CallsIn.mono (QDg hc) fun e w' he => ?_⟩
 obtain ⟨v, rfl, hv⟩ := next e w' he
 exact hv _ (ha.put hd v)
/-- a call of yield: a round -/
theorem ELI.yield {d ty l : Nat} {x y : Operand} {at' : Array TypeId} {pos : String} {af : Array Edge} {v : Value} {R : Ending → World → Prop} {fn : FuncId} {tmps : Array Value} {assign body : Code} (hx : evS σ x = some (.func (.yield l) #[] #[])) (hy : evS σ y = some v) (hd : Nat.blt d n = true) (hi : (Instr.yield l #[v]).run P w = .ok (.round l fn tmps assign body) w) (hR : RoundIn Fence.wide 0 P l fn tmps assign body w R)
  (next : ∀ e w', R e w' → ∃ v, e = .returned v ∧ ELI ro k P n ds L Q rest (ins σ d v) w') : ELI ro k P n ds L Q (⟨some d, .call { callee := .value x, args := #[y], argTypes := at' }, ty, pos, af, none⟩ :: rest) σ w := fun a ha => by
 have hr' : (execOp a.eval ⟨some d, .call { callee := .value x, args := #[y], argTypes := at' }, ty, pos, af, none⟩).run P w = .ok (.round l fn tmps assign body) w := by
  simp only [execOp, resolve, List.map_toArray, List.map_cons, List.map_nil, ha.eval hx, ha.eval hy]
  simp [go_sem, Deferred.ofValue, hi]
 unfold wpListIn
 rw [if_pos (ZW rfl _)];refine ⟨fun _ _ => trivial, ?_⟩
 rw [QBj (QCl hr' (fun d h => by cases h)), hr']
 refine ⟨QDY _ _, RoundIn.mono (QF3 hR) fun e w' he => ?_⟩
 obtain ⟨v, rfl, hv⟩ := next e w' he
 exact hv _ (ha.put hd v)
theorem ELI.newP {d ty : Nat} {op : Op} {pos : String} {af : Array Edge} {cs : Array Value} {T : TypeId} (h : ∀ a, Env n σ a → (execOp a.eval ⟨some d, op, ty, pos, af, none⟩).run P w = .ok (.value (.pointer (some ⟨w.heap.size, 0, none⟩))) (w.alloc (.cells cs T))) (hd : Nat.blt d n = true)
  (next : ∀ g w', Blk w' g T cs → Below w.heap.size w w' → w.heap.size ≤ g → w.heap.size < w'.heap.size → ELI ro k P n ds L Q rest (ins σ d (.pointer (some ⟨g, 0, none⟩))) w') : ELI ro k P n ds L Q (⟨some d, op, ty, pos, af, none⟩ :: rest) σ w :=
 ELI.turn _ _ h hd (next _ _ (Blk.new w T cs) ((Below.refl _ _).alloc (Nat.le_refl _) _) (Nat.le_refl _) (by simp))
theorem ELI.newS {d ty m c : Nat} {op : Op} {pos : String} {af : Array Edge} {cs : Array Value} {T : TypeId} (h : ∀ a, Env n σ a → (execOp a.eval ⟨some d, op, ty, pos, af, none⟩).run P w = .ok (.value (.slice (some ⟨w.heap.size, 0, none⟩) m c)) (w.alloc (.cells cs T))) (hd : Nat.blt d n = true)
  (next : ∀ g w', Blk w' g T cs → Below w.heap.size w w' → w.heap.size ≤ g → w.heap.size < w'.heap.size → ELI ro k P n ds L Q rest (ins σ d (.slice (some ⟨g, 0, none⟩) m c)) w') : ELI ro k P n ds L Q (⟨some d, op, ty, pos, af, none⟩ :: rest) σ w :=
 ELI.turn _ _ h hd (next _ _ (Blk.new w T cs) ((Below.refl _ _).alloc (Nat.le_refl _) _) (Nat.le_refl _) (by simp))
theorem ELI.store {ty t T g o z : Nat} {x y : Operand} {pos : String} {af : Array Edge} {l l' : List Value} {v : Value} (hx : evS σ x = some (.pointer (some ⟨g, o, none⟩))) (hy : evS σ y = some v) (hb : Blk w g T l.toArray) (hs : (P.info? t).map (·.size) = some z) (hv : v.cells.toList = l') (hk : lenV l' = z) (ho : Nat.ble (o + z) (lenV l) = true) (h1 : QA6 l' = true)
  (next : ∀ w', Blk w' g T (spl l o l').toArray → w.grownBy w' (some g) → KeepsOthers w w' → ELI ro k P n ds L Q rest σ w') : ELI ro k P n ds L Q (⟨none, .store t x y, ty, pos, af, none⟩ :: rest) σ w := fun a ha => by
 have hr : (execOp a.eval ⟨none, .store t x y, ty, pos, af, none⟩).run P w = .ok .skip (w.setRow g (spl l o l').toArray) := by
  simp only [execOp, ha.eval hx, ha.eval hy, Sem.run_bind, QAq hs hb hv hk ho h1, Result.andThen_ok]
  rfl
 refine QFw (ZW rfl _) hr (next _ (QAB hb) (Ye _ _ _) ⟨(Ye w g _).size, fun j ob hj hc => ?_⟩ a ha)
 by_cases e : j = g
 ·subst e
  unfold Blk at hb
  rw [hb] at hj
  injection hj with hj
  subst hj
  cases hc
 ·exact ((Ye w g (spl l o l').toArray).block j (Array.getElem?_eq_some_iff.1 hj).1 (fun h => e (Option.some.inj h))).trans hj
theorem QFX {A B : World} (h : Below A.heap.size A B) : KeepsOthers A B := ⟨h.size, fun k _ hk _ => (h.block k (Array.getElem?_eq_some_iff.1 hk).1).trans hk⟩
theorem QHr {w w' : World} {base e size n : Nat} {v : Value} {xs : List Value} (h : w.ownsRow base e size v n xs) (hg : w.grownBy w' v.ownBlock) : KeepsOthers w w' := ⟨hg.size, fun j o hj hc => by
 refine (hg.block j (Array.getElem?_eq_some_iff.1 hj).1 fun e1 => ?_).trans hj
 obtain ⟨_, ⟨rfl, _⟩ | ⟨g, cap, cur, rfl, _, hk, _⟩⟩ := h
 ·cases e1
 ·have e2 : j = g := by simpa [Value.ownBlock] using e1
  subst e2;rw [hk] at hj
  injection hj with hj
  subst hj
  cases hc⟩
theorem ELI.push {d ty t e size bytes base B m c : Nat} {s x : Operand} {pos : String} {af : Array Edge} (E : Elem P t e size bytes) {v src : Value} {xs news : List Value} (hs : evS σ s = some v) (hx : evS σ x = some src) (hown : w.ownsRow base e size v c xs) (hr : Rd w B size src m news) (h1 : ∀ u ∈ news, u.oneCell' = true) (hm : c + m ≤ 1048576) (hby : Nat.ble bytes 1048576 = true) (hbase : base ≤ w.heap.size) (hd : Nat.blt d n = true)
  (next : ∀ v' w', w'.ownsRow base e size v' (c + m) (xs ++ news) → w.grownBy w' v.ownBlock → Below base w w' → KeepsOthers w w' → ELI ro k P n ds L Q rest (ins σ d v') w') : ELI ro k P n ds L Q (⟨some d, .call { callee := .builtin .append, args := #[s, x], argTypes := #[t, t] }, ty, pos, af, none⟩ :: rest) σ w := fun a ha => by
 obtain ⟨v', w', h2, h3, h4, h5, h6⟩ := QAr (P := P) (ty := ty) E hown hr h1 hm (by simpa [Nat.ble_eq] using hby) hbase
 exact QBf (ZW rfl _) (YL rfl (ha.eval hs) (ha.eval hx) h2) (next v' w' h3 h4 h5 (QHr hown h4) _ (ha.put hd v'))
/-! ### Code -/
theorem ECI.sub {c : Code} (h : ECI ro k P n ds c Q τ w) (hs : Sub τ σ) : ECI ro k P n ds c Q σ w := fun a ha => h a (ha.sub hs)
theorem ECI.seq {x y : Code} (h : ECI ro k P n ds x (Exit.then (y.wpIn (FR ro) k P Q) Q) σ w) : ECI ro k P n ds (.seq x y) Q σ w := fun a ha => wpIn_seq (h a ha)
theorem ECI.region {id : Nat} {l : List Oper} (h : ELI ro k P n ds l Q l σ w) : ECI ro k P n ds (.region id l.toArray false) Q σ w := fun a ha => wpIn_region_lit (h a ha)
theorem ECI.block {id : Nat} {c : Code} (h : ECI ro k P n ds c (Exit.inBlock id Q) σ w) : ECI ro k P n ds (.block id c) Q σ w := fun a ha => wpIn_block (h a ha)
theorem ECI.skip (h : EXI n ds Q .normal σ w) : ECI ro k P n ds .skip Q σ w := fun a ha => wpIn_skip (h a ha)
theorem ECI.exit {id : Nat} (h : EXI n ds Q (.exit id) σ w) : ECI ro k P n ds (.exit id) Q σ w := fun a ha => wpIn_exit (h a ha)
theorem ECI.ret (h : EXI n ds Q .ret σ w) : ECI ro k P n ds .ret Q σ w := fun a ha => wpIn_ret (h a ha)
theorem ECI.yes {c : Operand} {x y : Code} (hc : evS σ c = some (.bool true)) (h : ECI ro k P n ds x Q σ w) : ECI ro k P n ds (.cond c x y) Q σ w := fun a ha => wpIn_cond_true (ha.eval hc) (h a ha)
theorem ECI.no {c : Operand} {x y : Code} (hc : evS σ c = some (.bool false)) (h : ECI ro k P n ds y Q σ w) : ECI ro k P n ds (.cond c x y) Q σ w := fun a ha => wpIn_cond_false (ha.eval hc) (h a ha)
theorem ECI.out {c : Code} (h : EC P n c Q σ w) : ECI none k P n [] c Q σ w := fun a ha => wpIn_wide.2 (h a ha.e)
/-! ### Exits -/
theorem EXI.seq {y : Code} (h : ECI ro k P n ds y Q σ w) : EXI n ds (Exit.then (y.wpIn (FR ro) k P Q) Q) .normal σ w := h
theorem EXI.seq_exit {K : Act → World → Prop} {i : Nat} (h : EXI n ds Q (.exit i) σ w) : EXI n ds (Exit.then K Q) (.exit i) σ w := h
theorem EXI.seq_ret {K : Act → World → Prop} (h : EXI n ds Q .ret σ w) : EXI n ds (Exit.then K Q) .ret σ w := h
theorem EXI.blk {id : Nat} (h : EXI n ds Q .normal σ w) : EXI n ds (Exit.inBlock id Q) .normal σ w := h
theorem EXI.blk_ret {id : Nat} (h : EXI n ds Q .ret σ w) : EXI n ds (Exit.inBlock id Q) .ret σ w := h
theorem EXI.blk_here {id : Nat} (h : EXI n ds Q .normal σ w) : EXI n ds (Exit.inBlock id Q) (.exit id) σ w := fun a ha => by
 simp only [Exit.inBlock, if_true]
 exact h a ha
end
/-! ### What a body leaves as it was -/
structure Kp (n0 : Nat) (S : List Nat) (W W' : World) : Prop where
 os : W'.os = W.os
 tape : W'.tape = W.tape
 output : W'.output = W.output
 size : W.heap.size ≤ W'.heap.size
 low : ∀ k, k < n0 → W'.heap[k]? = W.heap[k]?
 blk : ∀ g T cs, Blk W g T cs → memB S T = false → Blk W' g T cs
section
variable {n0 : Nat} {S : List Nat} {A B C : World}
theorem Kp.refl (n0 : Nat) (S : List Nat) (W : World) : Kp n0 S W W := ⟨rfl, rfl, rfl, Nat.le_refl _, fun _ _ => rfl, fun _ _ _ h _ => h⟩
theorem Kp.trans (h : Kp n0 S A B) (k : Kp n0 S B C) : Kp n0 S A C := ⟨k.os.trans h.os, k.tape.trans h.tape, k.output.trans h.output, Nat.le_trans h.size k.size, fun i hi => (k.low i hi).trans (h.low i hi), fun g T cs hg hT => k.blk g T cs (h.blk g T cs hg hT) hT⟩
theorem Kp.of_below (h : Below A.heap.size A B) (hn : n0 ≤ A.heap.size) : Kp n0 S A B := ⟨h.os, h.tape, h.output, h.size, fun k hk => h.block k (by omega), fun g T cs hg _ => hg.below h hg.lt⟩
theorem Kp.below (h : Kp n0 S A B) : Below n0 A B := ⟨h.os, h.tape, h.output, h.size, h.low⟩
theorem Kp.alloc (W : World) (hn : n0 ≤ W.heap.size) (o : Obj) : Kp n0 S W (W.alloc o) := Kp.of_below ((Below.refl _ _).alloc (Nat.le_refl _) _) hn
theorem Kp.putObj {W : World} {l : Nat} {o : Obj} (o' : Obj) (hl : n0 ≤ l) (ho : W.heap[l]? = some o) (hc : o.isCells = false) : Kp n0 S W (W.putObj l o') :=
 ⟨rfl, rfl, rfl, by simp, fun k hk => World.putObj_heap_other (by omega), fun g T cs hg _ => by
  unfold Blk at hg ⊢
  by_cases e : g = l
  ·subst e
   rw [ho] at hg
   injection hg with hg
   subst hg
   cases hc
  ·exact (World.putObj_heap_other e).trans hg⟩
/-- a store to a block of one of the kinds -/
theorem Kp.grown {w w' : World} {g T : Nat} {cs : Array Value} (hq : Blk w g T cs) (hT : memB S T = true) (hn : n0 ≤ g) (hg : w.grownBy w' (some g)) : Kp n0 S w w' :=
 ⟨hg.os, hg.tape, hg.output, hg.size, fun k hk => by
  by_cases e : k < w.heap.size
  ·exact hg.block k e (fun h => by injection h; omega)
  ·have := hq.lt; omega, fun k T' cs' hk hT' => by
  refine (hg.block k hk.lt fun h => ?_).trans hk
  injection h with h
  subst h
  unfold Blk at hk hq
  rw [hq] at hk
  injection hk with hk
  injection hk with _ h2
  subst h2;rw [hT] at hT'
  cases hT'⟩
theorem Kp.own {w w' : World} {base e size n : Nat} {v : Value} {xs : List Value} (h : w.ownsRow base e size v n xs) (hT : memB S e = true) (hn : n0 ≤ base) (hn2 : n0 ≤ w.heap.size) (hg : w.grownBy w' v.ownBlock) : Kp n0 S w w' := by
 obtain ⟨_, ⟨rfl, _⟩ | ⟨g, cap, cur, rfl, hb, hk, _⟩⟩ := h
 ·exact Kp.of_below ⟨hg.os, hg.tape, hg.output, hg.size, fun k hk => hg.block k hk (by simp [Value.ownBlock])⟩ hn2
 ·exact Kp.grown (cs := cur) hk hT (by omega) hg
theorem Kp.row {w w' : World} {base e size n : Nat} {v : Value} {xs : List Value} (h : Kp n0 S w w') (ho : w.ownsRow base e size v n xs) (hT : memB S e = false) : w'.ownsRow base e size v n xs := by
 obtain ⟨hl, h0 | ⟨g, cap, cur, hv, hb, hk, h1⟩⟩ := ho
 ·exact ⟨hl, .inl h0⟩
 ·exact ⟨hl, .inr ⟨g, cap, cur, hv, hb, h.blk g e cur hk hT, h1⟩⟩
end
/-! ### An iterator that hands lists of integers -/
abbrev It := List Int × Value
def QLH (P : Program) (l : Nat) (args : Array Value) (W : World) (R : Ending → World → Prop) : Prop :=
 ∃ fn tmps assign body, (Instr.yield l args).run P W = .ok (.round l fn tmps assign body) W ∧ RoundIn Fence.wide 0 P l fn tmps assign body W R
section
variable {P : Program} {n : Nat} {ds : List Deferred} {σ : Sg} {w : World} {Q : Exit → Act → World → Prop}
theorem QKF {d : Nat} {a : Act} {v : Value} (h : EnvG n ds σ a) (hd : Nat.blt d n = true) : EnvG n [] (ins σ d v) ⟨(#[d].zip #[v]).foldl (fun t (p, v) => t.setIfInBounds p v) a.tmps, []⟩ := by
 have h1 := (Env.put (a := ⟨a.tmps, []⟩) h.env hd v).g
 simpa [Act.put] using h1
/-! ### Leaving with marks -/
def YI (n0 : Nat) (ds : List Deferred) (W : World) : Prop := ∀ d ∈ ds, ∃ D, n0 ≤ D ∧ d = { target := .collected D, args := #[] } ∧ W.heap[D]? = some (.deferred (some []))
/-- what taking the marks does -/
structure Took (n0 : Nat) (w w' : World) : Prop where
 below : Below n0 w w'
 size : w'.heap.size = w.heap.size
 blk : ∀ g T cs, Blk w g T cs → Blk w' g T cs
theorem QBp {fn : Func} {tmps : Array Value} {R : Ending → World → Prop} {n0 k : Nat} : ∀ (ds : List Deferred) (w : World), YI n0 ds w → ds.Nodup → (∀ w', Took n0 w w' → ∃ v, (results fn tmps).run P w' = .ok v w' ∧ R (.returned v) w') → LeavesInM Fence.wide k P fn tmps R ds .returning w
 | [], w, _, _, h => h w ⟨Below.refl _ _, rfl, fun _ _ _ h => h⟩
 | d :: ds, w, hm, hd, h => by
  obtain ⟨D, hD, rfl, hw⟩ := hm d (List.mem_cons_self ..);have ho : ∀ j, j ≠ D → (w.putObj D (.deferred none)).heap[j]? = w.heap[j]? := fun j hj => World.putObj_heap_other hj
  refine ⟨by simp, .inl ⟨D, _, rfl, run_takeDeferred hw, QBp (n0 := n0) ds _ (fun d' hd' => ?_) (List.nodup_cons.1 hd).2 fun w' ht => h w' ?_⟩⟩
  ·obtain ⟨D', h1, rfl, h3⟩ := hm d' (List.mem_cons_of_mem _ hd')
   refine ⟨D', h1, rfl, (ho D' fun e => ?_).trans h3⟩
   subst e
   exact (List.nodup_cons.1 hd).1 hd'
  ·have hk : Kp n0 [] w (w.putObj D (.deferred none)) := Kp.putObj _ hD hw rfl
   exact ⟨hk.below.trans ht.below, ht.size.trans (by simp), fun g T cs hg => ht.blk g T cs (hk.blk g T cs hg rfl)⟩
theorem EC.marks {fn : Func} {f : FuncId} {c : Code} {args : List Value} {R : Ending → World → Prop} (n : Nat) (hf : P.funcs[f]? = some fn) (hb : fn.body = some c) (hn : fn.ntmps = n) (hl : Nat.ble args.length n = true) (h : ECI none 0 P n [] c (bodyPostM Fence.wide 0 P fn R) (QDk args 0) w) : Calls P f args.toArray w R := by
 subst hn;refine (callsIn_wide (n := 0)).1 (callsIn_of_wp_marks hf hb trivial ?_);have := h _ (QFh (l := args) (by simpa [Nat.ble_eq] using hl)).g
 simp only [List.size_toArray] at this ⊢
 exact this
theorem EXI.done {fn : Func} {R : Ending → World → Prop} {n0 : Nat} {v : Value} (hm : YI n0 ds w) (hd : ds.Nodup) (hr : ∀ w', Took n0 w w' → ∀ a, Env n σ a → (results fn a.tmps).run P w' = .ok v w') (h : ∀ w', Took n0 w w' → R (.returned v) w') : EXI n ds (bodyPostM Fence.wide 0 P fn R) .ret σ w := fun a ha => by
 show LeavesInM Fence.wide 0 P fn a.tmps R a.defers .returning w
 rw [ha.ds]
 exact QBp ds w hm hd fun w' ht => ⟨v, hr w' ht ⟨a.tmps, []⟩ ha.env, h w' ht⟩
end
/-! ### An append to a slice that is full, and only read -/
section
variable {P : Program} {w : World}
end
section
variable {P : Program} {n : Nat} {σ : Sg} {L : List Oper} {cls : List (List Nat)} {alc : List Nat} {val : Nat → Value} {a : Act} {w1 : World} {i : Nat} {Q : Exit → Act → World → Prop}
end
/-- a run that ends as code does -/
theorem EXI.of {n : Nat} {Q : Exit → Act → World → Prop} {e : Exit} {σ : Sg} {w : World} (h : EX n Q e σ w) : EXI n [] Q e σ w := fun a ha => h a ha.e
theorem QDG {k e size n : Nat} {xs : List Value} {base : Nat} {f : Option Addr → Nat → Value} {N : Nat} : QDr fun _ r w => ∃ A c, r k = f A c ∧ w.ownsRow base e size (.slice A N c) n xs := fun _ _ _ _ hb ⟨A, c, h1, h2⟩ => ⟨A, c, h1, own_below h2 hb (Nat.le_refl _)⟩
theorem QIm (s k : Nat) : Int.fdiv (s : Nat) ((2 : Int) ^ k) = ((s / 2 ^ k : Nat) : Int) := by
 rw [Int.fdiv_eq_ediv_of_nonneg _ (Int.pow_nonneg (by decide))]
 norm_cast
section
variable {P : Program} {n : Nat} {σ : Sg} {w : World} {dst : Option Tmp} {ty t t' : TypeId} {pos : String} {af : Array Edge} {g : Option (Nat × Bool)} {x y : Operand}
end
section
variable {ro : Option Nat} {k : Nat} {P : Program} {n : Nat} {ds : List Deferred} {σ τ : Sg} {w : World} {Q : Exit → Act → World → Prop} {L : List Oper} {rest : List Oper}
theorem ECI.loopD {c : Code} {ι : Type} (dl : List Nat) (vs : ι → List (Nat × Value)) (D : ι → List Deferred) (I : ι → World → Prop) (μ : ι → Nat) (i0 : ι) (h0 : I i0 w) (hs : QBd σ (vs i0)) (hd : ds = D i0)
  (round : ∀ i w, I i w → ECI ro k P n (D i) c (Exit.then (fun a' w' => ∃ i', EnvG n (D i') (insL (del σ dl) (vs i')) a' ∧ I i' w' ∧ μ i' < μ i) Q) (insL (del σ dl) (vs i)) w) : ECI ro k P n ds (.loop c) Q σ w := by
 intro a ha;subst hd;refine wpIn_loop_ghost (fun m a w => ∃ i, EnvG n (D i) (insL (del σ dl) (vs i)) a ∧ I i w ∧ μ i = m) (μ i0) ⟨i0, ha.sub (QAT ((Sub.refl σ).del dl) hs), h0, rfl⟩ fun m a w hI => ?_
 obtain ⟨i, h1, h2, rfl⟩ := hI;refine wpIn_mono (round i w h2 a h1) fun e a' w' hq => ?_
 cases e with
 | normal =>
  obtain ⟨i', h4, h5, h6⟩ := hq
  exact ⟨μ i', h6, i', h4, h5, rfl⟩
 | _ => exact hq
theorem EXI.roundD {ι : Type} {σ0 : Sg} {dl : List Nat} {vs : ι → List (Nat × Value)} {D : ι → List Deferred} {I : ι → World → Prop} {μ : ι → Nat} {i : ι} (i' : ι) (hv : QBd σ (vs i')) (hs : Sub (del σ0 dl) σ) (hd : ds = D i') (hI : I i' w) (hm : μ i' < μ i) : EXI n ds (Exit.then (fun a' w' => ∃ i', EnvG n (D i') (insL (del σ0 dl) (vs i')) a' ∧ I i' w' ∧ μ i' < μ i) Q) .normal σ w :=
 fun _ ha => ⟨i', by subst hd; exact ha.sub (QAT hs hv), hI, hm⟩
end
/-! ### Appends and copies of any length that fits an address space -/
section
variable {P : Program} {w : World}
variable {n : Nat} {σ : Sg} {L : List Oper} {Q : Exit → Act → World → Prop} {rest : List Oper}
end
/-- what is no row, from block b on, is as it was -/
def ZU (b : Nat) (W W' : World) : Prop := ∀ (j : Nat) (o : Obj), b ≤ j → W.heap[j]? = some o → o.isCells = false → W'.heap[j]? = some o
theorem ZU.of {b : Nat} {W W' : World} (h : KeepsOthers W W') : ZU b W W' := fun j o _ hj hc => h.same j o hj hc
theorem ZU.trans {b : Nat} {A B C : World} (h : ZU b A B) (k : ZU b B C) : ZU b A C := fun j o hb hj hc => k j o hb (h j o hb hj hc) hc
theorem ZU.mono {b c : Nat} {A B : World} (h : ZU b A B) (hc : b ≤ c) : ZU c A B := fun j o hb hj h2 => h j o (Nat.le_trans hc hb) hj h2
theorem ZU.refl (b : Nat) (A : World) : ZU b A A := fun _ _ _ h _ => h
theorem ZU.below {b : Nat} {A B : World} (h : Below A.heap.size A B) : ZU b A B := .of (QFX h)
/-- abides what is new, and what turns in blocks of the types U from block b on -/
def QAX (b : Nat) (U : List Nat) (A B : World) : Prop := ∃ row, A.grownBy B row ∧ ∀ g, row = some g → b ≤ g ∧ ∃ T cs, memB U T = true ∧ Blk A g T cs
section
variable {b : Nat} {U : List Nat} {A B : World}
theorem QAX.of_below (h : Below A.heap.size A B) : QAX b U A B := ⟨none, ⟨h.os, h.tape, h.output, h.size, fun k hk _ => h.block k hk⟩, fun _ h => by cases h⟩
theorem QAX.blk {g T : Nat} {cs : Array Value} (h : QAX b U A B) (hq : Blk A g T cs) (hT : memB U T = false) : Blk B g T cs := by
 obtain ⟨row, hg, hr⟩ := h;refine hq.grown hg fun e => ?_
 obtain ⟨_, T', cs', h1, h2⟩ := hr g e.symm
 unfold Blk at hq h2
 rw [hq] at h2
 injection h2 with h2
 injection h2 with _ h3
 rw [← h3, hT] at h1
 cases h1
theorem QAX.row {base e size n : Nat} {v : Value} {xs : List Value} (h : QAX b U A B) (ho : A.ownsRow base e size v n xs) (hT : memB U e = false) : B.ownsRow base e size v n xs := by
 obtain ⟨hl, h0 | ⟨g, cap, cur, hv, hb, hk, h1⟩⟩ := ho
 ·exact ⟨hl, .inl h0⟩
 ·exact ⟨hl, .inr ⟨g, cap, cur, hv, hb, h.blk (cs := cur) hk hT, h1⟩⟩
theorem QAX.other {k : Nat} {o : Obj} (h : QAX b U A B) (hk : A.heap[k]? = some o) (hc : o.isCells = false) : B.heap[k]? = some o := by
 obtain ⟨row, hg, hr⟩ := h;refine (hg.block k (Array.getElem?_eq_some_iff.1 hk).1 fun e => ?_).trans hk
 obtain ⟨_, T', cs', h1, h2⟩ := hr k e.symm
 unfold Blk at h2
 rw [hk] at h2
 injection h2 with h2
 subst h2
 cases hc
theorem QAX.size (h : QAX b U A B) : A.heap.size ≤ B.heap.size := by
 obtain ⟨row, hg, _⟩ := h
 exact hg.size
theorem QAX.below {w0 : World} (h : QAX b U A B) (hb : Below b w0 A) (hs : b ≤ A.heap.size) : Below b w0 B := by
 obtain ⟨row, hg, hr⟩ := h
 exact hb.grown hg hs fun g hgr => (hr g hgr).1
theorem Kp.turn {n0 : Nat} {S : List Nat} {w0 : World} {g : Nat} (h : Kp n0 S w0 A) (hg : A.grownBy B (some g)) (h1 : w0.heap.size ≤ g) (h2 : n0 ≤ w0.heap.size) : Kp n0 S w0 B :=
 ⟨hg.os.trans h.os, hg.tape.trans h.tape, hg.output.trans h.output, Nat.le_trans h.size hg.size, fun k hk => (hg.block k (by have := h.size; omega) (fun e => by injection e; omega)).trans (h.low k hk),
  fun k T cs hq hT => (h.blk k T cs hq hT).grown hg fun e => by injection e with e; have := hq.lt; omega⟩
end
/-- abides what is new, what turns in blocks of the types U from block b on, and what is no row from block m on -/
def Soft (b m : Nat) (U : List Nat) (A B : World) : Prop := ∃ row, A.grownBy B row ∧ ∀ g, row = some g → (b ≤ g ∧ ∃ T cs, memB U T = true ∧ Blk A g T cs) ∨ (m ≤ g ∧ ∃ o : Obj, A.heap[g]? = some o ∧ o.isCells = false)
def QBT (b m : Nat) (U : List Nat) (J : List It → World → Prop) : Prop := ∀ s A B, J s A → Soft b m U A B → J s B
section
variable {b m : Nat} {U : List Nat} {A B : World}
theorem Soft.of_turns (h : QAX b U A B) : Soft b m U A B := let ⟨row, hg, hr⟩ := h; ⟨row, hg, fun g e => .inl (hr g e)⟩
theorem Soft.of_below (h : Below A.heap.size A B) : Soft b m U A B := .of_turns (.of_below h)
theorem Soft.mono {m' : Nat} (h : Soft b m U A B) (hm : m' ≤ m) : Soft b m' U A B := let ⟨row, hg, hr⟩ := h; ⟨row, hg, fun g e => by
 rcases hr g e with h1 | ⟨h1, h2⟩
 ·exact .inl h1
 ·exact .inr ⟨Nat.le_trans hm h1, h2⟩⟩
theorem Soft.blk {g T : Nat} {cs : Array Value} (h : Soft b m U A B) (hq : Blk A g T cs) (hT : memB U T = false) : Blk B g T cs := by
 obtain ⟨row, hg, hr⟩ := h;refine hq.grown hg fun e => ?_
 rcases hr g e.symm with ⟨_, T', cs', h1, h2⟩ | ⟨_, o, h1, h2⟩
 ·unfold Blk at hq h2
  rw [hq] at h2
  injection h2 with h2
  injection h2 with _ h3
  rw [← h3, hT] at h1
  cases h1
 ·unfold Blk at hq
  rw [hq] at h1
  injection h1 with h1
  subst h1
  cases h2
theorem Soft.row {base e size n : Nat} {v : Value} {xs : List Value} (h : Soft b m U A B) (ho : A.ownsRow base e size v n xs) (hT : memB U e = false) : B.ownsRow base e size v n xs := by
 obtain ⟨hl, h0 | ⟨g, cap, cur, hv, hb, hk, h1⟩⟩ := ho
 ·exact ⟨hl, .inl h0⟩
 ·exact ⟨hl, .inr ⟨g, cap, cur, hv, hb, h.blk (cs := cur) hk hT, h1⟩⟩
theorem Soft.below {w0 : World} (h : Soft b m U A B) (hb : Below b w0 A) (hs : b ≤ A.heap.size) (hm : b ≤ m) : Below b w0 B := by
 obtain ⟨row, hg, hr⟩ := h
 exact hb.grown hg hs fun g hgr => by rcases hr g hgr with h1 | h1 <;> omega
theorem Soft.other {k : Nat} {o : Obj} (h : Soft b m U A B) (hk : A.heap[k]? = some o) (hc : o.isCells = false) (hkm : k < m) : B.heap[k]? = some o := by
 obtain ⟨row, hg, hr⟩ := h;refine (hg.block k (Array.getElem?_eq_some_iff.1 hk).1 fun e => ?_).trans hk
 rcases hr k e.symm with ⟨_, T', cs', h1, h2⟩ | ⟨h1, _⟩
 ·unfold Blk at h2
  rw [hk] at h2
  injection h2 with h2
  subst h2
  cases hc
 ·omega
theorem Soft.size (h : Soft b m U A B) : A.heap.size ≤ B.heap.size := by
 obtain ⟨row, hg, _⟩ := h
 exact hg.size
theorem QBT.own {J : List It → World → Prop} (h : QBT b m U J) : OwnFrom m J := fun s W W' row hs hg hr => h s W W' hs ⟨row, hg, fun g e => .inr (hr g e)⟩
theorem QF0 : QBT b m U fun _ _ => False := fun _ _ _ h _ => h
end
section
variable {P : Program} {n : Nat} {ds : List Deferred} {σ : Sg} {w : World} {Q : Exit → Act → World → Prop}
end
section
variable {P : Program} {ops : Array Oper} {Q : Exit → Act → World → Prop} {n l : Nat}
theorem QDA {o : Oper} {a : Act} {w : World} {K : Act → World → Prop} (hnd : ∀ c, o.op ≠ .defer c) (h : o.wp P a w K Q) : o.wpIn (Fence.wide.inRound l) n P a w K Q := by
 refine ⟨fun _ _ => trivial, ?_⟩
 rw [Oper.semAt_eq _ _ _ hnd]
 unfold Oper.wp at h
 generalize (execOp a.eval o).run P w = r at h ⊢
 have hd : ((Fence.wide.inRound l).depth.isSome = true → 1 ≤ n) := fun h => by simp [Fence.wide] at h
 cases r with
 | ok x w' =>
  cases x
  case value => exact h
  case skip => exact h
  case defer => exact h
  case enter f args => exact ⟨hd, ((callsIn_wide.2 h).inRound l).mono fun e w'' he => by cases e <;> exact he⟩
  case row row args =>
   refine ⟨hd, fun c cs _ => ?_⟩
   obtain ⟨v, w'', hv, hs⟩ := h c cs
   exact ⟨v, w'', hv, stepsIn_wide.2 hs⟩
  all_goals exact h.elim
 | halt x w' => cases x <;> exact h
/-- no operation is a defer statement: by reckoning -/
def QCm (ops : Array Oper) : Bool := ops.all fun o => match o.op with | .defer _ => false | _ => true
theorem QBm (h : QCm ops = true) (i : Nat) (o : Oper) (ho : ops[i]? = some o) (c) : o.op ≠ .defer c := by
 intro e;obtain ⟨hi, rfl⟩ := Array.getElem?_eq_some_iff.1 ho;have := Array.all_eq_true.1 h i hi;rw [e] at this
 cases this
end
section
variable {P : Program} {n : Nat} {σ : Sg} {w : World} {Q : Exit → Act → World → Prop} {L : List Oper}
/-! ### With deferred calls, outside of a round -/
def addD (ds : List Deferred) (a : Act) : Act := ⟨a.tmps, a.defers ++ ds⟩
theorem QF5 (ds : List Deferred) (a : Act) (d : Option Tmp) (v : Value) : (addD ds a).put d v = addD ds (a.put d v) := by cases d <;> rfl
theorem QEo (ds : List Deferred) (a : Act) : (addD ds a).eval = a.eval := by
 funext x
 cases x <;> rfl
theorem QEe {ds : List Deferred} (h : LetsOut (fun e a' w' => Q e (addD ds a') w')) : LetsOut Q := by
 obtain ⟨a, w, h⟩ := h
 exact ⟨_, w, h⟩
theorem QGq {ds : List Deferred} {o : Oper} {a : Act} {w : World} {K : Act → World → Prop} (h : o.wp P a w (fun a' w' => K (addD ds a') w') (fun e a' w' => Q e (addD ds a') w')) : o.wp P (addD ds a) w K Q := by
 unfold Oper.wp at h ⊢
 rw [QEo]
 generalize (execOp a.eval o).run P w = r at h ⊢
 have pd := fun d v => QF5 ds a d v
 cases r with
 | ok x w' =>
  cases x
  case value v => rw [Oper.upon_value] at h ⊢; rw [pd]; exact h
  case skip => rw [Oper.upon_skip] at h ⊢; rw [pd]; exact h
  case defer d =>
   rw [Oper.upon_defer] at h ⊢;have e : ({ addD ds a with defers := d :: (addD ds a).defers } : Act).put o.dst undef = addD ds (({ a with defers := d :: a.defers } : Act).put o.dst undef) := by cases o.dst <;> rfl
   rw [e]
   exact h
  case enter f args =>
   rw [Oper.upon_enter] at h ⊢;refine h.mono fun e w'' he => ?_
   cases e with
   | returned v => show K ((addD ds a).put o.dst v) w''; rw [pd]; exact he
   | panicked c => exact he
   | outgrown => exact QEe he
  case row row args =>
   intro c cs;obtain ⟨v, w'', hv, hs⟩ := h c cs
   exact ⟨v, w'', by show K ((addD ds a).put o.dst v) w''; rw [pd]; exact hv, hs⟩
  all_goals exact h.elim
 | halt x w' => cases x <;> exact h
theorem QEY {ds : List Deferred} : ∀ (is : List Nat) (a : Act) (w : World), wpOps P L.toArray (fun e a' w' => Q e (addD ds a') w') is a w → wpOps P L.toArray Q is (addD ds a) w
 | [], _, _, h => h
 | i :: rest, a, w, h => by
  unfold wpOps at h ⊢
  cases ho : L.toArray[i]? with
  | none =>
   simp only [ho] at h ⊢
   exact QEY rest a w h
  | some o =>
   simp only [ho] at h ⊢
   by_cases hw : Region.wanted o (yielded L.toArray a.tmps) = true
   ·rw [if_pos hw] at h
    rw [if_pos (show Region.wanted o (yielded L.toArray (addD ds a).tmps) = true from hw)]
    rcases h with h | h
    ·exact .inl (QGq (Oper.wp_mono (fun a' w' h' => QEY rest a' w' h') h))
    ·refine .inr ⟨?_, QEe h.2⟩
     unfold Oper.asks
     rw [QEo]
     exact h.1
   ·rw [if_neg hw] at h
    rw [if_neg (show ¬Region.wanted o (yielded L.toArray (addD ds a).tmps) = true from hw), QF5]
    exact QEY rest _ w h
theorem ECI.regionD {id : Nat} {k : Nat} {ds : List Deferred} (h : ∀ a, Env n σ a → RO P L.toArray (fun e a' w' => Q e (addD ds a') w') a w) : ECI none k P n ds (.region id L.toArray true) Q σ w := fun a ha => by
 refine wpIn_wide.2 (wp_region_draw fun t => ?_)
 have h1 := QEY _ _ _ (h ⟨a.tmps, []⟩ ha.env t);have e : addD ds ⟨a.tmps, []⟩ = a := by
  obtain ⟨tm, df⟩ := a;have : df = ds := ha.ds;subst this
  rfl
 rw [e] at h1
 exact h1
theorem EX.ofD {ds : List Deferred} (h : EXI n ds Q .normal σ w) : EX n (fun e a' w' => Q e (addD ds a') w') .normal σ w := fun a ha => h _ ⟨⟨ha.size, rfl, ha.get⟩, by show a.defers ++ ds = ds; rw [ha.defers]; rfl⟩
/-- a drawn region that only reads -/
theorem EO.regionQ (hm : P.follows .mixedOrders = true) (hB : lexQ L 0 L = true) (h : EQ P n L (fun w' => Below w.heap.size w w') (fun a' => ∀ w', Below w.heap.size w w' → Q .normal a' w') L σ) : ∀ a, Env n σ a → RO P L.toArray Q a w := fun a ha => by
 refine QIe hm (wpAny_of_quiet (C := fun w' => Below w.heap.size w w') (Q := fun a' => ∀ w', Below w.heap.size w w' → Q .normal a' w') (fun _ w' hw' h => h w' hw') _ _ _ _ ⟨rfl, rfl, rfl, Nat.le_refl _, fun _ _ => rfl⟩ ?_)
 have := QAm (C := fun w' => Below w.heap.size w w') (P := P) (Z := fun a' => ∀ w', Below w.heap.size w w' → Q .normal a' w') (fun j o cs b hj => lex_sel hB o (List.mem_of_getElem? (by simpa using hj)) cs b) L 0 (Array.replicate L.toArray.size false) a (by simp) (by simp) (fun j hj => by omega) (fun j _ hj => by simp [Array.getD, hj]) hB (h a ha)
 simpa using this
end
theorem QIh {w w' : World} {base e size n : Nat} {v : Value} {xs : List Value} {row : Option Nat} (h : w.ownsRow base e size v n xs) (hg : w.grownBy w' row) (hr : ∀ r, row = some r → ∃ o : Obj, w.heap[r]? = some o ∧ o.isCells = false) : w'.ownsRow base e size v n xs := by
 refine h.kept hg ?_;obtain ⟨_, ⟨rfl, _⟩ | ⟨k, cap, cur, rfl, _, hk, _⟩⟩ := h
 ·exact .inl rfl
 ·refine .inr fun e1 => ?_
  obtain ⟨o, h1, h2⟩ := hr k e1.symm;rw [hk] at h1
  injection h1 with h1
  subst h1
  cases h2
theorem YI.below {n0 : Nat} {ds : List Deferred} {W W' : World} (h : YI n0 ds W) (hb : Below W.heap.size W W') : YI n0 ds W' := fun d hd => by
 obtain ⟨D, h1, h2, h3⟩ := h d hd
 exact ⟨D, h1, h2, (hb.block D (Array.getElem?_eq_some_iff.1 h3).1).trans h3⟩
theorem YI.cons {n0 D : Nat} {ds : List Deferred} {W : World} (h : YI n0 ds W) (hD : n0 ≤ D) (hd : W.heap[D]? = some (.deferred (some []))) : YI n0 ({ target := .collected D, args := #[] } :: ds) W := fun d hm => by
 rcases List.mem_cons.1 hm with rfl | h1
 ·exact ⟨D, hD, rfl, hd⟩
 ·exact h d h1
/-- the marks of a world that has been, still there -/
structure MarksIn (n0 : Nat) (ds : List Deferred) (W0 W : World) : Prop where
 marks : YI n0 ds W
 old : YI n0 ds W0
theorem YI.refl {n0 : Nat} {ds : List Deferred} {W : World} (h : YI n0 ds W) : MarksIn n0 ds W W := ⟨h, h⟩
theorem MarksIn.below {n0 : Nat} {ds : List Deferred} {W0 W W' : World} (h : MarksIn n0 ds W0 W) (hb : Below W.heap.size W W') : MarksIn n0 ds W0 W' := ⟨h.marks.below hb, h.old⟩
theorem MarksIn.fresh {n0 D : Nat} {ds : List Deferred} {W0 W : World} (h : MarksIn n0 ds W0 W) (hD : W0.heap.size ≤ D) (hm : ({ target := .collected D, args := #[] } : Deferred) ∈ ds) : False := by
 obtain ⟨D', _, h2, h3⟩ := h.old _ hm;have := (Array.getElem?_eq_some_iff.1 h3).1
 injection h2 with h2 _
 injection h2 with h2
 omega
theorem MarksIn.grown {n0 B : Nat} {ds : List Deferred} {W0 W W' : World} {row : Option Nat} (h : MarksIn n0 ds W0 W) (h3 : W0.heap.size ≤ B) (hg : W.grownBy W' row) (hr : ∀ r, row = some r → B ≤ r) : MarksIn n0 ds W0 W' := ⟨fun d hd => by
 obtain ⟨D, k1, k2, k3⟩ := h.marks d hd;obtain ⟨D', _, k5, k6⟩ := h.old d hd;have e : D' = D := by rw [k2] at k5; injection k5 with k5 _; injection k5 with k5; exact k5.symm
 subst e;have hlt := (Array.getElem?_eq_some_iff.1 k6).1
 exact ⟨D', k1, k2, (hg.block D' (Array.getElem?_eq_some_iff.1 k3).1 (fun e => by have := hr D' e.symm; omega)).trans k3⟩, h.old⟩
/-- a store into a block of cells leaves what is no cells -/
theorem Zm {w w' : World} {g T : Nat} {cs : Array Value} (h : Blk w g T cs) (hg : w.grownBy w' (some g)) : KeepsOthers w w' := ⟨hg.size, fun j o ho hc => by
 refine (hg.block j (Array.getElem?_eq_some_iff.1 ho).1 fun e => ?_).trans ho
 injection e with e
 subst e
 unfold Blk at h
 rw [h] at ho
 injection ho with ho
 subst ho
 cases hc⟩
theorem QIg {n0 : Nat} {w w' : World} {base e size n : Nat} {v : Value} {xs : List Value} (h : w.ownsRow base e size v n xs) (ht : Took n0 w w') : w'.ownsRow base e size v n xs := by
 obtain ⟨hl, h0 | ⟨g, cap, cur, hv, hb, hk, h1⟩⟩ := h
 ·exact ⟨hl, .inl h0⟩
 ·exact ⟨hl, .inr ⟨g, cap, cur, hv, hb, ht.blk g e cur hk, h1⟩⟩
section
variable {P : Program} {ops : Array Oper} {Q : Exit → Act → World → Prop} {n l : Nat}
theorem QBZ (hQ : ¬ LetsOut Q) : ∀ (L : List Oper) (a : Act) (w : World), (∀ o ∈ L, ∀ c, o.op ≠ .defer c) → wpList P ops Q L a w → wpListIn (Fence.wide.inRound l) n P ops Q L a w
 | [], _, _, _, h => h
 | o :: rest, a, w, hnd, h => by
  unfold wpListIn
  unfold wpList at h
  have hr : ∀ o ∈ rest, ∀ c, o.op ≠ .defer c := fun o ho => hnd o (List.mem_cons_of_mem _ ho)
  by_cases hw : Region.wanted o (yielded ops a.tmps) = true
  ·simp only [hw, if_true] at h ⊢
   rcases h with h | h
   ·exact Oper.wpIn_mono (fun a' w' h' => QBZ hQ rest a' w' hr h') (QDA (hnd o (List.mem_cons_self ..)) h)
   ·exact absurd h.2 hQ
  ·simp only [hw, if_false, Bool.false_eq_true] at h ⊢
   exact ⟨fun _ _ => trivial, QBZ hQ rest _ _ hr h⟩
theorem QEc {ds : List Deferred} : ∀ (L : List Oper) (a : Act) (w : World), wpList P ops (fun e a' w' => Q e (addD ds a') w') L a w → wpList P ops Q L (addD ds a) w
 | [], _, _, h => h
 | o :: rest, a, w, h => by
  unfold wpList at h ⊢
  by_cases hw : Region.wanted o (yielded ops a.tmps) = true
  ·rw [if_pos hw] at h
   rw [if_pos (show Region.wanted o (yielded ops (addD ds a).tmps) = true from hw)]
   rcases h with h | h
   ·exact .inl (QGq (Oper.wp_mono (fun a' w' h' => QEc rest a' w' h') h))
   ·refine .inr ⟨?_, QEe h.2⟩
    unfold Oper.asks
    rw [QEo]
    exact h.1
  ·rw [if_neg hw] at h
   rw [if_neg (show ¬Region.wanted o (yielded ops (addD ds a).tmps) = true from hw), QF5]
   exact QEc rest _ w h
end
theorem QFJ {L : List Oper} (h : QCm L.toArray = true) : ∀ o ∈ L, ∀ c, o.op ≠ .defer c := fun o ho => by
 obtain ⟨i, hi, rfl⟩ := List.getElem_of_mem ho
 exact QBm h i _ (by simp [hi])
theorem Zn {id : Nat} {Q : Exit → Act → World → Prop} (h : ¬LetsOut Q) : ¬LetsOut (Exit.inBlock id Q) := h
theorem Zg {K : Act → World → Prop} {Q : Exit → Act → World → Prop} (h : ¬LetsOut Q) : ¬LetsOut (Exit.then K Q) := h
theorem Zt : ¬LetsOut (fun (_ : Exit) (_ : Act) (_ : World) => False) := fun ⟨_, _, h⟩ => h
section
variable {P : Program} {n : Nat} {σ : Sg} {w : World} {Q : Exit → Act → World → Prop} {L : List Oper}
theorem ECI.regionL {id l : Nat} (hQ : ¬LetsOut Q) (hnd : QCm L.toArray = true) (h : EL P n L Q L σ w) : ECI (some l) 0 P n [] (.region id L.toArray false) Q σ w := fun a ha =>
 wpIn_region_lit (QBZ hQ L a w (QFJ hnd) (h a ha.e))
theorem ECI.regionLD {id : Nat} {k : Nat} {ds : List Deferred} (h : EL P n L (fun e a' w' => Q e (addD ds a') w') L σ w) : ECI none k P n ds (.region id L.toArray false) Q σ w := fun a ha => by
 refine wpIn_wide.2 (wp_region_lit ?_);have h1 := QEc (ds := ds) L ⟨a.tmps, []⟩ w (h ⟨a.tmps, []⟩ ha.env);have e : addD ds ⟨a.tmps, []⟩ = a := by
  obtain ⟨tm, df⟩ := a;have : df = ds := ha.ds;subst this
  rfl
 rw [e] at h1
 exact h1
theorem EX.toI {e : Exit} (h : EXI n [] Q e σ w) : EX n Q e σ w := fun a ha => h a ha.g
end
section
variable {ro : Option Nat} {k : Nat} {P : Program} {n : Nat} {ds : List Deferred} {σ : Sg} {w : World} {Q : Exit → Act → World → Prop} {L : List Oper} {rest : List Oper}
theorem ELI.skip {d ty j t : Nat} {b : Bool} {op : Op} {pos : String} {af : Array Edge} {u : Value} (hj : ZT L j = some t) (ht : σ t = some u) (hb : QAI b u = false) (hd : Nat.blt d n = true) (next : ELI ro k P n ds L Q rest (ins σ d undef) w) : ELI ro k P n ds L Q (⟨some d, op, ty, pos, af, some (j, b)⟩ :: rest) σ w := fun a ha => by
 have hw : Region.wanted (⟨some d, op, ty, pos, af, some (j, b)⟩ : Oper) (yielded L.toArray a.tmps) = false := by
  simp only [Region.wanted, QDy ha hj ht]
  cases u <;> first | rfl | (simp only [QAI] at hb; simpa using hb)
 unfold wpListIn
 rw [hw, if_neg (by simp)]
 exact ⟨fun _ _ => trivial, next _ (ha.put hd undef)⟩
end
section
variable {P : Program} {n : Nat} {σ : Sg} {w : World}
end
theorem QAn {b m : Nat} {U : List Nat} {A : World} {D : Nat} {o : Obj} (o' : Obj) (hm : m ≤ D) (hd : A.heap[D]? = some o) (hc : o.isCells = false) : Soft b m U A (A.putObj D o') :=
 ⟨some D, grownBy_putObj' A D o', fun g e => by injection e with e; subst e; exact .inr ⟨hm, o, hd, hc⟩⟩
section
variable {P : Program} {w : World}
end
section
variable {P : Program} {n : Nat} {σ : Sg} {w : World} {Q : Exit → Act → World → Prop} {L : List Oper} {rest : List Oper}
end
section
variable {P : Program} {n : Nat} {σ : Sg} {L : List Oper} {cls : List (List Nat)} {alc : List Nat} {val : Nat → Value} {a : Act} {w1 : World} {i : Nat} {Q : Exit → Act → World → Prop}
end
theorem QHa {w w' : World} {base e size n : Nat} {v : Value} {xs : List Value} {gs : List Nat} (h : w.ownsRow base e size v n xs) (ht : Touch w w' gs) (hn : ∀ g, v.ownBlock = some g → g ∉ gs) : w'.ownsRow base e size v n xs := by
 obtain ⟨hl, ⟨h1, h2⟩ | ⟨g, cap, cur, h1, hb, hg, hr⟩⟩ := h
 ·exact ⟨hl, .inl ⟨h1, h2⟩⟩
 ·refine ⟨hl, .inr ⟨g, cap, cur, h1, hb, ?_, hr⟩⟩
  have hlt : g < w.heap.size := Blk.lt hg
  exact (ht.block g hlt (hn g (by rw [h1]; rfl))).trans hg
/-- the block that a pointer or a slice points to -/
def blk0 : Value → Option Nat
 | .pointer (some a) => some a.block
 | .slice (some a) _ _ => some a.block
 | _ => none
section
variable {P : Program} {n : Nat} {σ : Sg} {w : World} {Q : Exit → Act → World → Prop} {L : List Oper}
end
section
variable {P : Program} {n : Nat} {σ : Sg} {w : World} {L : List Oper} {cls : List (List Nat)} {alc : List Nat} {val : Nat → Value} {a : Act} {w1 : World} {i m : Nat} {Q : Exit → Act → World → Prop} {Φ : Nat → (Nat → Value) → World → Prop}
abbrev HKA (L : List Oper) (cls : List (List Nat)) (alc : List Nat) (Φ : Nat → (Nat → Value) → World → Prop) (i : Nat) (val : Nat → Value) (a : Act) (w1 : World) : Act → World → Prop :=
 fun a' w' => ∃ v, a' = a.put (ZT L i) v ∧ Below w1.heap.size w1 w' ∧ Φ i (res (upd val i v) i (clsAt cls i)) w' ∧ (i ∈ alc → blk0 v = some w1.heap.size ∧ w1.heap.size < w'.heap.size)
theorem hka (h : wpOp P L.toArray Q i (HK L cls alc Φ i val a w1) a w1) : wpOp P L.toArray Q i (HKA L cls alc Φ i val a w1) a w1 :=
 wpOp_mono (fun a' w' ⟨v, h1, h2, h3, h4⟩ => ⟨v, h1, h2, h3, fun hi => by
  obtain ⟨h5, h6⟩ := h4 hi
  exact ⟨by rw [h5]; rfl, h6⟩⟩) h
end
section
variable {P : Program} {w : World}
theorem QHS {t tn e : TypeId} {size bytes base m ty : Nat} (E : Elem P t e size bytes) (htn : P.underlying tn = some (.int .i64)) (h0 : 0 < m) (hm : m ≤ 1048576) (hby : bytes ≤ 1048576) (hbase : base ≤ w.heap.size) :
  ∃ g c w', (Builtin.append_ #[t, tn] ty #[.slice none 0 0, .int .i64 (m : Int)]).run P w = .ok (.slice (some ⟨g, 0, none⟩) m c) w' ∧ m ≤ c ∧ w'.ownsRow base e size (.slice (some ⟨g, 0, none⟩) 0 c) 0 [] ∧ Below w.heap.size w w' := by
 obtain ⟨i, z, hi, hz, hsize, hb, hzs⟩ := E.hi;subst hsize;have hmm : m * i.bytes ≤ 1048576 * i.bytes := Nat.mul_le_mul_right _ hm;have h1 := Lib.run_append_nil_zeros (P := P) w t tn ty e i z .i64 .i64 E.ht htn hi hz m h0 E.hs (by omega) (by omega)
 have hge := grownCap_ge w m 0 e;have hcm : grownCap w m 0 e ≤ maxLen := grownCap_le_maxLen w m 0 e (by simp only [maxLen]; omega)
 refine ⟨_, _, _, h1, hge, ?_, ?_⟩
 ·refine World.ownsRow_made w.drew _ _ hbase hcm ?_
  simp only [Array.size_append, size_zeroCells, hzs, ← Nat.add_mul]
  congr 1
  omega
 ·exact ⟨rfl, rfl, rfl, by simp, fun j hj => by
   simp only [World.alloc, World.drew]
   rw [Array.getElem?_push_lt hj, Array.getElem?_eq_getElem hj]⟩
theorem QCG {t tn : TypeId} {s x : Operand} {o : Oper} {v v' : Value} {src : Value} {w' : World} {a : Act} (ho : o.op = .call { callee := .builtin .append, args := #[s, x], argTypes := #[t, tn] }) (hs : a.eval s = v) (hx : a.eval x = src) (hr : (Builtin.append_ #[t, tn] o.type #[v, src]).run P w = .ok v' w') :
  (execOp a.eval o).run P w = .ok (.value v') w' := by
 unfold execOp
 simp only [ho, resolve, invoke, builtin, Sem.run_bind, Sem.run_pure, Result.andThen_ok, List.map_toArray, List.map_cons, List.map_nil, hs, hx, hr]
end
section
variable {P : Program} {n : Nat} {σ : Sg} {w : World} {Q : Exit → Act → World → Prop} {L : List Oper} {rest : List Oper}
theorem EL.growZ {d ty t tn e size bytes base m : Nat} {s x : Operand} {pos : String} {af : Array Edge} (E : Elem P t e size bytes) (htn : P.underlying tn = some (.int .i64)) (hs : evS σ s = some (.slice none 0 0)) (hx : evS σ x = some (.int .i64 (m : Nat))) (h0 : 0 < m) (hm : m ≤ 1048576) (hby : Nat.ble bytes 1048576 = true) (hbase : base ≤ w.heap.size) (hd : Nat.blt d n = true)
  (next : ∀ g c w', m ≤ c → w'.ownsRow base e size (.slice (some ⟨g, 0, none⟩) 0 c) 0 [] → Below w.heap.size w w' → EL P n L Q rest (ins σ d (.slice (some ⟨g, 0, none⟩) m c)) w') : EL P n L Q (⟨some d, .call { callee := .builtin .append, args := #[s, x], argTypes := #[t, tn] }, ty, pos, af, none⟩ :: rest) σ w := by
 intro a ha;obtain ⟨g, c, w', h1, h2, h3, h4⟩ := QHS (P := P) (w := w) (ty := ty) E htn h0 hm (by simpa [Nat.ble_eq] using hby) hbase
 exact QAY (ZW rfl _) (QCG rfl (ha.eval hs) (ha.eval hx) h1) (next g c w' h2 h3 h4 _ (ha.put hd _))
end
/-- what taking the marks does, to all that is no mark -/
structure TookO (n0 : Nat) (w w' : World) : Prop where
 took : Took n0 w w'
 keep : ∀ (j : Nat) (o : Obj), w.heap[j]? = some o → (∀ x, o ≠ .deferred x) → w'.heap[j]? = some o
theorem QBR {P : Program} {fn : Func} {tmps : Array Value} {R : Ending → World → Prop} {n0 k : Nat} : ∀ (ds : List Deferred) (w : World), YI n0 ds w → ds.Nodup → (∀ w', TookO n0 w w' → ∃ v, (results fn tmps).run P w' = .ok v w' ∧ R (.returned v) w') → LeavesInM Fence.wide k P fn tmps R ds .returning w
 | [], w, _, _, h => h w ⟨⟨Below.refl _ _, rfl, fun _ _ _ h => h⟩, fun _ _ h _ => h⟩
 | d :: ds, w, hm, hd, h => by
  obtain ⟨D, hD, rfl, hw⟩ := hm d (List.mem_cons_self ..);have ho : ∀ j, j ≠ D → (w.putObj D (.deferred none)).heap[j]? = w.heap[j]? := fun j hj => World.putObj_heap_other hj
  refine ⟨by simp, .inl ⟨D, _, rfl, run_takeDeferred hw, QBR (n0 := n0) ds _ (fun d' hd' => ?_) (List.nodup_cons.1 hd).2 fun w' ht => h w' ?_⟩⟩
  ·obtain ⟨D', h1, rfl, h3⟩ := hm d' (List.mem_cons_of_mem _ hd')
   refine ⟨D', h1, rfl, (ho D' fun e => ?_).trans h3⟩
   subst e
   exact (List.nodup_cons.1 hd).1 hd'
  ·have hk : Kp n0 [] w (w.putObj D (.deferred none)) := Kp.putObj _ hD hw rfl
   refine ⟨⟨hk.below.trans ht.took.below, ht.took.size.trans (by simp), fun g T cs hg => ht.took.blk g T cs (hk.blk g T cs hg rfl)⟩, fun j o hj hn => ht.keep j o ((ho j fun e => ?_).trans hj) hn⟩
   subst e;rw [hw] at hj
   injection hj with hj
   exact hn _ hj.symm
section
variable {P : Program} {n : Nat} {ds : List Deferred} {σ : Sg} {w : World}
theorem EXI.doneO {fn : Func} {R : Ending → World → Prop} {n0 : Nat} {v : Value} (hm : YI n0 ds w) (hd : ds.Nodup) (hr : ∀ w', TookO n0 w w' → ∀ a, Env n σ a → (results fn a.tmps).run P w' = .ok v w') (h : ∀ w', TookO n0 w w' → R (.returned v) w') : EXI n ds (bodyPostM Fence.wide 0 P fn R) .ret σ w := fun a ha => by
 show LeavesInM Fence.wide 0 P fn a.tmps R a.defers .returning w
 rw [ha.ds]
 exact QBR ds w hm hd fun w' ht => ⟨v, hr w' ht ⟨a.tmps, []⟩ ha.env, h w' ht⟩
end
section
variable {A B : World} {n0 g : Nat} {S : List Nat} {o : Obj}
theorem Kp.other (hn : n0 ≤ g) (ho : A.heap[g]? = some o) (hc : o.isCells = false) (hg : A.grownBy B (some g)) : Kp n0 S A B :=
 ⟨hg.os, hg.tape, hg.output, hg.size, fun k hk => hg.block k (by have := (Array.getElem?_eq_some_iff.1 ho).1; omega) (fun e => by injection e; omega),
  fun k T cs hq _ => hq.grown hg fun e => by
   injection e with e
   subst e
   unfold Blk at hq
   rw [ho] at hq
   injection hq with hq
   subst hq
   cases hc⟩
theorem ZU.low {b : Nat} (hg : A.grownBy B (some g)) (h : g < b) : ZU b A B := fun j o hb hj _ => (hg.block j (Array.getElem?_eq_some_iff.1 hj).1 fun e => by injection e; omega).trans hj
theorem YI.other {ds : List Deferred} (h : YI n0 ds A) (ho : A.heap[g]? = some o) (hn : ∀ x, o ≠ .deferred x) (hg : A.grownBy B (some g)) : YI n0 ds B := fun d hd => by
 obtain ⟨D, h1, h2, h3⟩ := h d hd;refine ⟨D, h1, h2, (hg.block D (Array.getElem?_eq_some_iff.1 h3).1 fun e => ?_).trans h3⟩
 injection e with e
 subst e;rw [h3] at ho
 injection ho with ho
 exact hn _ ho.symm
theorem YI.keepsFrom {ds : List Deferred} {b : Nat} (h : YI n0 ds A) (hb : b ≤ n0) (hk : ZU b A B) : YI n0 ds B := fun d hd => by
 obtain ⟨D, h1, h2, h3⟩ := h d hd
 exact ⟨D, h1, h2, hk D _ (by omega) h3 rfl⟩
theorem MarksIn.other {ds : List Deferred} {W0 : World} (h : MarksIn n0 ds W0 A) (ho : A.heap[g]? = some o) (hn : ∀ x, o ≠ .deferred x) (hg : A.grownBy B (some g)) : MarksIn n0 ds W0 B := ⟨h.marks.other ho hn hg, h.old⟩
theorem MarksIn.soft {ds : List Deferred} {W0 : World} {b m : Nat} {U : List Nat} (h : MarksIn n0 ds W0 A) (hm : W0.heap.size ≤ m) (hs : Soft b m U A B) : MarksIn n0 ds W0 B := by
 obtain ⟨row, hg, hr⟩ := hs;refine ⟨fun d hd => ?_, h.old⟩
 obtain ⟨D, k1, k2, k3⟩ := h.marks d hd;obtain ⟨D', _, k5, k6⟩ := h.old d hd;have e : D' = D := by rw [k2] at k5; injection k5 with k5 _; injection k5 with k5; exact k5.symm
 subst e;have hlt := (Array.getElem?_eq_some_iff.1 k6).1;refine ⟨D', k1, k2, (hg.block D' (Array.getElem?_eq_some_iff.1 k3).1 (fun e => ?_)).trans k3⟩
 rcases hr D' e.symm with ⟨_, T, cs, _, h2⟩ | ⟨h1, _⟩
 ·unfold Blk at h2
  rw [k3] at h2
  cases h2
 ·omega
end
theorem Soft.mono2 {b m c : Nat} {U : List Nat} {A B : World} (h : Soft b m U A B) (hb : c ≤ b) (hm : c ≤ m := by omega) : Soft c c U A B := let ⟨row, hg, hr⟩ := h; ⟨row, hg, fun g e => by
 rcases hr g e with ⟨h1, h3⟩ | ⟨h1, h2⟩
 ·exact .inl ⟨Nat.le_trans hb h1, h3⟩
 ·exact .inr ⟨Nat.le_trans hm h1, h2⟩⟩
/-- what stays in a round: kept by what is new, and by turning the loop's own object l -/
structure FrOk (Fr : World → World → Prop) (l : Nat) : Prop where
 below : ∀ {A B : World}, Below A.heap.size A B → Fr A B
 put : ∀ {A : World} {o o' : Obj}, A.heap[l]? = some o → o.isCells = false → Fr A (A.putObj l o')
 trans : ∀ {A B C : World}, Fr A B → Fr B C → A.heap.size ≤ B.heap.size → Fr A C
def QH8 (Fr : Nat → World → World → Prop) (n0 : Nat) (S : List Nat) (l : Nat) (J Jx : List It → World → Prop) (pre : List It) (W : World) (e : Ending) (W' : World) : Prop :=
 Kp n0 S W W' ∧ ZU (l + 1) W W' ∧ Fr l W W' ∧ ((e = .returned (.bool true) ∧ J pre W') ∨ (e = .returned (.bool false) ∧ Jx pre W'))
def QHG (Fr : Nat → World → World → Prop) (U : List Nat) (P : Program) (gf : Nat) (caps : Array Value) (ok : It → World → Prop) (n0 : Nat) (S : List Nat) (all : List (List Int)) (w : World) : Prop :=
 ∀ (l : Nat) (J Jx : List It → World → Prop) (W : World), Below w.heap.size w W → w.heap.size ≤ l → l < W.heap.size → QBT (l + 1) (l + 1) U J → QBT (l + 1) (l + 1) U Jx →
  (∀ pre x W1, ok x W1 → J pre W1 → (pre ++ [x]).map (·.1) <+: all → QLH P l #[x.2] W1 (QH8 Fr n0 S l J Jx (pre ++ [x]) W1)) →
  J [] W → Calls P gf (#[.func (.yield l) #[] #[]] ++ caps) W fun e W' => (∃ v, e = .returned v) ∧ Kp n0 S W W' ∧ ((∃ xs : List It, xs.map (·.1) = all ∧ J xs W') ∨ (∃ pre : List It, pre ≠ [] ∧ pre.map (·.1) <+: all ∧ Jx pre W'))
section
variable {P : Program} {n : Nat} {ds : List Deferred} {σ : Sg} {w : World} {Q : Exit → Act → World → Prop}
/-- a range over a function whose body answers for more (Fr); its variable is no box; the body may leave by ret (its exit: ret) -/
theorem QGm {U : List Nat} {Fr : Nat → World → World → Prop} {k : Nat} {g : Operand} {d : Nat} {assign body : Code} {gf : Nat} {caps : Array Value} (hg : evS σ g = some (.func (.func gf) #[] caps)) (eg : ∀ args w, (callFunc gf args).run P w = .ok (.enter gf args) w) (hd : Nat.blt d n = true)
  {ok : It → World → Prop} {n0 : Nat} {S : List Nat} {all : List (List Int)} (hit : QHG Fr U P gf caps ok n0 S all w) (hF : FrOk (Fr (w.heap.size + 1)) (w.heap.size + 1)) (hn0 : n0 ≤ w.heap.size)
  (I Ix : List It → World → Prop) (hIS : QBT w.heap.size w.heap.size U I) (hIxS : QBT w.heap.size w.heap.size U Ix) (h0 : I [] w) (hok : OwnFrom w.heap.size ok) (σ1 : It → Sg)
  (hassign : ∀ l x W K, (∀ a', EnvG n [] (σ1 x) a' → K a' W) → ECI (some l) 0 P n [] assign (Exit.then K (fun _ _ _ => False)) (ins σ d x.2) W)
  (hbody : ∀ l pre x W, (pre ++ [x]).map (·.1) <+: all → ok x W → I pre W → w.heap.size + 2 ≤ W.heap.size → ECI (some l) 0 P n [] body (fun e _ W' => ZU w.heap.size W W' ∧ Kp n0 S W W' ∧ Fr (w.heap.size + 1) W W' ∧ ((e = .normal ∧ I (pre ++ [x]) W') ∨ (e = .ret ∧ Ix (pre ++ [x]) W'))) (σ1 x) W)
  (hdone : ∀ D xs W, w.heap.size ≤ D → xs.map (·.1) = all → I xs W → Kp n0 S w W → W.heap[D]? = some (.deferred (some [])) → EXI n ({ target := .collected D, args := #[] } :: ds) Q .normal σ W)
  (hstop : ∀ D pre W, w.heap.size ≤ D → pre ≠ [] → pre.map (·.1) <+: all → Ix pre W → Kp n0 S w W → W.heap[D]? = some (.deferred (some [])) → EXI n ({ target := .collected D, args := #[] } :: ds) Q .ret σ W) :
  ECI none k P n ds (.rangeFunc g #[d] assign body) Q σ w := fun a ha => by
 have hI := hIS.own;have hIx := hIxS.own;refine wpIn_rangeFunc fun fn hfn => ?_
 obtain ⟨rec, hrec⟩ : ∃ rec : LoopState → Option Code → Loop, rec = fun st pe => { state := st, pending := pe, fn, tmps := a.tmps, params := #[d], assign, body, defers := w.heap.size } := ⟨_, rfl⟩
 obtain ⟨W1, eW1⟩ : ∃ W1, W1 = (w.alloc (.deferred (some []))).alloc (.loop (rec .ready none)) := ⟨_, rfl⟩;have hL := World.alloc_heap_new (w.alloc (.deferred (some []))) (.loop (rec .ready none));rw [World.size_alloc, ← eW1] at hL;have hD : W1.heap[w.heap.size]? = some (.deferred (some [])) := by rw [eW1]; exact (Below.heap_alloc _ _ _ (by simp)).trans (World.alloc_heap_new w _)
 have hs1 : W1.heap.size = w.heap.size + 2 := by rw [eW1]; simp
 have hI1 : I [] W1 := by rw [eW1]; exact hI.alloc _ (hI.alloc _ h0)
 have hB1 : Below w.heap.size w W1 := by rw [eW1]; exact ((Below.refl w.heap.size w).alloc (Nat.le_refl _) _).alloc (by simp) _
 have hK1 : Kp n0 S w W1 := by rw [eW1]; exact (Kp.alloc w hn0 _).trans (Kp.alloc _ (by simp; omega) _)
 refine ⟨w.heap.size + 1, [{ target := .collected w.heap.size, args := #[] }], W1, { target := .fn (.func gf) caps, args := #[.func (.yield (w.heap.size + 1)) #[] #[]] }, W1, gf, #[.func (.yield (w.heap.size + 1)) #[] #[]] ++ caps, W1, ?_, ?_, ?_, ?_, QDY _ _, ?_⟩
 ·rw [eW1, hrec]; exact run_enterLoop_outer _ _ _ _ _
 ·simp only [resolve, ha.eval hg]
  simp [go_sem]
 ·intro f' hf'; trivial
 ·simp [invoke, go_sem, eg]
 ·refine CallsIn.mono (QDg (hit (w.heap.size + 1) (fun pre W => I pre W ∧ w.heap.size + 2 ≤ W.heap.size ∧ W.heap[w.heap.size + 1]? = some (.loop (rec .ready none)) ∧ W.heap[w.heap.size]? = some (.deferred (some [])))
   (fun pre W => Ix pre W ∧ w.heap.size + 2 ≤ W.heap.size ∧ W.heap[w.heap.size + 1]? = some (.loop (rec .done (some .ret))) ∧ W.heap[w.heap.size]? = some (.deferred (some [])))
   W1 hB1 (by omega) (by omega) ?_ ?_ ?_ ⟨hI1, by omega, hL, hD⟩)) ?_
  ·rintro s A B ⟨h1, h2, h3, h4⟩ hb
   exact ⟨hIS s A B h1 (hb.mono2 (by omega)), Nat.le_trans h2 hb.size, hb.other h3 rfl (by omega), hb.other h4 rfl (by omega)⟩
  ·rintro s A B ⟨h1, h2, h3, h4⟩ hb
   exact ⟨hIxS s A B h1 (hb.mono2 (by omega)), Nat.le_trans h2 hb.size, hb.other h3 rfl (by omega), hb.other h4 rfl (by omega)⟩
  ·rintro pre x W hokx ⟨hi, hsz, hl, hk⟩ hpf
   have hlt : w.heap.size + 1 < W.heap.size := by omega
   have hy := run_yield (P := P) (args := #[x.2]) hl (by rw [hrec]; rfl)
   rw [hrec] at hy;refine ⟨fn, _, assign, body, hy, roundIn_of_wpIn hfn (hassign (w.heap.size + 1) x W _ (fun a' ha' => ?_) _ (QKF ha hd))⟩
   refine ⟨_, run_beginRound hl (by rw [hrec]), ?_⟩
   obtain ⟨W2, eW2⟩ : ∃ W2, W2 = W.putObj (w.heap.size + 1) (.loop { rec .ready none with state := .busy }) := ⟨_, rfl⟩;have hl2 : W2.heap[w.heap.size + 1]? = some (.loop { rec .ready none with state := .busy }) := by rw [eW2]; exact World.putObj_heap_same hlt
   have hk2 : W2.heap[w.heap.size]? = some (.deferred (some [])) := by rw [eW2]; exact (World.putObj_heap_other (by omega)).trans hk
   have hw2 : Kp n0 S W W2 := by rw [eW2]; exact Kp.putObj _ (by omega) hl rfl
   have hkw2 : ZU (w.heap.size + 1 + 1) W W2 := fun j o hj ho _ => by rw [eW2]; exact (World.putObj_heap_other (by omega)).trans ho
   have hF2 : Fr (w.heap.size + 1) W W2 := by rw [eW2]; exact hF.put hl rfl
   have hi2 : I pre W2 := by rw [eW2]; exact hI.putObj _ hi (by omega) hl rfl
   have hok2 : ok x W2 := by rw [eW2]; exact hok.putObj _ hokx (by omega) hl rfl
   have hsz2 : w.heap.size + 2 ≤ W2.heap.size := Nat.le_trans hsz hw2.size;rw [← eW2];refine wpIn_mono (hbody (w.heap.size + 1) pre x W2 hpf hok2 hi2 hsz2 a' ha') ?_
   rintro e a3 W3 ⟨hk3, hp3, hf3, h3⟩
   have hl3 := hk3 _ _ (by omega) hl2 rfl
   have hd3 := hk3 _ _ (by omega) hk2 rfl
   have fin : ∀ jump : Option Code, ∃ W4, (Instr.endRound (w.heap.size + 1) jump).run P W3 = .ok (.bool jump.isNone) W4 ∧ W4 = W3.putObj (w.heap.size + 1) (.loop (rec (if jump.isNone then .ready else .done) jump)) ∧ (Kp n0 S W W4 ∧ ZU (w.heap.size + 1 + 1) W W4 ∧ Fr (w.heap.size + 1) W W4) ∧ w.heap.size + 2 ≤ W4.heap.size ∧ W4.heap[w.heap.size + 1]? = some (.loop (rec (if jump.isNone then .ready else .done) jump)) ∧ W4.heap[w.heap.size]? = some (.deferred (some [])) := fun jump => by
    have hr := run_endRound (P := P) jump hl3;rw [hrec] at hr ⊢;have hk4 : Kp n0 S W3 (W3.putObj (w.heap.size + 1) (.loop (rec (if jump.isNone then .ready else .done) jump))) := Kp.putObj _ (by omega) hl3 rfl
    rw [hrec] at hk4
    exact ⟨_, hr, rfl, ⟨hw2.trans (hp3.trans hk4), (hkw2.trans (hk3.mono (by omega))).trans fun j o hj ho _ => (World.putObj_heap_other (by omega)).trans ho, hF.trans (hF.trans hF2 hf3 hw2.size) (hF.put hl3 rfl) (Nat.le_trans hw2.size hp3.size)⟩, Nat.le_trans hsz2 (Nat.le_trans hp3.size hk4.size), World.putObj_heap_same (Array.getElem?_eq_some_iff.1 hl3).1, (World.putObj_heap_other (by omega)).trans hd3⟩
   rcases h3 with ⟨rfl, hi3⟩ | ⟨rfl, hi3⟩
   ·obtain ⟨W4, hr, e4, k4, s4, l4, d4⟩ := fin none
    exact ⟨_, W4, hr, k4.1, k4.2.1, k4.2.2, .inl ⟨rfl, by rw [e4]; exact hI.putObj _ hi3 (by omega) hl3 rfl, s4, l4, d4⟩⟩
   ·obtain ⟨W4, hr, e4, k4, s4, l4, d4⟩ := fin (some .ret)
    exact ⟨_, W4, hr, k4.1, k4.2.1, k4.2.2, .inr ⟨rfl, by rw [e4]; exact hIx.putObj _ hi3 (by omega) hl3 rfl, s4, l4, d4⟩⟩
  ·rintro e W2 ⟨⟨v, rfl⟩, hkk, ⟨xs, hS, hi, hsz, hl, hk⟩ | ⟨pre, hne, hS, hi, hsz, hl, hk⟩⟩
   ·refine ⟨none, _, by have := run_endLoop (P := P) hl (by rw [hrec]; simp); rw [hrec] at this; exact this, ?_⟩
    exact hdone w.heap.size xs _ (Nat.le_refl _) hS (hI.putObj _ hi (by omega) hl rfl) (hK1.trans (hkk.trans (Kp.putObj _ (by omega) hl rfl))) ((World.putObj_heap_other (by omega)).trans hk) _ ⟨ha.env, by rw [List.singleton_append, ha.ds]⟩
   ·refine ⟨some .ret, _, by have := run_endLoop (P := P) hl (by rw [hrec]; simp); rw [hrec] at this; exact this, wpIn_ret ?_⟩
    exact hstop w.heap.size pre _ (Nat.le_refl _) hne hS (hIx.putObj _ hi (by omega) hl rfl) (hK1.trans (hkk.trans (Kp.putObj _ (by omega) hl rfl))) ((World.putObj_heap_other (by omega)).trans hk) _ ⟨ha.env, by rw [List.singleton_append, ha.ds]⟩
end
section
variable {P : Program} {ops : Array Oper} {Q : Exit → Act → World → Prop}
variable {F : Fence} {kk : Nat}
theorem QE0 (hback : QCZ ops = true) (I : Array Bool → Act → World → Prop)
  (hstep : ∀ (L : Array Bool) (a : Act) (w : World) (i : Nat) (o : Oper), L.size = ops.size → I L a w → L.getD i true = false → ops[i]? = some o → (∀ e ∈ o.after, Region.binds .any e = true → L.getD e.on false = true) →
   wpOpIn F kk P ops Q i (I (L.setIfInBounds i true)) a w)
  (hend : ∀ (L : Array Bool) (a : Act) (w : World), L.size = ops.size → I L a w → (∀ i, i < ops.size → L.getD i false = true) → Q .normal a w) :
  ∀ (fuel : Nat) (L : Array Bool) (a : Act) (w : World), L.size = ops.size → QDB ops.size L ≤ fuel → I L a w → wpAnyIn F kk P .any ops Q fuel L a w := by
 have hall : ∀ (L : Array Bool), L.size = ops.size → Region.ready .any ops L = [] → ∀ i, i < ops.size → L.getD i false = true := by
  intro L hs hr i
  induction i using Nat.strongRecOn with
  | ind i ih =>
   intro hi
   rcases Bool.eq_false_or_eq_true (L.getD i false) with h | h
   ·exact h
   ·exfalso
    have hm : i ∈ Region.ready .any ops L := by
     refine mem_ready.2 ⟨?_, ops[i], Array.getElem?_eq_getElem hi, fun e he hb => ?_⟩
     ·simp [Array.getD, hs, hi] at h ⊢
      exact h
     ·have := QDj hback (Array.getElem?_eq_getElem hi) he hb
      exact ih e.on this (by omega)
    rw [hr] at hm
    cases hm
 intro fuel
 induction fuel with
 | zero =>
  intro L a w hs hf hI;have hr : Region.ready .any ops L = [] := by
   refine List.eq_nil_iff_forall_not_mem.2 fun i hi => ?_
   obtain ⟨h1, o, ho, _⟩ := mem_ready.1 hi;have := QBl (Array.getElem?_eq_some_iff.1 ho).1 hs h1
   omega
  exact ⟨hr, hend L a w hs hI (hall L hs hr)⟩
 | succ fuel ih =>
  intro L a w hs hf hI;refine ⟨fun hr => hend L a w hs hI (hall L hs hr), fun i hi => ?_⟩
  obtain ⟨h1, o, ho, h2⟩ := mem_ready.1 hi;have hlt := QBl (Array.getElem?_eq_some_iff.1 ho).1 hs h1
  exact wpOpIn_mono (fun a' w' h => ih _ a' w' (by simpa using hs) (by omega) h) (hstep L a w i o hs hI h1 ho h2)
theorem QCc {id : Nat} {a : Act} {w : World} (hm : P.follows .mixedOrders = true) (hback : QCZ ops = true) (I : Array Bool → Act → World → Prop)
  (h0 : I (Array.replicate ops.size false) a { w with drawn := w.drawn + 1 })
  (hstep : ∀ (L : Array Bool) (a : Act) (w : World) (i : Nat) (o : Oper), L.size = ops.size → I L a w → L.getD i true = false → ops[i]? = some o → (∀ e ∈ o.after, Region.binds .any e = true → L.getD e.on false = true) →
   wpOpIn F kk P ops Q i (I (L.setIfInBounds i true)) a w)
  (hend : ∀ (L : Array Bool) (a : Act) (w : World), L.size = ops.size → I L a w → (∀ i, i < ops.size → L.getD i false = true) → Q .normal a w) : (Code.region id ops true).wpIn F kk P Q a w := by
 refine wpIn_region_any hm (QE0 hback I hstep hend _ _ _ _ (by simp) ?_ h0)
 unfold QDB
 exact Nat.le_trans (List.length_filter_le _ _) (by simp)
end
section
variable {P : Program} {n : Nat} {σ : Sg} {w : World} {Q : Exit → Act → World → Prop} {L : List Oper}
theorem ELI.ends {ro : Option Nat} {k m : Nat} {ds : List Deferred} {val : Nat → Value} {rest : List Oper} {cs : List Value} (hv : QHH val 0 cs) (hl : Nat.ble m (lenV cs) = true) (h : ELI ro k P n ds L Q rest (sgEnd L σ (nthV cs) m) w) : ELI ro k P n ds L Q rest (sgEnd L σ val m) w := by
 have e : sgEnd L σ val m = sgEnd L σ (nthV cs) m := QAp m fun j hj => by
  have := QDq hv j (by rw [← Yi]; have := Nat.le_of_ble_eq_true hl; omega)
  rwa [Nat.zero_add] at this
 rw [e]
 exact h
end
theorem Zc {A B C D E : World → Prop} : ¬LetsOut (fun e _ W' => A W' ∧ B W' ∧ C W' ∧ ((e = Exit.normal ∧ D W') ∨ (e = Exit.ret ∧ E W'))) := fun ⟨_, _, h⟩ => by
 rcases h.2.2.2 with ⟨h1, _⟩ | ⟨h1, _⟩ <;> cases h1
theorem Soft.none {b m : Nat} {U : List Nat} {A B : World} (h : Soft b m [] A B) : Soft b m U A B := let ⟨row, hg, hr⟩ := h; ⟨row, hg, fun g e => by
 rcases hr g e with ⟨_, T, cs, h1, _⟩ | h2
 ·cases h1
 ·exact .inr h2⟩
theorem Kp.soft {n0 b m : Nat} {S : List Nat} {W A B : World} (h : Kp n0 S W A) (hs : Soft b m [] A B) (hm : n0 ≤ m) (hn : n0 ≤ W.heap.size) : Kp n0 S W B := by
 obtain ⟨row, hg, hr⟩ := hs
 cases row with
 | none => exact h.trans (Kp.of_below ⟨hg.os, hg.tape, hg.output, hg.size, fun k hk => hg.block k hk (fun e => by cases e)⟩ (Nat.le_trans hn h.size))
 | some g =>
  rcases hr g rfl with ⟨_, T, cs, h1, _⟩ | ⟨h1, o, h2, h3⟩
  ·cases h1
  ·exact h.trans (Kp.other (by omega) h2 h3 hg)
theorem QAO {P : Program} {fn : Func} {tmps : Array Value} {R : Ending → World → Prop} {n0 k : Nat} {Z : World → Prop} (hZ : ∀ A D, Z A → n0 ≤ D → A.heap[D]? = some (.deferred (some [])) → Z (A.putObj D (.deferred none))) : ∀ (ds : List Deferred) (w : World), YI n0 ds w → ds.Nodup → Z w → (∀ w', TookO n0 w w' → Z w' → ∃ v, (results fn tmps).run P w' = .ok v w' ∧ R (.returned v) w') → LeavesInM Fence.wide k P fn tmps R ds .returning w
 | [], w, _, _, hz, h => h w ⟨⟨Below.refl _ _, rfl, fun _ _ _ h => h⟩, fun _ _ h _ => h⟩ hz
 | d :: ds, w, hm, hd, hz, h => by
  obtain ⟨D, hD, rfl, hw⟩ := hm d (List.mem_cons_self ..);have ho : ∀ j, j ≠ D → (w.putObj D (.deferred none)).heap[j]? = w.heap[j]? := fun j hj => World.putObj_heap_other hj
  refine ⟨by simp, .inl ⟨D, _, rfl, run_takeDeferred hw, QAO (n0 := n0) hZ ds _ (fun d' hd' => ?_) (List.nodup_cons.1 hd).2 (hZ _ _ hz hD hw) fun w' ht => h w' ?_⟩⟩
  ·obtain ⟨D', h1, rfl, h3⟩ := hm d' (List.mem_cons_of_mem _ hd')
   refine ⟨D', h1, rfl, (ho D' fun e => ?_).trans h3⟩
   subst e
   exact (List.nodup_cons.1 hd).1 hd'
  ·have hk : Kp n0 [] w (w.putObj D (.deferred none)) := Kp.putObj _ hD hw rfl
   refine ⟨⟨hk.below.trans ht.took.below, ht.took.size.trans (by simp), fun g T cs hg => ht.took.blk g T cs (hk.blk g T cs hg rfl)⟩, fun j o hj hn => ht.keep j o ((ho j fun e => ?_).trans hj) hn⟩
   subst e;rw [hw] at hj
   injection hj with hj
   exact hn _ hj.symm
section
variable {P : Program} {n : Nat} {ds : List Deferred} {σ : Sg} {w : World}
theorem EXI.doneZ {fn : Func} {R : Ending → World → Prop} {n0 : Nat} {v : Value} {Z : World → Prop} (hm : YI n0 ds w) (hd : ds.Nodup) (hz : Z w) (hZ : ∀ A D, Z A → n0 ≤ D → A.heap[D]? = some (.deferred (some [])) → Z (A.putObj D (.deferred none))) (hr : ∀ w', TookO n0 w w' → ∀ a, Env n σ a → (results fn a.tmps).run P w' = .ok v w') (h : ∀ w', TookO n0 w w' → Z w' → R (.returned v) w') : EXI n ds (bodyPostM Fence.wide 0 P fn R) .ret σ w := fun a ha => by
 show LeavesInM Fence.wide 0 P fn a.tmps R a.defers .returning w
 rw [ha.ds]
 exact QAO hZ ds w hm hd hz fun w' ht hz' => ⟨v, hr w' ht ⟨a.tmps, []⟩ ha.env, h w' ht hz'⟩
theorem EXI.doneZN {fn : Func} {R : Ending → World → Prop} {n0 : Nat} {v : Value} {Z : World → Prop} (hm : YI n0 ds w) (hd : ds.Nodup) (hz : Z w) (hZ : ∀ A D, Z A → n0 ≤ D → A.heap[D]? = some (.deferred (some [])) → Z (A.putObj D (.deferred none))) (hr : ∀ w', TookO n0 w w' → ∀ a, Env n σ a → (results fn a.tmps).run P w' = .ok v w') (h : ∀ w', TookO n0 w w' → Z w' → R (.returned v) w') : EXI n ds (bodyPostM Fence.wide 0 P fn R) .normal σ w := fun a ha => by
 show LeavesInM Fence.wide 0 P fn a.tmps R a.defers .returning w
 rw [ha.ds]
 exact QAO hZ ds w hm hd hz fun w' ht hz' => ⟨v, hr w' ht ⟨a.tmps, []⟩ ha.env, h w' ht hz'⟩
end
section
variable {P : Program} {n : Nat} {L : List Oper} {Q : Exit → Act → World → Prop} {cls : List (List Nat)} {alc : List Nat} {w1 : World} {Φ : Nat → (Nat → Value) → World → Prop} {i j t : Nat} {b : Bool} {val : Nat → Value} {a : Act} {σ : Sg}
theorem QG3 {o : Oper} {v : Value} {w' : World} (ha : Env n σ a) (ho : nthO L i = some o) (hg : o.guard = some (j, b)) (hj : ZT L j = some t) (ht : σ t = some (.bool b)) (hr : (execOp a.eval o).run P w1 = .ok (.value v) w') (hb : Below w1.heap.size w1 w') (hΦ : Φ i (res (upd val i v) i (clsAt cls i)) w') (halc : i ∈ alc → v = .pointer (some ⟨w1.heap.size, 0, none⟩) ∧ w1.heap.size < w'.heap.size) :
  wpOp P L.toArray Q i (HK L cls alc Φ i val a w1) a w1 := by
 obtain ⟨h1, h2⟩ := opL ho
 unfold wpOp
 simp only [h1]
 rw [if_pos (by simp [Region.wanted, hg, YQ ha hj ht])]
 left
 unfold Oper.wp
 rw [hr]
 exact ⟨v, by rw [h2], hb, hΦ, halc⟩
theorem Z7 {o : Oper} {v : Value} (ha : Env n σ a) (ho : nthO L i = some o) (hg : o.guard = some (j, b)) (hj : ZT L j = some t) (ht : σ t = some (.bool b)) (hr : ZE P n σ w1 o v) (hΦ : Φ i (res (upd val i v) i (clsAt cls i)) w1) (halc : memB alc i = false) : wpOp P L.toArray Q i (HK L cls alc Φ i val a w1) a w1 :=
 QG3 ha ho hg hj ht (hr a ha) ⟨rfl, rfl, rfl, Nat.le_refl _, fun _ _ => rfl⟩ hΦ fun h => by rw [ZA.2 h] at halc; cases halc
theorem QFb {o : Oper} {m c : Nat} {cs : Array Value} {T : TypeId} (ha : Env n σ a) (ho : nthO L i = some o) (hg : o.guard = some (j, b)) (hj : ZT L j = some t) (ht : σ t = some (.bool b)) (hr : ∀ a, Env n σ a → (execOp a.eval o).run P w1 = .ok (.value (.slice (some ⟨w1.heap.size, 0, none⟩) m c)) (w1.alloc (.cells cs T))) (halc : memB alc i = false)
  (hΦ : ∀ g w', Blk w' g T cs → Below w1.heap.size w1 w' → w1.heap.size ≤ g → Φ i (res (upd val i (.slice (some ⟨g, 0, none⟩) m c)) i (clsAt cls i)) w') : wpOp P L.toArray Q i (HK L cls alc Φ i val a w1) a w1 :=
 QG3 ha ho hg hj ht (hr a ha) ((Below.refl _ _).alloc (Nat.le_refl _) _) (hΦ _ _ (Blk.new w1 T cs) ((Below.refl _ _).alloc (Nat.le_refl _) _) (Nat.le_refl _)) fun h => by rw [ZA.2 h] at halc; cases halc
theorem QFc {o : Oper} {f : FuncId} {args : Array Value} {R : Ending → World → Prop} (ha : Env n σ a) (ho : nthO L i = some o) (hg : o.guard = some (j, b)) (hj : ZT L j = some t) (ht : σ t = some (.bool b)) (hr : ∀ a, Env n σ a → (execOp a.eval o).run P w1 = .ok (.enter f args) w1) (hc : Calls P f args w1 R)
  (halc : memB alc i = false) (hΦ : ∀ e w', R e w' → ∃ v, e = .returned v ∧ Below w1.heap.size w1 w' ∧ Φ i (res (upd val i v) i (clsAt cls i)) w') : wpOp P L.toArray Q i (HK L cls alc Φ i val a w1) a w1 := by
 obtain ⟨h1, h2⟩ := opL ho
 unfold wpOp
 simp only [h1]
 rw [if_pos (by simp [Region.wanted, hg, YQ ha hj ht])]
 left
 unfold Oper.wp
 rw [hr a ha, Oper.upon_enter];refine hc.mono fun e w' he => ?_
 obtain ⟨v, rfl, hb, hp⟩ := hΦ e w' he
 exact ⟨v, by rw [h2], hb, hp, fun h => by rw [ZA.2 h] at halc; cases halc⟩
theorem Yj {o : Oper} {u : Value} (ha : Env n σ a) (ho : nthO L i = some o) (hg : o.guard = some (j, b)) (hj : ZT L j = some t) (ht : σ t = some u) (hb : QAI b u = false) (hΦ : Φ i (res (upd val i undef) i (clsAt cls i)) w1) (halc : memB alc i = false) : wpOp P L.toArray Q i (HK L cls alc Φ i val a w1) a w1 := by
 obtain ⟨h1, h2⟩ := opL ho;have hw : Region.wanted o (yielded L.toArray a.tmps) = false := by
  simp only [Region.wanted, hg, YQ ha hj ht]
  cases u <;> first | rfl | (simp only [QAI] at hb; simpa using hb)
 unfold wpOp
 simp only [h1]
 rw [hw, if_neg (by simp)]
 exact ⟨undef, by rw [h2], ⟨rfl, rfl, rfl, Nat.le_refl _, fun _ _ => rfl⟩, hΦ, fun h => by rw [ZA.2 h] at halc; cases halc⟩
end
theorem Ym {α : Type} {l : List α} {d : α} {i : Nat} (hi : i < l.length) : l.getD i d = l[i] := by simp [List.getD, hi]
/-- a row of a table of volumes, a hold, a section, a hull -/
structure HRow where
 draft : Int
 vol : Int
def ZP : HRow := ⟨0, 0⟩
structure Hold where
 pos : Int
 lots : Int
def YE : Hold := ⟨0, 0⟩
structure Sec where
 len : Int
 light : Int
 trim : Int
 curve : List HRow
 holds : List Hold
def sec0 : Sec := ⟨0, 0, 0, [], []⟩
structure Hul where
 lot : Int
 secs : List Sec
def QC1 (p x : HRow) : Bool := inB (p.draft + 1) 1000 x.draft && inB (p.vol + 1) 100000 x.vol
def YM (l : List HRow) (k : Nat) : Bool := (List.range k).all fun i => QC1 (l.getD i ZP) (l.getD (i + 1) ZP)
def YP (l : List HRow) : Bool := inB 2 20 (l.length : Nat) && ((decide ((l.getD 0 ZP).draft = 0) && decide ((l.getD 0 ZP).vol = 0)) && YM l (l.length - 1))
def QDV (m : Int) (x : Hold) : Bool := inB 0 m x.pos && inB 0 20 x.lots
def secB (s : Sec) : Bool := inB 1 100 s.len && (inB 0 10000 s.light && (inB 1 100000 s.trim && (YP s.curve && s.holds.all (QDV s.len))))
def sumS (f : Sec → Int) (l : List Sec) : Int := (l.map f).sum
def Ya (c : List HRow) : Int := (c.getD (c.length - 1) ZP).draft
def limS (l : List Sec) : Int := l.foldl (fun m s => min m (Ya s.curve)) 1000
def YX (l : List Sec) : Int := sumS (fun s => (s.holds.length : Nat)) l
def hulB (h : Hul) : Bool := (inB 1 1000 h.lot && inB 1 6 (h.secs.length : Nat)) && (h.secs.all secB && (decide (sumS Sec.len h.secs ≤ 200) && decide (YX h.secs ≤ 4)))
/-- the moment of the sections, and the holds with their arms -/
def momS (long : Int) : Int → List Sec → Int
 | _, [] => 0
 | at_, s :: l => s.light * (2 * at_ + s.len - long) + momS long (at_ + s.len) l
def armH (long at_ : Int) (x : Hold) : Hold := ⟨2 * (at_ + x.pos) - long, x.lots⟩
def armsS (long : Int) : Int → List Sec → List Hold
 | _, [] => []
 | at_, s :: l => s.holds.map (armH long at_) ++ armsS long (at_ + s.len) l
def QAw (h : Hul) : Int := sumS Sec.len h.secs
def momH (h : Hul) : Int := momS (QAw h) 0 h.secs
def ZQ (h : Hul) : List Hold := armsS (QAw h) 0 h.secs
def limH (h : Hul) : Int := limS h.secs
/-! ### The first number for which something is true -/
def fstN (p : Nat → Bool) : Nat → Nat
 | 0 => 0
 | n + 1 => if fstN p n < n then fstN p n else if p n = true then n else n + 1
theorem QBJ (p : Nat → Bool) : ∀ n, fstN p n ≤ n
 | 0 => Nat.le_refl _
 | n + 1 => by
  have := QBJ p n
  unfold fstN
  split
  ·omega
  ·split <;> omega
theorem fstN_is (p : Nat → Bool) : ∀ n, (∀ i, i < fstN p n → p i = false) ∧ (fstN p n < n → p (fstN p n) = true)
 | 0 => ⟨fun i hi => absurd hi (Nat.not_lt_zero _), fun h => absurd h (Nat.not_lt_zero _)⟩
 | n + 1 => by
  have ⟨h1, h2⟩ := fstN_is p n;have h3 := QBJ p n
  unfold fstN
  split
  ·rename_i h4; exact ⟨h1, fun _ => h2 h4⟩
  ·rename_i h4
   have h5 : fstN p n = n := by omega
   split
   ·rename_i h6; exact ⟨fun i hi => h1 i (by omega), fun _ => h6⟩
   ·rename_i h6
    refine ⟨fun i hi => ?_, fun h => absurd h (Nat.lt_irrefl _)⟩
    by_cases h7 : i < n
    ·exact h1 i (by omega)
    ·rw [show i = n by omega]; simpa using h6
theorem QJ8 {p : Nat → Bool} {n r : Nat} (h1 : r ≤ n) (h2 : ∀ i, i < r → p i = false) (h3 : r < n → p r = true) : r = fstN p n := by
 have h4 := QBJ p n;have ⟨h5, h6⟩ := fstN_is p n
 rcases Nat.lt_trichotomy r (fstN p n) with h | h | h
 ·have := h5 r h; rw [h3 (by omega)] at this; cases this
 ·exact h
 ·have := h2 _ h; rw [h6 (by omega)] at this; cases this
theorem QEj {p : Nat → Bool} {n i : Nat} (hi : i < n) (h : p i = true) : fstN p n ≤ i := by
 rcases Nat.lt_or_ge i (fstN p n) with h1 | h1
 ·have := (fstN_is p n).1 i h1; rw [h] at this; cases this
 ·exact h1
/-! ### Volumes -/
def atS (c : List HRow) (d : Int) : Nat := fstN (fun i => decide (d ≤ (c.getD (i + 1) ZP).draft)) (c.length - 1)
def volC (c : List HRow) (d : Int) : Int := (c.getD (atS c d) ZP).vol + (d - (c.getD (atS c d) ZP).draft) * ((c.getD (atS c d + 1) ZP).vol - (c.getD (atS c d) ZP).vol) / ((c.getD (atS c d + 1) ZP).draft - (c.getD (atS c d) ZP).draft)
def volH (h : Hul) (d : Int) : Int := sumS (fun s => volC s.curve d) h.secs
/-! ### Loads -/
def sumI (l : List Int) : Int := l.sum
def momL (lot : Int) : List Hold → List Int → Int
 | x :: xs, n :: l => n * lot * x.pos + momL lot xs l
 | _, _ => 0
def momT (h : Hul) (l : List Int) : Int := momH h + momL h.lot (ZQ h) l
def absI (n : Int) : Int := max n (-n)
def QDI (h : Hul) (lots : Int) : Int := 1000 * (sumS Sec.light h.secs + h.lot * lots)
def QBP (h : Hul) (lots density : Int) : Int := (QDI h lots + density - 1) / density
def meanN (h : Hul) (lots density : Int) : Nat := fstN (fun d => decide (QBP h lots density ≤ volH h d)) (limH h + 1).toNat
def Zr (h : Hul) (l : List Int) : Int := (absI (momT h l) + 4 * sumS Sec.trim h.secs - 1) / (4 * sumS Sec.trim h.secs)
/-- how deep a hull lies -/
structure Flt where
 mean : Bd
 deep : Bd
 head : Int
def flt0 : Flt := ⟨bd0, bd0, 0⟩
def Y0 (m : Int) : Int := if m < 0 then -1 else if 0 < m then 1 else 0
def fltT (h : Hul) (l : List Int) (d : Bd) : Flt := ⟨⟨meanN h (sumI l) d.hi, meanN h (sumI l) d.lo⟩, ⟨meanN h (sumI l) d.hi + Zr h l, meanN h (sumI l) d.lo + Zr h l⟩, Y0 (momT h l)⟩
def Yn (h : Hul) (l : List Int) (d : Bd) : Bool := decide ((fltT h l d).deep.hi ≤ limH h)
/-- the error of a hull, a load, a density -/
def Z9 : List Hold → List Int → Bool
 | x :: xs, n :: l => inB 0 x.lots n && Z9 xs l
 | _, _ => true
def denB (d : Bd) : Bool := bdOk 900 1100 d
def YF (h : Hul) (l : List Int) (d : Bd) : Int := if hulB h = true then (if l.length = (ZQ h).length then (if Z9 (ZQ h) l = true then (if denB d = true then (if Yn h l d = true then 0 else 8) else 2) else 3) else 4) else 2
def YO (h : Hul) (l : List Int) (d : Bd) : Flt := if YF h l d = 0 then fltT h l d else flt0
/-! ### How they are read -/
def hrowC (r : HRow) : List Value := [.int .i64 r.draft, .int .i64 r.vol]
def hrowsC (l : List HRow) : List Value := l.flatMap hrowC
def holdC (x : Hold) : List Value := [.int .i64 x.pos, .int .i64 x.lots]
def holdsC (l : List Hold) : List Value := l.flatMap holdC
def secC (p : Sec × (Value × Value)) : List Value := [.int .i64 p.1.len, .int .i64 p.1.light, .int .i64 p.1.trim, p.2.1, p.2.2]
theorem QHw (b : HRow) : (hrowC b).length = 2 := rfl
theorem QEB (b : Hold) : (holdC b).length = 2 := rfl
theorem QC5 (p : Sec × (Value × Value)) : (secC p).length = 5 := rfl
theorem QGF (l : List HRow) : ∀ u ∈ hrowsC l, u.oneCell' = true := flat_one (by intro x u hu; simp [hrowC] at hu; rcases hu with rfl | rfl <;> rfl) l
theorem holdsC_one (l : List Hold) : ∀ u ∈ holdsC l, u.oneCell' = true := flat_one (by intro x u hu; simp [holdC] at hu; rcases hu with rfl | rfl <;> rfl) l
def uu : Value × Value := (undef, undef)
/-- a hull that is read: vs are the curves and the holds of its sections -/
structure RdSecs (w : World) (B : Nat) (v : Value) (l : List Sec) (vs : List (Value × Value)) : Prop where
 len : vs.length = l.length
 rd : Rd w B 5 v l.length ((l.zip vs).flatMap secC)
 curve : ∀ i, i < l.length → Rd w B 2 (vs.getD i uu).1 (l.getD i sec0).curve.length (hrowsC (l.getD i sec0).curve)
 holds : ∀ i, i < l.length → Rd w B 2 (vs.getD i uu).2 (l.getD i sec0).holds.length (holdsC (l.getD i sec0).holds)
section
variable {w w' : World} {B B' : Nat} {v : Value} {l : List Sec} {vs : List (Value × Value)}
theorem RdSecs.keep (h : RdSecs w B v l vs) (hk : ∀ p : Addr, p.block < B → w'.cell? p = w.cell? p) : RdSecs w' B v l vs := ⟨h.len, h.rd.keep hk, fun i hi => (h.curve i hi).keep hk, fun i hi => (h.holds i hi).keep hk⟩
theorem RdSecs.more (h : RdSecs w B v l vs) (hB : B ≤ B') : RdSecs w B' v l vs := ⟨h.len, h.rd.more hB, fun i hi => (h.curve i hi).more hB, fun i hi => (h.holds i hi).more hB⟩
theorem RdSecs.below (h : RdSecs w B v l vs) (hb : Below B w w') : RdSecs w' B v l vs := h.keep fun _ hp => hb.cell hp
theorem RdSecs.go (h : RdSecs w w.heap.size v l vs) (hb : Below w.heap.size w w') : RdSecs w' w'.heap.size v l vs := (h.below hb).more hb.size
theorem RdSecs.shape (h : RdSecs w B v l vs) : ∃ A c, v = .slice A l.length c := by
 obtain ⟨A, c, e, _⟩ := h.rd.shape
 exact ⟨A, c, e⟩
end
/-- the cells of one element of a list that is read -/
theorem QAf {α : Type} {f : α → List Value} {z : Nat} (hz : ∀ x, (f x).length = z) (h0 : 0 < z) (l : List α) (d : α) {k : Nat} (hk : k < l.length) {w : World} {B : Nat} {A : Option Addr} {n c : Nat} (hr : Rd w B z (.slice A n c) n (l.flatMap f)) :
  ∃ b off, A = some ⟨b, off, none⟩ ∧ b < B ∧ ∀ j u, (f (l.getD k d))[j]? = some u → w.cell? ⟨b, off + k * z + j, none⟩ = some u := by
 have hl : n * z = l.length * z := by rw [← hr.len, flat_len hz l]
 have hn : n = l.length := Nat.eq_of_mul_eq_mul_right h0 hl;obtain ⟨b, off, rfl, hb, hc⟩ := hr.at_ (by omega)
 refine ⟨b, off, rfl, hb, fun j u hu => ?_⟩
 rw [Ym hk] at hu;have hj : j < z := by
  have := (List.getElem?_eq_some_iff.1 hu).1;rw [hz] at this
  exact this
 have g := flat_get hz l k hk j hj;rw [hu] at g;have := hc (k * z + j) u g;rw [← Nat.add_assoc] at this
 exact this
structure HRowAt (w : World) (b o : Nat) (s : HRow) : Prop where
 c0 : w.cell? ⟨b, o, none⟩ = some (.int .i64 s.draft)
 c1 : w.cell? ⟨b, o + 1, none⟩ = some (.int .i64 s.vol)
theorem YG (l : List HRow) (k : Nat) (hk : k < l.length) (w : World) (B : Nat) (A : Option Addr) (n c : Nat) (hr : Rd w B 2 (.slice A n c) n (hrowsC l)) :
  ∃ b off, A = some ⟨b, off, none⟩ ∧ b < B ∧ HRowAt w b (off + k * 2) (l.getD k ZP) := by
 obtain ⟨b, off, h1, h2, h3⟩ := QAf QHw (by omega) l ZP hk hr
 exact ⟨b, off, h1, h2, h3 0 _ rfl, h3 1 _ rfl⟩
structure HoldAt (w : World) (b o : Nat) (s : Hold) : Prop where
 c0 : w.cell? ⟨b, o, none⟩ = some (.int .i64 s.pos)
 c1 : w.cell? ⟨b, o + 1, none⟩ = some (.int .i64 s.lots)
theorem Yd (l : List Hold) (k : Nat) (hk : k < l.length) (w : World) (B : Nat) (A : Option Addr) (n c : Nat) (hr : Rd w B 2 (.slice A n c) n (holdsC l)) :
  ∃ b off, A = some ⟨b, off, none⟩ ∧ b < B ∧ HoldAt w b (off + k * 2) (l.getD k YE) := by
 obtain ⟨b, off, h1, h2, h3⟩ := QAf QEB (by omega) l YE hk hr
 exact ⟨b, off, h1, h2, h3 0 _ rfl, h3 1 _ rfl⟩
structure SecAt (w : World) (b o : Nat) (s : Sec) (p : Value × Value) : Prop where
 c0 : w.cell? ⟨b, o, none⟩ = some (.int .i64 s.len)
 c1 : w.cell? ⟨b, o + 1, none⟩ = some (.int .i64 s.light)
 c2 : w.cell? ⟨b, o + 2, none⟩ = some (.int .i64 s.trim)
 c3 : w.cell? ⟨b, o + 3, none⟩ = some p.1
 c4 : w.cell? ⟨b, o + 4, none⟩ = some p.2
theorem RdSecs.cells {w : World} {B : Nat} {A : Option Addr} {n c : Nat} {l : List Sec} {vs : List (Value × Value)} (h : RdSecs w B (.slice A n c) l vs) (k : Nat) (hk : k < l.length) :
  ∃ b off, A = some ⟨b, off, none⟩ ∧ b < B ∧ SecAt w b (off + k * 5) (l.getD k sec0) (vs.getD k uu) := by
 have hz : (l.zip vs).length = l.length := by simp [h.len]
 obtain ⟨A', c', e, _⟩ := h.rd.shape
 injection e with e1 e2 e3
 subst e1; subst e2; subst e3;obtain ⟨b, off, h1, h2, h3⟩ := QAf QC5 (by omega) (l.zip vs) (sec0, uu) (hz ▸ hk) h.rd
 have e : (l.zip vs).getD k (sec0, uu) = (l.getD k sec0, vs.getD k uu) := by
  have hv : k < vs.length := by rw [h.len]; exact hk
  rw [Ym hk, Ym hv, Ym (show k < (l.zip vs).length by omega), List.getElem_zip]
 rw [e] at h3
 exact ⟨b, off, h1, h2, h3 0 _ rfl, h3 1 _ rfl, h3 2 _ rfl, h3 3 _ rfl, h3 4 _ rfl⟩
theorem Yz (l : List Int) (k : Nat) (hk : k < l.length) (w : World) (B : Nat) (A : Option Addr) (n c : Nat) (hr : Rd w B 1 (.slice A n c) n (ints l)) :
  ∃ b off, A = some ⟨b, off, none⟩ ∧ b < B ∧ w.cell? ⟨b, off + k, none⟩ = some (.int .i64 (l.getD k 0)) := by
 have hl : n * 1 = l.length := by rw [← hr.len, ints_len]
 obtain ⟨b, off, rfl, hb, hc⟩ := hr.at_ (by omega)
 have e : l.getD k 0 = l[k] := by simp [hk]
 rw [e]
 exact ⟨b, off, rfl, hb, hc k _ (by simp [ints, hk])⟩
theorem QCQ (l : List HRow) (k : Nat) : YM l (k + 1) = (YM l k && QC1 (l.getD k ZP) (l.getD (k + 1) ZP)) := by
 unfold YM
 rw [List.range_succ, List.all_append]
 simp
theorem QE8 {l : List HRow} {n : Nat} (h : YM l n = true) {k : Nat} (hk : k < n) : QC1 (l.getD k ZP) (l.getD (k + 1) ZP) = true := by
 unfold YM at h
 exact List.all_eq_true.1 h k (List.mem_range.2 hk)
theorem QIK {l : List HRow} {n k : Nat} (hk : k < n) (h : QC1 (l.getD k ZP) (l.getD (k + 1) ZP) = false) : YM l n = false := by
 cases h1 : YM l n with
 | false => rfl
 | true => rw [QE8 h1 hk] at h; cases h
theorem QFz {l : List HRow} {n k : Nat} (h : YM l n = true) (hk : k ≤ n) : YM l k = true := by
 unfold YM at h ⊢
 exact List.all_eq_true.2 fun i hi => List.all_eq_true.1 h i (List.mem_range.2 (by have := List.mem_range.1 hi; omega))
theorem QC0 {l : List HRow} (h0 : (l.getD 0 ZP).draft = 0) (h1 : (l.getD 0 ZP).vol = 0) : ∀ k, YM l k = true → (0 ≤ (l.getD k ZP).draft ∧ (l.getD k ZP).draft ≤ 1000) ∧ 0 ≤ (l.getD k ZP).vol ∧ (l.getD k ZP).vol ≤ 100000
 | 0, _ => by rw [h0, h1]; omega
 | k + 1, h => by
  rw [QCQ, Bool.and_eq_true] at h;have h2 := QC0 h0 h1 k h.1;have h3 := h.2
  simp only [QC1, Bool.and_eq_true, inB_iff] at h3
  omega
/-- what a valid table is -/
structure CurveOk (c : List HRow) : Prop where
 len : 2 ≤ c.length ∧ c.length ≤ 20
 d0 : (c.getD 0 ZP).draft = 0
 v0 : (c.getD 0 ZP).vol = 0
 steps : YM c (c.length - 1) = true
theorem QCO {c : List HRow} (h : YP c = true) : CurveOk c := by
 simp only [YP, Bool.and_eq_true, inB_iff, decide_eq_true_eq] at h
 exact ⟨by omega, h.2.1.1, h.2.1.2, h.2.2⟩
theorem CurveOk.bd {c : List HRow} (h : CurveOk c) {k : Nat} (hk : k < c.length) : (0 ≤ (c.getD k ZP).draft ∧ (c.getD k ZP).draft ≤ 1000) ∧ 0 ≤ (c.getD k ZP).vol ∧ (c.getD k ZP).vol ≤ 100000 :=
 QC0 h.d0 h.v0 k (QFz h.steps (by omega))
theorem CurveOk.up {c : List HRow} (h : CurveOk c) {k : Nat} (hk : k + 1 < c.length) : (c.getD k ZP).draft < (c.getD (k + 1) ZP).draft ∧ (c.getD k ZP).vol < (c.getD (k + 1) ZP).vol := by
 have h1 := QE8 h.steps (k := k) (by omega)
 simp only [QC1, Bool.and_eq_true, inB_iff] at h1
 omega
theorem CurveOk.mono {c : List HRow} (h : CurveOk c) {i : Nat} : ∀ {j : Nat}, i ≤ j → j < c.length → (c.getD i ZP).draft ≤ (c.getD j ZP).draft ∧ (c.getD i ZP).vol ≤ (c.getD j ZP).vol
 | 0, h1, _ => by rw [show i = 0 by omega]; omega
 | j + 1, h1, h2 => by
  by_cases e : i = j + 1
  ·rw [e]; omega
  ·have h3 := h.mono (i := i) (j := j) (by omega) (by omega)
   have h4 := h.up h2
   omega
/-- where a draft lies in a table -/
theorem CurveOk.at_ {c : List HRow} (h : CurveOk c) {d : Int} (h0 : 0 ≤ d) (h1 : d ≤ Ya c) : atS c d + 1 < c.length ∧ d ≤ (c.getD (atS c d + 1) ZP).draft ∧ (c.getD (atS c d) ZP).draft ≤ d := by
 have h2 := h.len;have h3 : atS c d ≤ c.length - 2 := by
  unfold atS
  exact QEj (by omega) (decide_eq_true (by unfold Ya at h1; rw [show c.length - 2 + 1 = c.length - 1 by omega]; exact h1))
 have ⟨h4, h5⟩ := fstN_is (fun i => decide (d ≤ (c.getD (i + 1) ZP).draft)) (c.length - 1)
 refine ⟨by omega, ?_, ?_⟩
 ·have := h5 (show atS c d < _ by omega)
  exact of_decide_eq_true this
 ·by_cases e : atS c d = 0
  ·rw [e, h.d0]; exact h0
  ·have := h4 (atS c d - 1) (show _ < atS c d by omega)
   have := of_decide_eq_false this;rw [show atS c d - 1 + 1 = atS c d by omega] at this
   omega
theorem YA {α : Type} {l : List α} {d : α} {i : Nat} (hi : i < l.length) : l.take (i + 1) = l.take i ++ [l.getD i d] := by
 rw [List.take_succ_eq_append_getElem hi, Ym hi]
theorem QCz (f : Sec → Int) (l r : List Sec) : sumS f (l ++ r) = sumS f l + sumS f r := by simp [sumS, List.sum_append]
theorem QII (f : Sec → Int) (s : Sec) : sumS f [s] = f s := by simp [sumS]
theorem Yb (f : Sec → Int) {l : List Sec} {i : Nat} (hi : i < l.length) : sumS f (l.take (i + 1)) = sumS f (l.take i) + f (l.getD i sec0) := by
 rw [YA (d := sec0) hi, QCz, QII]
theorem Yc (f : Sec → Int) (s : Sec) (l : List Sec) : sumS f (s :: l) = f s + sumS f l := by simp [sumS]
theorem QAJ {f : Sec → Int} {lo hi : Int} : ∀ {l : List Sec}, (∀ s ∈ l, lo ≤ f s ∧ f s ≤ hi) → lo * (l.length : Nat) ≤ sumS f l ∧ sumS f l ≤ hi * (l.length : Nat)
 | [], _ => by simp [sumS]
 | s :: l, h => by
  have h1 := h s (by simp)
  have h2 := QAJ (l := l) fun x hx => h x (by simp [hx])
  rw [Yc, List.length_cons, Int.natCast_add, Int.mul_add, Int.mul_add]
  simp only [Int.natCast_one, Int.mul_one] at *
  omega
theorem QHp {l : List Sec} {i : Nat} (hi : i < l.length) : limS (l.take (i + 1)) = min (limS (l.take i)) (Ya (l.getD i sec0).curve) := by
 rw [YA (d := sec0) hi, limS, List.foldl_append]
 rfl
theorem QFK (long : Int) : ∀ (l r : List Sec) (a : Int), momS long a (l ++ r) = momS long a l + momS long (a + sumS Sec.len l) r
 | [], r, a => by simp [momS, sumS]
 | s :: l, r, a => by rw [List.cons_append, momS, QFK long l r, momS, Yc, Int.add_assoc a, Int.add_assoc]
theorem QHg (long : Int) {l : List Sec} {i : Nat} (hi : i < l.length) : momS long 0 (l.take (i + 1)) = momS long 0 (l.take i) + (l.getD i sec0).light * (2 * sumS Sec.len (l.take i) + (l.getD i sec0).len - long) := by
 rw [YA (d := sec0) hi, QFK]
 simp [momS]
theorem QEH (long : Int) : ∀ (l r : List Sec) (a : Int), armsS long a (l ++ r) = armsS long a l ++ armsS long (a + sumS Sec.len l) r
 | [], r, a => by simp [armsS, sumS]
 | s :: l, r, a => by rw [List.cons_append, armsS, QEH long l r, armsS, Yc, Int.add_assoc a, List.append_assoc]
theorem QGT (long : Int) {l : List Sec} {i : Nat} (hi : i < l.length) : armsS long 0 (l.take (i + 1)) = armsS long 0 (l.take i) ++ (l.getD i sec0).holds.map (armH long (sumS Sec.len (l.take i))) := by
 rw [YA (d := sec0) hi, QEH]
 simp [armsS]
theorem QBM (long : Int) : ∀ (l : List Sec) (a : Int), ((armsS long a l).length : Int) = YX l
 | [], _ => rfl
 | s :: l, a => by
  have := QBM long l (a + s.len)
  unfold YX at this ⊢
  rw [armsS, List.length_append, List.length_map, Yc]
  omega
theorem QGB {l : List Sec} {i : Nat} : YX (l.take i) ≤ YX l := by
 have h : YX l = YX (l.take i) + YX (l.drop i) := by
  unfold YX
  rw [← QCz, List.take_append_drop]
 have h2 : 0 ≤ YX (l.drop i) := by
  have := (QAJ (f := fun s => (s.holds.length : Nat)) (lo := 0) (hi := 9223372036854775807000) (l := []) (by simp)).1
  rw [← QBM 0 (l.drop i) 0]
  exact Int.natCast_nonneg _
 omega
/-- what a valid section is -/
structure SecOk (s : Sec) : Prop where
 len : 1 ≤ s.len ∧ s.len ≤ 100
 light : 0 ≤ s.light ∧ s.light ≤ 10000
 trim : 1 ≤ s.trim ∧ s.trim ≤ 100000
 curve : CurveOk s.curve
 holds : ∀ x ∈ s.holds, (0 ≤ x.pos ∧ x.pos ≤ s.len) ∧ 0 ≤ x.lots ∧ x.lots ≤ 20
theorem QF2 {s : Sec} (h : secB s = true) : SecOk s := by
 simp only [secB, Bool.and_eq_true, inB_iff] at h
 refine ⟨h.1, h.2.1, h.2.2.1, QCO h.2.2.2.1, fun x hx => ?_⟩
 have := List.all_eq_true.1 h.2.2.2.2 x hx
 simp only [QDV, Bool.and_eq_true, inB_iff] at this
 exact this
theorem SecOk.last {s : Sec} (h : SecOk s) : 1 ≤ Ya s.curve ∧ Ya s.curve ≤ 1000 := by
 have h1 := h.curve.len;have h2 := h.curve.bd (k := s.curve.length - 1) (by omega)
 have h3 := h.curve.up (k := 0) (by omega)
 have h4 := h.curve.mono (i := 0 + 1) (j := s.curve.length - 1) (by omega) (by omega)
 have h5 := h.curve.d0
 unfold Ya
 omega
structure SecsOk (l : List Sec) (n : Nat) : Prop where
 long : 0 ≤ sumS Sec.len l ∧ sumS Sec.len l ≤ 100 * n
 light : 0 ≤ sumS Sec.light l ∧ sumS Sec.light l ≤ 10000 * n
 trim : 0 ≤ sumS Sec.trim l ∧ sumS Sec.trim l ≤ 100000 * n
 lim : 1 ≤ limS l ∧ limS l ≤ 1000
theorem QAa {l : List Sec} {n : Nat} (h : ∀ s ∈ l, SecOk s) (hn : l.length ≤ n) : SecsOk l n := by
 have h1 := QAJ (f := Sec.len) (lo := 0) (hi := 100) fun s hs => by have := (h s hs).len; omega
 have h2 := QAJ (f := Sec.light) (lo := 0) (hi := 10000) fun s hs => by have := (h s hs).light; omega
 have h3 := QAJ (f := Sec.trim) (lo := 0) (hi := 100000) fun s hs => by have := (h s hs).trim; omega
 refine ⟨by omega, by omega, by omega, ?_⟩
 have key : ∀ (l : List Sec) (m : Int), (∀ s ∈ l, SecOk s) → 1 ≤ m → m ≤ 1000 → 1 ≤ l.foldl (fun m s => min m (Ya s.curve)) m ∧ l.foldl (fun m s => min m (Ya s.curve)) m ≤ 1000 := by
  intro l
  induction l with
  | nil => intro m _ h1 h2; exact ⟨h1, h2⟩
  | cons s l ih =>
   intro m hs h1 h2;have := (hs s (by simp)).last
   rw [List.foldl_cons]
   exact ih _ (fun x hx => hs x (by simp [hx])) (by omega) (by omega)
 exact key l 1000 h (by omega) (by omega)
theorem QEd {l : List Sec} : ∀ s ∈ l, limS l ≤ Ya s.curve := by
 have key : ∀ (l : List Sec) (m : Int), l.foldl (fun m s => min m (Ya s.curve)) m ≤ m ∧ ∀ s ∈ l, l.foldl (fun m s => min m (Ya s.curve)) m ≤ Ya s.curve := by
  intro l
  induction l with
  | nil => intro m; exact ⟨Int.le_refl _, by simp⟩
  | cons s l ih =>
   intro m;rw [List.foldl_cons];have h := ih (min m (Ya s.curve));refine ⟨by omega, fun x hx => ?_⟩
   rcases List.mem_cons.1 hx with rfl | hx
   ·omega
   ·exact h.2 x hx
 exact (key l 1000).2
theorem QEi {a b A B : Int} (h1 : 0 ≤ a) (h2 : a ≤ A) (h3 : -B ≤ b) (h4 : b ≤ B) : -(A * B) ≤ a * b ∧ a * b ≤ A * B := by
 have hA : 0 ≤ A := by omega
 have hB : 0 ≤ B := by omega
 constructor
 ·have k1 : a * (-B) ≤ a * b := Int.mul_le_mul_of_nonneg_left h3 h1
  have k2 : a * B ≤ A * B := Int.mul_le_mul_of_nonneg_right h2 hB;rw [Int.mul_neg] at k1
  omega
 ·have k1 : a * b ≤ a * B := Int.mul_le_mul_of_nonneg_left h4 h1
  have k2 : a * B ≤ A * B := Int.mul_le_mul_of_nonneg_right h2 hB
  omega
theorem QEZ {long : Int} (hl : 0 ≤ long ∧ long ≤ 200) : ∀ (l : List Sec) (a : Int), (∀ s ∈ l, SecOk s) → 0 ≤ a → a + sumS Sec.len l ≤ 200 → -(7000000 * (l.length : Nat)) ≤ momS long a l ∧ momS long a l ≤ 7000000 * (l.length : Nat)
 | [], _, _, _, _ => by simp [momS]
 | s :: l, a, h, ha, hs => by
  have h1 := h s (by simp)
  have h2 := (QAa (n := l.length) (fun x hx => h x (List.mem_cons_of_mem _ hx)) (Nat.le_refl _)).long
  rw [Yc] at hs;have h3 := QEZ hl l (a + s.len) (fun x hx => h x (List.mem_cons_of_mem _ hx)) (by have := h1.len; omega) (by omega)
  have h4 := QEi (a := s.light) (A := 10000) (b := 2 * a + s.len - long) (B := 700) h1.light.1 h1.light.2 (by have := h1.len; omega) (by have := h1.len; omega)
  rw [momS, List.length_cons, Int.natCast_add, Int.mul_add]
  simp only [Int.natCast_one, Int.mul_one] at *
  omega
/-- what a valid hull is -/
structure HulOk (h : Hul) : Prop where
 lot : 1 ≤ h.lot ∧ h.lot ≤ 1000
 some : 1 ≤ h.secs.length ∧ h.secs.length ≤ 6
 secs : ∀ s ∈ h.secs, SecOk s
 long : sumS Sec.len h.secs ≤ 200
 many : YX h.secs ≤ 4
theorem QBb {h : Hul} (hh : hulB h = true) : HulOk h := by
 simp only [hulB, Bool.and_eq_true, inB_iff, decide_eq_true_eq] at hh
 exact ⟨hh.1.1, by omega, fun s hs => QF2 (List.all_eq_true.1 hh.2.1 s hs), hh.2.2.1, hh.2.2.2⟩
theorem QBt {h : Hul} : inB 1 1000 h.lot = false ∨ inB 1 6 (h.secs.length : Nat) = false ∨ h.secs.all secB = false ∨ 200 < sumS Sec.len h.secs ∨ 4 < YX h.secs → hulB h = false := fun hh => by
 unfold hulB
 rcases hh with e | e | e | e | e
 ·rw [e]; rfl
 ·rw [e, Bool.and_false]; rfl
 ·rw [e]; simp
 ·rw [decide_eq_false (by omega : ¬ sumS Sec.len h.secs ≤ 200)]; simp
 ·rw [decide_eq_false (by omega : ¬ YX h.secs ≤ 4)]; simp
theorem QGG (l r : List Hold) : holdsC (l ++ r) = holdsC l ++ holdsC r := by simp [holdsC]
theorem QKY {l : List Sec} {i : Nat} (hi : i < l.length) (h : secB (l.getD i sec0) = false) : l.all secB = false := by
 cases e : l.all secB with
 | false => rfl
 | true => rw [List.all_eq_true.1 e _ (getD_mem hi)] at h; cases h
/-- the cells of a ship -/
def QGf (h : Hul) (v hv : Value) : Array Value := #[.int .i64 h.lot, v, hv, .int .i64 (sumS Sec.len h.secs), .int .i64 (sumS Sec.light h.secs), .int .i64 (momS (sumS Sec.len h.secs) 0 h.secs), .int .i64 (sumS Sec.trim h.secs), .int .i64 (limS h.secs)]
/-- sections whose tables and holds are not too many -/
def Zq (l : List Sec) : Prop := ∀ s ∈ l, s.curve.length ≤ 1048576 ∧ s.holds.length ≤ 1048576
theorem QFM {l : List Sec} (h : Zq l) (k : Nat) (hk : l.length ≤ 6) : 0 ≤ YX (l.take k) ∧ YX (l.take k) ≤ 6291456 := by
 have h1 := QAJ (f := fun s => ((s.holds.length : Nat) : Int)) (lo := 0) (hi := 1048576) (l := l.take k) fun s hs => by have := h s (List.mem_of_mem_take hs); omega
 have h2 : (l.take k).length ≤ 6 := by rw [List.length_take]; omega
 unfold YX
 omega
theorem QJc {l : List Sec} {k : Nat} (hk : k < l.length) : (l.take (k + 1)).all secB = ((l.take k).all secB && secB (l.getD k sec0)) := by
 rw [YA (d := sec0) hk, List.all_append]
 simp
theorem QJn {l : List Sec} (h : l.all secB = true) : ∀ s ∈ l, SecOk s := fun s hs => QF2 (List.all_eq_true.1 h s hs)
theorem QHO {h : Hul} (hh : HulOk h) {k : Nat} (hk : k < h.secs.length) : sumS Sec.len (h.secs.take k) + (h.secs.getD k sec0).len ≤ sumS Sec.len h.secs := by
 have h1 : sumS Sec.len h.secs = sumS Sec.len (h.secs.take (k + 1)) + sumS Sec.len (h.secs.drop (k + 1)) := by rw [← QCz, List.take_append_drop]
 have h2 := (QAa (n := (h.secs.drop (k + 1)).length) (l := h.secs.drop (k + 1)) (fun s hs => hh.secs s (List.mem_of_mem_drop hs)) (Nat.le_refl _)).long
 rw [Yb Sec.len hk] at h1
 omega
theorem QJZ (long at_ : Int) (xs : List Hold) {l : List Hold} {j : Nat} (hj : j < l.length) : xs ++ (l.take (j + 1)).map (armH long at_) = xs ++ (l.take j).map (armH long at_) ++ [armH long at_ (l.getD j YE)] := by
 rw [YA (d := YE) hj, List.map_append, List.append_assoc]
 rfl
theorem QJY {h : Hul} (hh : HulOk h) {long at_ : Int} {k j : Nat} (hk : k < h.secs.length) : (armsS long 0 (h.secs.take k) ++ ((h.secs.getD k sec0).holds.take j).map (armH long at_)).length ≤ 4 := by
 have h1 := QBM long (h.secs.take k) 0;have h2 := QGB (l := h.secs) (i := k + 1);have h3 := hh.many;have h4 : YX (h.secs.take (k + 1)) = YX (h.secs.take k) + ((h.secs.getD k sec0).holds.length : Nat) := Yb (fun s => ((s.holds.length : Nat) : Int)) hk
 rw [List.length_append, List.length_map, List.length_take]
 omega
theorem QCn {n m k : Int} (hm : 0 < m) (h : n ≤ k * m) : n / m ≤ k := by
 have h1 := Int.ediv_le_ediv hm h
 rwa [Int.mul_ediv_cancel _ (by omega)] at h1
/-- a volume within one step of a table -/
def segV (a b : HRow) (d : Int) : Int := a.vol + (d - a.draft) * (b.vol - a.vol) / (b.draft - a.draft)
theorem QCi {a b : HRow} {d : Int} (h1 : a.draft < b.draft) (h2 : a.vol < b.vol) (h3 : a.draft ≤ d) (h4 : d ≤ b.draft) : a.vol ≤ segV a b d ∧ segV a b d ≤ b.vol := by
 unfold segV
 have h5 : 0 ≤ (d - a.draft) * (b.vol - a.vol) := Int.mul_nonneg (by omega) (by omega)
 have h6 : 0 ≤ (d - a.draft) * (b.vol - a.vol) / (b.draft - a.draft) := Int.ediv_nonneg h5 (by omega)
 have h7 : (d - a.draft) * (b.vol - a.vol) / (b.draft - a.draft) ≤ b.vol - a.vol := by
  refine QCn (by omega) ?_
  rw [Int.mul_comm (b.vol - a.vol)]
  exact Int.mul_le_mul_of_nonneg_right (by omega) (by omega)
 omega
theorem QHP {a b : HRow} {d d' : Int} (h1 : a.draft < b.draft) (h2 : a.vol < b.vol) (h3 : d ≤ d') : segV a b d ≤ segV a b d' := by
 unfold segV
 have h4 : (d - a.draft) * (b.vol - a.vol) ≤ (d' - a.draft) * (b.vol - a.vol) := Int.mul_le_mul_of_nonneg_right (by omega) (by omega)
 have h5 := Int.ediv_le_ediv (show 0 < b.draft - a.draft by omega) h4
 omega
theorem QCw (c : List HRow) (d : Int) : volC c d = segV (c.getD (atS c d) ZP) (c.getD (atS c d + 1) ZP) d := rfl
theorem QJX {c : List HRow} (h : CurveOk c) {d d' : Int} (h0 : 0 ≤ d) (h1 : d ≤ d') (h2 : d' ≤ Ya c) : atS c d ≤ atS c d' := by
 have h3 := h.at_ (d := d') (by omega) h2
 unfold atS at h3 ⊢
 exact QEj (by omega) (decide_eq_true (by omega))
theorem QHL {c : List HRow} (h : CurveOk c) {d d' : Int} (h0 : 0 ≤ d) (h1 : d ≤ d') (h2 : d' ≤ Ya c) : volC c d ≤ volC c d' := by
 have h3 := h.at_ (d := d) h0 (by omega)
 have h4 := h.at_ (d := d') (by omega) h2
 have h5 := QJX h h0 h1 h2;have u1 := h.up h3.1;have u2 := h.up h4.1;rw [QCw, QCw]
 by_cases e : atS c d = atS c d'
 ·rw [e] at u1 ⊢
  exact QHP u1.1 u1.2 h1
 ·have b1 := (QCi u1.1 u1.2 h3.2.2 h3.2.1).2
  have b2 := (QCi u2.1 u2.2 h4.2.2 h4.2.1).1;have b3 := (h.mono (i := atS c d + 1) (j := atS c d') (by omega) (by omega)).2
  omega
theorem QEM {c : List HRow} (h : CurveOk c) {d : Int} (h0 : 0 ≤ d) (h2 : d ≤ Ya c) : 0 ≤ volC c d ∧ volC c d ≤ 100000 := by
 have h3 := h.at_ (d := d) h0 h2;have u1 := h.up h3.1;have b1 := QCi u1.1 u1.2 h3.2.2 h3.2.1;have b2 := h.bd h3.1;have b3 := h.bd (k := atS c d) (by omega)
 rw [QCw]
 omega
/-- what is reckoned on the way -/
theorem QID {c : List HRow} (h : CurveOk c) {d : Int} (h0 : 0 ≤ d) (h2 : d ≤ Ya c) :
  (0 ≤ d - (c.getD (atS c d) ZP).draft ∧ d - (c.getD (atS c d) ZP).draft ≤ 1000) ∧
  (0 ≤ (c.getD (atS c d + 1) ZP).vol - (c.getD (atS c d) ZP).vol ∧ (c.getD (atS c d + 1) ZP).vol - (c.getD (atS c d) ZP).vol ≤ 100000) ∧
  (0 ≤ (d - (c.getD (atS c d) ZP).draft) * ((c.getD (atS c d + 1) ZP).vol - (c.getD (atS c d) ZP).vol) ∧ (d - (c.getD (atS c d) ZP).draft) * ((c.getD (atS c d + 1) ZP).vol - (c.getD (atS c d) ZP).vol) ≤ 1000 * 100000) ∧
  (1 ≤ (c.getD (atS c d + 1) ZP).draft - (c.getD (atS c d) ZP).draft ∧ (c.getD (atS c d + 1) ZP).draft - (c.getD (atS c d) ZP).draft ≤ 1000) := by
 have h3 := h.at_ (d := d) h0 h2;have u1 := h.up h3.1;have b2 := h.bd h3.1;have b3 := h.bd (k := atS c d) (by omega)
 have k1 : 0 ≤ d - (c.getD (atS c d) ZP).draft ∧ d - (c.getD (atS c d) ZP).draft ≤ 1000 := by omega
 have k2 : 0 ≤ (c.getD (atS c d + 1) ZP).vol - (c.getD (atS c d) ZP).vol ∧ (c.getD (atS c d + 1) ZP).vol - (c.getD (atS c d) ZP).vol ≤ 100000 := by omega
 exact ⟨k1, k2, ⟨Int.mul_nonneg k1.1 k2.1, Int.mul_le_mul k1.2 k2.2 k2.1 (by omega)⟩, by omega, by omega⟩
theorem QD2 {f g : Sec → Int} : ∀ {l : List Sec}, (∀ s ∈ l, f s ≤ g s) → sumS f l ≤ sumS g l
 | [], _ => Int.le_refl _
 | s :: l, h => by
  have h1 := h s (by simp)
  have h2 := QD2 (l := l) fun x hx => h x (by simp [hx])
  rw [Yc, Yc]
  omega
theorem HulOk.lim {h : Hul} (hh : HulOk h) : 1 ≤ limS h.secs ∧ limS h.secs ≤ 1000 := (QAa (n := 6) hh.secs hh.some.2).lim
theorem QHK {h : Hul} (hh : HulOk h) {d d' : Int} (h0 : 0 ≤ d) (h1 : d ≤ d') (h2 : d' ≤ limH h) : volH h d ≤ volH h d' :=
 QD2 fun s hs => QHL (hh.secs s hs).curve h0 h1 (Int.le_trans h2 (QEd s hs))
theorem QHJ {h : Hul} (hh : HulOk h) {d : Int} (h0 : 0 ≤ d) (h2 : d ≤ limH h) (k : Nat) : 0 ≤ sumS (fun s => volC s.curve d) (h.secs.take k) ∧ sumS (fun s => volC s.curve d) (h.secs.take k) ≤ 600000 := by
 have := QAJ (f := fun s => volC s.curve d) (lo := 0) (hi := 100000) (l := h.secs.take k) fun s hs => QEM (hh.secs s (List.mem_of_mem_take hs)).curve h0 (Int.le_trans h2 (QEd s (List.mem_of_mem_take hs)))
 have h3 := hh.some.2;have h4 : (h.secs.take k).length ≤ 6 := by rw [List.length_take]; omega
 omega
/-! ### What is true from one number on -/
def UpB (p : Nat → Bool) (n : Nat) : Prop := ∀ i j, i ≤ j → j < n → p i = true → p j = true
theorem QIF {p : Nat → Bool} {n : Nat} (h : UpB p n) {i : Nat} (hi : i < n) : p i = true ↔ fstN p n ≤ i := by
 constructor
 ·exact QEj hi
 ·intro h1
  exact h _ i h1 hi ((fstN_is p n).2 (by omega))
theorem up_vol {h : Hul} (hh : HulOk h) (need : Int) : UpB (fun d => decide (need ≤ volH h d)) (limH h + 1).toNat := fun i j h1 h2 h3 => by
 have h4 := of_decide_eq_true h3;have h5 := QHK hh (d := i) (d' := j) (by omega) (by omega) (by omega)
 exact decide_eq_true (by omega)
theorem QLJ {c : List HRow} (h : CurveOk c) (d : Int) : UpB (fun i => decide (d ≤ (c.getD (i + 1) ZP).draft)) (c.length - 1) := fun i j h1 h2 h3 => by
 have h4 := of_decide_eq_true h3;have h5 := (h.mono (i := i + 1) (j := j + 1) (by omega) (by omega)).1
 exact decide_eq_true (by omega)
structure Plate where
 thick : Bd
 wear : Bd
def Zp : Plate := ⟨bd0, bd0⟩
def Zk (p : Plate) : Bool := bdOk 0 100000 p.thick && bdOk 0 1000 p.wear
def Yo (thick wear least : Int) : Int := if thick < least then -1 else if wear = 0 then 1000 else min ((thick - least) / wear) 1000
def yLo (least : Int) (p : Plate) : Int := Yo p.thick.lo p.wear.hi least
def yHi (least : Int) (p : Plate) : Int := Yo p.thick.hi p.wear.lo least
/-- the least numbers of years of the first k plates, and the first plate that has the lower one -/
structure LifeV where
 lo : Int
 hi : Int
 plate : Int
def Yh (least : Int) (s : LifeV) (p : Plate) (k : Int) : LifeV := if yLo least p < s.lo then ⟨yLo least p, min s.hi (yHi least p), k⟩ else ⟨s.lo, min s.hi (yHi least p), s.plate⟩
def Z4 (b0 least : Int) (l : List Plate) : Nat → LifeV
 | 0 => ⟨b0, b0, 0⟩
 | k + 1 => Yh least (Z4 b0 least l k) (l.getD k Zp) k
def QLV (l : List Plate) (least : Int) : LifeV := Z4 1001 least l l.length
def YS (l : List Plate) (least : Int) : Int := if l.length = 0 then 4 else if 50 < l.length then 5 else if l.all Zk = false then 2 else if inB 0 100000 least = false then 3 else 0
theorem QBe (t w m : Int) (hw : 0 ≤ w) : -1 ≤ Yo t w m ∧ Yo t w m ≤ 1000 := by
 unfold Yo
 by_cases h1 : t < m
 ·rw [if_pos h1]; omega
 ·rw [if_neg h1]
  by_cases h2 : w = 0
  ·rw [if_pos h2]; omega
  ·rw [if_neg h2]
   have : 0 ≤ (t - m) / w := Int.ediv_nonneg (by omega) (by omega)
   omega
/-- the number of years is where the count stops -/
theorem QCt {t w m y : Int} (hw : 0 ≤ w) (h1 : -1 ≤ y) (h2 : y ≤ 1000) (h3 : y = -1 ∨ m ≤ t - y * w) (h4 : y = 1000 ∨ t - (y + 1) * w < m) : Yo t w m = y := by
 unfold Yo
 by_cases e : y = -1
 ·subst e
  rcases h4 with h | h
  ·omega
  ·rw [show (-1 + 1 : Int) = 0 by omega, Int.zero_mul] at h
   rw [if_pos (by omega)]
 ·have h3 : m ≤ t - y * w := by rcases h3 with h | h; exact absurd h e; exact h
  have h5 : 0 ≤ y * w := Int.mul_nonneg (by omega) hw
  rw [if_neg (by omega)]
  by_cases e2 : w = 0
  ·subst e2
   rw [if_pos rfl]
   rcases h4 with h | h
   ·exact h.symm
   ·rw [Int.mul_zero] at h h3; omega
  ·rw [if_neg e2]
   have h6 : y ≤ (t - m) / w := (Int.le_ediv_iff_mul_le (by omega)).2 (by omega)
   rcases h4 with h | h
   ·omega
   ·have h7 : (t - m) / w < y + 1 := (Int.ediv_lt_iff_lt_mul (by omega)).2 (by omega)
    omega
theorem QDR {b0 least : Int} {l : List Plate} (hb : 1000 < b0) (hl : ∀ p ∈ l, Zk p = true) : ∀ k, k ≤ l.length → (-1 ≤ (Z4 b0 least l k).lo ∧ (Z4 b0 least l k).lo ≤ b0) ∧ (-1 ≤ (Z4 b0 least l k).hi ∧ (Z4 b0 least l k).hi ≤ b0) ∧ 0 ≤ (Z4 b0 least l k).plate ∧ (Z4 b0 least l k).plate ≤ k
 | 0, _ => ⟨⟨by show -1 ≤ b0; omega, Int.le_refl _⟩, ⟨by show -1 ≤ b0; omega, Int.le_refl _⟩, Int.le_refl _, Int.le_refl _⟩
 | k + 1, hk => by
  have h := QDR (least := least) hb hl k (by omega)
  have hp := hl _ (getD_mem (d := Zp) (show k < l.length by omega))
  simp only [Zk, bdOk, Bool.and_eq_true, inB_iff, decide_eq_true_eq] at hp
  have y1 := QBe (l.getD k Zp).thick.lo (l.getD k Zp).wear.hi least (by omega)
  have y2 := QBe (l.getD k Zp).thick.hi (l.getD k Zp).wear.lo least (by omega)
  rw [Z4, Yh]
  unfold yLo yHi
  split <;> (simp only; omega)
theorem Yx {least : Int} {s : LifeV} {p : Plate} {k : Int} (h : yLo least p < s.lo) : Yh least s p k = ⟨yLo least p, min s.hi (yHi least p), k⟩ := if_pos h
theorem QAN {least : Int} {s : LifeV} {p : Plate} {k : Int} (h : ¬ yLo least p < s.lo) : Yh least s p k = ⟨s.lo, min s.hi (yHi least p), s.plate⟩ := if_neg h
theorem QEW {p : Plate} (h : Zk p = true) (least : Int) : (-1 ≤ yLo least p ∧ yLo least p ≤ 1000) ∧ -1 ≤ yHi least p ∧ yHi least p ≤ 1000 := by
 simp only [Zk, bdOk, Bool.and_eq_true, inB_iff, decide_eq_true_eq] at h
 exact ⟨QBe _ _ _ (by omega), QBe _ _ _ (by omega)⟩
theorem QFR {b0 least : Int} {l : List Plate} (h0 : 1000 < b0) (hl : ∀ p ∈ l, Zk p = true) (hk : 0 < l.length) : Z4 b0 least l 1 = ⟨yLo least (l.getD 0 Zp), yHi least (l.getD 0 Zp), 0⟩ := by
 have hy := QEW (hl _ (getD_mem (d := Zp) hk)) least
 show Yh least ⟨b0, b0, 0⟩ (l.getD 0 Zp) ((0 : Nat) : Int) = _
 rw [Yx (show yLo least (l.getD 0 Zp) < b0 by omega), Int.min_eq_right (show yHi least (l.getD 0 Zp) ≤ b0 by omega)]
 rfl
theorem QD7 {b0 b1 least : Int} {l : List Plate} (h0 : 1000 < b0) (h1 : 1000 < b1) (hl : ∀ p ∈ l, Zk p = true) : ∀ k, k < l.length → Z4 b0 least l (k + 1) = Z4 b1 least l (k + 1)
 | 0, hk => by rw [QFR h0 hl hk, QFR h1 hl hk]
 | k + 1, hk => by
  show Yh least (Z4 b0 least l (k + 1)) _ _ = Yh least (Z4 b1 least l (k + 1)) _ _
  rw [QD7 h0 h1 hl k (by omega)]
/-! ### How they are read -/
def plateC (p : Plate) : List Value := [.int .i64 p.thick.lo, .int .i64 p.thick.hi, .int .i64 p.wear.lo, .int .i64 p.wear.hi]
def platesC (l : List Plate) : List Value := l.flatMap plateC
theorem QC8 (b : Plate) : (plateC b).length = 4 := rfl
theorem QFE (l : List Plate) : ∀ u ∈ platesC l, u.oneCell' = true := flat_one (by intro x u hu; simp [plateC] at hu; rcases hu with rfl | rfl | rfl | rfl <;> rfl) l
structure PlateAt (w : World) (b o : Nat) (s : Plate) : Prop where
 c0 : w.cell? ⟨b, o, none⟩ = some (.int .i64 s.thick.lo)
 c1 : w.cell? ⟨b, o + 1, none⟩ = some (.int .i64 s.thick.hi)
 c2 : w.cell? ⟨b, o + 2, none⟩ = some (.int .i64 s.wear.lo)
 c3 : w.cell? ⟨b, o + 3, none⟩ = some (.int .i64 s.wear.hi)
theorem Z0 (l : List Plate) (k : Nat) (hk : k < l.length) (w : World) (B : Nat) (A : Option Addr) (n c : Nat) (hr : Rd w B 4 (.slice A n c) n (platesC l)) :
  ∃ b off, A = some ⟨b, off, none⟩ ∧ b < B ∧ PlateAt w b (off + k * 4) (l.getD k Zp) := by
 obtain ⟨b, off, h1, h2, h3⟩ := QAf QC8 (by omega) l Zp hk hr
 exact ⟨b, off, h1, h2, h3 0 _ rfl, h3 1 _ rfl, h3 2 _ rfl, h3 3 _ rfl⟩
end Go.Proofs.Ytfgfenmaommclaa
namespace Go.Proofs.Ytfgfenmaommclaa
open Go Go.ChangeShapes Go.WideShapes Go.Deep Go.RowKit Go.Joins
theorem QH3 {w : World} {x : Addr} {u : Value} (h : w.cell? x = some u) : x.spot = none ∧ x.block < w.heap.size := by
 unfold World.cell? at h
 split at h
 ·rename_i c e f hg
  split at h
  ·cases h
  ·rename_i hs
   refine ⟨by simpa using hs, ?_⟩
   rcases Nat.lt_or_ge x.block w.heap.size with hlt | hge
   ·exact hlt
   ·rw [Array.getElem?_eq_none hge] at hg; cases hg
 ·cases h
section
variable {H : Type} {enc : TypeId × Value → H} {P : Program} {w : World} {base : Nat} {spare : Nat → Bool} {held : Bool}
/-- rows of cells, one behind the other -/
theorem QFC {b off n c s : Nat} {B : Nat} (row : Nat → List Value) (hlen : ∀ i, (row i).length = s) (hs : 0 < s) (hB : b < B) (hnc : n ≤ c)
  (hcell : ∀ i, i < n → ∀ j u, (row i)[j]? = some u → w.cell? ⟨b, off + (i * s + j), none⟩ = some u) :
  Rd w B s (.slice (some ⟨b, off, none⟩) n c) n ((List.range n).flatMap row) := by
 refine ⟨by rw [flat_len hlen, List.length_range], _, _, rfl, hnc, fun _ => ⟨b, off, rfl, hB, fun q u hu => ?_⟩⟩
 have hq : q < n * s := by
  have := (List.getElem?_eq_some_iff.1 hu).1
  rwa [flat_len hlen, List.length_range] at this
 have hk : q / s < n := by
  rw [Nat.div_lt_iff_lt_mul hs]
  exact hq
 have e : q = q / s * s + q % s := by rw [Nat.mul_comm]; exact (Nat.div_add_mod q s).symm
 have hg := flat_get hlen (List.range n) (q / s) (by simpa using hk) (q % s) (Nat.mod_lt _ hs)
 rw [← e, List.getElem_range] at hg;rw [hg] at hu;have := hcell (q / s) hk (q % s) u hu
 rwa [← e] at this
theorem QEw (x : Addr) (n : Nat) (h : x.spot = none) : x.add n = ⟨x.block, x.off + n, none⟩ := by
 obtain ⟨b, o, s⟩ := x;subst h;rw [Addr.add_lit]
/-- a slice, opened to its elements -/
theorem QJt {α : Type} [Inhabited α] {f : α → List Value} {s : Nat} {Good : α → Prop} (hf : ∀ x, (f x).length = s) (hs : 0 < s) {t e : TypeId} {fuel : Nat} {v : Value} {x : DataW H × List MemPlace} (ht : P.underlying t = some (.slice e)) (hC : P.cellsOf e = s)
  (hE : ∀ (fuel : Nat) (cs : List Value) (x : DataW H × List MemPlace), cs.length = s → DataW.trod enc P w base spare held fuel e cs = some x → ∃ y : α, cs = f y ∧ Good y) (h : DataW.trod enc P w base spare held fuel t [v] = some x) :
  ∃ l : List α, Rd w w.heap.size s v l.length (l.flatMap f) ∧ (∀ y ∈ l, Good y) ∧ l.length ≤ maxLen := by
 rcases open_slice ht h with ⟨hcs, _⟩ | ⟨a, len, cap, m, n, D, Pl, hcs, _, hl, hcap, hm, _, hi⟩
 ·injection hcs with hcs
  subst hcs
  exact ⟨[], Rd.nil_ _ _ _, by simp, Nat.zero_le _⟩
 ·injection hcs with hcs
  subst hcs;have hcell : ∀ i, i < len → ∃ y : α, (∀ j u, (f y)[j]? = some u → w.cell? (a.add (i * s + j)) = some u) ∧ Good y := by
   intro i hi';obtain ⟨cs', hc, ht'⟩ := hi i (by rw [hm]; split <;> omega)
   rw [hC] at hc;obtain ⟨_, hcl, hat⟩ := World.cells?_some hc;obtain ⟨y, hy, hg⟩ := hE _ cs' _ hcl ht';subst hy;refine ⟨y, fun j u hu => ?_, hg⟩
   have hj : j < s := by
    have := (List.getElem?_eq_some_iff.1 hu).1
    rwa [hf] at this
   have h1 := hat j hj;rw [Go.Deep.add_add] at h1;rw [h1, hu]
  let pick : Nat → α := fun i => if h : i < len then Classical.choose (hcell i h) else default
  have hpick : ∀ i, (h : i < len) → (∀ j u, (f (pick i))[j]? = some u → w.cell? (a.add (i * s + j)) = some u) ∧ Good (pick i) := fun i h => by
   have := Classical.choose_spec (hcell i h)
   simp only [pick, dif_pos h]
   exact this
  refine ⟨(List.range len).map pick, ?_, ?_, by simp; omega⟩
  ·rw [List.length_map, List.length_range]
   rcases Nat.eq_zero_or_pos len with hz | hz
   ·subst hz
    exact ⟨by simp, _, _, rfl, hl, fun h => absurd h (by omega)⟩
   ·have h0 := (hpick 0 hz).1 0 _ (List.getElem?_eq_getElem (by rw [hf]; exact hs))
    obtain ⟨hsp, hb⟩ := QH3 h0;have e0 : a.add (0 * s + 0) = a := by simp [Addr.add]
    rw [e0] at hsp hb;have hx : a = ⟨a.block, a.off, none⟩ := by obtain ⟨b, o, s⟩ := a; subst hsp; rfl
    rw [hx, List.flatMap_map];refine QFC _ (fun i => hf _) hs hb hl fun i hi' j u hu => ?_
    have h1 := (hpick i hi').1 j u hu;rw [QEw a _ hsp] at h1
    exact h1
  ·intro y hy
   obtain ⟨i, hi', rfl⟩ := List.mem_map.1 hy
   exact (hpick i (by simpa using hi')).2
theorem QEk {fs : Array Field} {n : Nat} {cs : List Value} {ys : List (DataW H × List MemPlace)} (hf : ∀ (i : Nat) (f : Field), fs[i]? = some f → DataW.trod enc P w base spare held n f.type ((cs.drop f.offset).take (P.cellsOf f.type)) = ys[i]?)
  {j ft off z : Nat} {f : Field} (hj : fs[j]? = some f) (h1 : f.type = ft) (h2 : f.offset = off) (h3 : P.cellsOf ft = z) : DataW.trod enc P w base spare held n ft ((cs.drop off).take z) = ys[j]? := by
 subst h1 h2 h3
 exact hf j f hj
end
section
variable {H : Type} {enc : TypeId × Value → H} {w : World} {base : Nat} {spare : Nat → Bool} {held : Bool}
theorem co_3 : Try.prog.cellsOf 3 = 1 := by kernel_rfl
set_option maxRecDepth 100000 in
theorem QFl {fuel : Nat} {cs : List Value} {x : DataW H × List MemPlace} (hl : cs.length = 2) (h : DataW.trod enc Try.prog w base spare held fuel 25 cs = some x) : ∃ (z0 : Int) (z1 : Int), cs = [.int .i64 z0, .int .i64 z1] := by
 obtain ⟨ys, n, _, _, _, hyl, hf⟩ := DataW.trod_struct Try.underlying25 h
 match cs, hl with
 | [u0, u1], _ =>
  match ys, hyl with
  | [y0, y1], _ =>
   have q0 : DataW.trod enc Try.prog w base spare held n 3 [u0] = some y0 := QEk hf (j := 0) rfl rfl rfl co_3;obtain ⟨z0, hz0, _, _⟩ := DataW.trod_int Try.underlying3 q0
   injection hz0 with hz0
   subst hz0;have q1 : DataW.trod enc Try.prog w base spare held n 3 [u1] = some y1 := QEk hf (j := 1) rfl rfl rfl co_3;obtain ⟨z1, hz1, _, _⟩ := DataW.trod_int Try.underlying3 q1
   injection hz1 with hz1
   subst hz1
   exact ⟨z0, z1, rfl⟩
theorem QKl : Try.prog.cellsOf 25 = 2 := by kernel_rfl
set_option maxRecDepth 100000 in
theorem QJN {fuel : Nat} {cs : List Value} {x : DataW H × List MemPlace} (hl : cs.length = 4) (h : DataW.trod enc Try.prog w base spare held fuel 30 cs = some x) : ∃ (z0 : Int) (z1 : Int) (z2 : Int) (z3 : Int), cs = [.int .i64 z0, .int .i64 z1, .int .i64 z2, .int .i64 z3] := by
 obtain ⟨ys, n, _, _, _, hyl, hf⟩ := DataW.trod_struct Try.underlying30 h
 match cs, hl with
 | [u0, u1, u2, u3], _ =>
  match ys, hyl with
  | [y0, y1], _ =>
   have q0 : DataW.trod enc Try.prog w base spare held n 25 [u0, u1] = some y0 := QEk hf (j := 0) rfl rfl rfl QKl;obtain ⟨a0, a1, e0⟩ := QFl rfl q0
   simp only [List.cons.injEq, and_true] at e0
   obtain ⟨rfl, rfl⟩ := e0;have q1 : DataW.trod enc Try.prog w base spare held n 25 [u2, u3] = some y1 := QEk hf (j := 1) rfl rfl rfl QKl;obtain ⟨a2, a3, e1⟩ := QFl rfl q1
   simp only [List.cons.injEq, and_true] at e1
   obtain ⟨rfl, rfl⟩ := e1
   exact ⟨a0, a1, a2, a3, rfl⟩
theorem QLX : Try.prog.cellsOf 30 = 4 := by kernel_rfl
instance : Inhabited Plate := ⟨Zp⟩
theorem rd_plates {fuel : Nat} {v : Value} {x : DataW H × List MemPlace} (h : DataW.trod enc Try.prog w base spare held fuel 22 [v] = some x) : ∃ l : List Plate, Rd w w.heap.size 4 v l.length (platesC l) ∧ l.length ≤ maxLen := by
 obtain ⟨l, h1, _, h2⟩ := QJt (f := plateC) (Good := fun _ => True) QC8 (by omega) Try.underlying22 QLX (fun _ cs _ hl ht => by
  obtain ⟨a, b, c, d, rfl⟩ := QJN hl ht
  exact ⟨⟨⟨a, b⟩, ⟨c, d⟩⟩, rfl, trivial⟩) h
 exact ⟨l, h1, h2⟩
end
end Go.Proofs.Ytfgfenmaommclaa
namespace Go.Proofs.Ytfgfenmaommclaa
open Go Go.RowKit
section
variable {n : Nat} {σ : Sg} {w : World} {dst : Option Tmp} {ty : TypeId} {pos : String} {af : Array Edge} {g : Option (Nat × Bool)} {x y z : Operand} {at' : Array TypeId}
theorem QFP {A : Option Addr} {m c : Nat} (hx : evS σ x = some (.slice A m c)) : ZE Try.prog n σ w ⟨dst, .call { callee := .builtin .len, args := #[x], argTypes := #[56] }, ty, pos, af, g⟩ (.int .i64 (m : Int)) := fun a ha => by
 simp only [execOp, resolve, List.map_toArray, List.map_cons, List.map_nil, ha.eval hx]
 simp [go_sem]
theorem QD9 {b o m c k : Nat} (hx : evS σ x = some (.slice (some ⟨b, o, none⟩) m c)) (hy : evS σ y = some (.int .i64 (k : Int))) (hk : k < m) : ZE Try.prog n σ w ⟨dst, .indexAddr 56 x y, ty, pos, af, g⟩ (.pointer (some ⟨b, o + k, none⟩)) := fun a ha => by
 have k0 : (0 : Int) ≤ (k : Int) := Int.natCast_nonneg _;have k1 : (k : Int) < (m : Int) := by omega
 simp only [execOp, ha.eval hx, ha.eval hy]
 simp [go_sem, k0, k1]
theorem QEr {xf x0 : Operand} {v0 p0 p1 : Value} (hf : evS σ xf = some (.func (.func 54) #[] #[p0, p1])) (h0 : evS σ x0 = some v0) (a : Act) (ha : Env n σ a) : (execOp a.eval ⟨dst, .call { callee := .value xf, args := #[x0], argTypes := at' }, ty, pos, af, g⟩).run Try.prog w = .ok (.enter 54 #[v0, p0, p1]) w := by
 simp only [execOp, resolve, List.map_toArray, List.map_cons, List.map_nil, ha.eval hf, ha.eval h0]
 simp [go_sem, Deferred.ofValue]
theorem cF76 : cF 76 := fun _ _ => by simp [go_sem]
theorem QIy {A : Option Addr} {m c : Nat} (hx : evS σ x = some (.slice A m c)) : ZE Try.prog n σ w ⟨dst, .call { callee := .builtin .len, args := #[x], argTypes := #[68] }, ty, pos, af, g⟩ (.int .i64 (m : Int)) := fun a ha => by
 simp only [execOp, resolve, List.map_toArray, List.map_cons, List.map_nil, ha.eval hx]
 simp [go_sem]
theorem QKi {b o m c k : Nat} (hx : evS σ x = some (.slice (some ⟨b, o, none⟩) m c)) (hy : evS σ y = some (.int .i64 (k : Int))) (hk : k < m) : ZE Try.prog n σ w ⟨dst, .indexAddr 68 x y, ty, pos, af, g⟩ (.pointer (some ⟨b, o + k * 2, none⟩)) := fun a ha => by
 have k0 : (0 : Int) ≤ (k : Int) := Int.natCast_nonneg _;have k1 : (k : Int) < (m : Int) := by omega
 simp only [execOp, ha.eval hx, ha.eval hy]
 simp [go_sem, k0, k1]
theorem QKg {b o : Nat} {v0 v1 : Value} (hx : evS σ x = some (.pointer (some ⟨b, o, none⟩))) (c0 : w.cell? ⟨b, o, none⟩ = some v0) (c1 : w.cell? ⟨b, o + 1, none⟩ = some v1) : ZE Try.prog n σ w ⟨dst, .load 66 x, ty, pos, af, g⟩ (.agg #[v0, v1]) := fun a ha => by
 simp only [execOp, ha.eval hx]
 simp [go_sem, c0, c1]
theorem QEq {xf x0 : Operand} {v0 p0 : Value} (hf : evS σ xf = some (.func (.func 78) #[] #[p0])) (h0 : evS σ x0 = some v0) (a : Act) (ha : Env n σ a) : (execOp a.eval ⟨dst, .call { callee := .value xf, args := #[x0], argTypes := at' }, ty, pos, af, g⟩).run Try.prog w = .ok (.enter 78 #[v0, p0]) w := by
 simp only [execOp, resolve, List.map_toArray, List.map_cons, List.map_nil, ha.eval hf, ha.eval h0]
 simp [go_sem, Deferred.ofValue]
theorem cF95 : cF 95 := fun _ _ => by simp [go_sem]
theorem bx_3 {v0 : Value} (hx : evS σ x = some (v0)) (h1 : v0.oneCell' = true) (a : Act) (ha : Env n σ a) : (execOp a.eval ⟨dst, .box 3 x, ty, pos, af, g⟩).run Try.prog w = .ok (.value (.pointer (some ⟨w.heap.size, 0, none⟩))) (w.alloc (.cells #[v0] 3)) := by
 simp only [execOp, ha.eval hx]
 cases v0 <;> first | (simp [Value.oneCell'] at h1; done) | simp [go_sem, Value.cells]
theorem QHn {x0 x1 : Operand} {v0 v1 : Value} (h0 : evS σ x0 = some v0) (h1 : evS σ x1 = some v1) : ZE Try.prog n σ w ⟨dst, .makeFunc (.func 54) #[] #[x0, x1], ty, pos, af, g⟩ (.func (.func 54) #[] #[v0, v1]) := fun a ha => by
 simp only [execOp, List.map_toArray, List.map_cons, List.map_nil, ha.eval h0, ha.eval h1]
 simp [go_sem]
theorem cF53 : cF 53 := fun _ _ => by simp [go_sem]
theorem QB6 {v0 v1 : Value} (hx : evS σ x = some (.agg #[v0, v1])) (a : Act) (ha : Env n σ a) : (execOp a.eval ⟨dst, .box 25 x, ty, pos, af, g⟩).run Try.prog w = .ok (.value (.pointer (some ⟨w.heap.size, 0, none⟩))) (w.alloc (.cells #[v0, v1] 25)) := by
 simp only [execOp, ha.eval hx]
 simp [go_sem]
theorem QB7 {x0 x1 : Operand} {z0_0 z1_0 : Int} (h0 : evS σ x0 = some (.int .i64 z0_0)) (h1 : evS σ x1 = some (.int .i64 z1_0)) (a : Act) (ha : Env n σ a) : (execOp a.eval ⟨dst, .buildSlice 56 2 #[(0, x0), (1, x1)], ty, pos, af, g⟩).run Try.prog w = .ok (.value (.slice (some ⟨w.heap.size, 0, none⟩) 2 2)) (w.alloc (.cells #[.int .i64 z0_0, .int .i64 z1_0] 3)) := by
 simp only [execOp, List.map_toArray, List.map_cons, List.map_nil, ha.eval h0, ha.eval h1]
 go_simp
theorem cF35 : cF 35 := fun _ _ => by simp [go_sem]
theorem cF34 : cF 34 := fun _ _ => by simp [go_sem]
theorem QLY {v0 v1 : Value} (hx : evS σ x = some (.agg #[v0, v1])) (a : Act) (ha : Env n σ a) : (execOp a.eval ⟨dst, .box 66 x, ty, pos, af, g⟩).run Try.prog w = .ok (.value (.pointer (some ⟨w.heap.size, 0, none⟩))) (w.alloc (.cells #[v0, v1] 66)) := by
 simp only [execOp, ha.eval hx]
 simp [go_sem]
theorem QBx {b o : Nat} (hx : evS σ x = some (.pointer (some ⟨b, o, none⟩))) : ZE Try.prog n σ w ⟨dst, .fieldAddr 70 x 0, ty, pos, af, g⟩ (.pointer (some ⟨b, o, none⟩)) := fun a ha => by
 simp only [execOp, ha.eval hx]
 simp [go_sem]
theorem QG8 {b o : Nat} (hx : evS σ x = some (.pointer (some ⟨b, o, none⟩))) : ZE Try.prog n σ w ⟨dst, .fieldAddr 66 x 0, ty, pos, af, g⟩ (.pointer (some ⟨b, o, none⟩)) := fun a ha => by
 simp only [execOp, ha.eval hx]
 simp [go_sem]
theorem QG7 {b o : Nat} (hx : evS σ x = some (.pointer (some ⟨b, o, none⟩))) : ZE Try.prog n σ w ⟨dst, .fieldAddr 66 x 1, ty, pos, af, g⟩ (.pointer (some ⟨b, o + 1, none⟩)) := fun a ha => by
 simp only [execOp, ha.eval hx]
 simp [go_sem]
end
theorem QDl {α : Type} {l : List α} {d : α} {p : α → Bool} {k : Nat} (hk : k < l.length) : (l.take (k + 1)).any p = ((l.take k).any p || p (l.getD k d)) := by
 rw [List.take_succ_eq_append_getElem hk, List.any_append, show l.getD k d = l[k] by simp [hk]]
 simp only [List.any_cons, List.any_nil, Bool.or_false]
theorem QGU {α : Type} {l : List α} {d : α} {p : α → Bool} {k : Nat} (hk : k < l.length) (h : p (l.getD k d) = true) : l.any p = true := by
 rw [List.any_eq_true]
 exact ⟨l.getD k d, by rw [show l.getD k d = l[k] by simp [hk]]; exact List.getElem_mem hk, h⟩
theorem QBN {α : Type} {l : List α} {p : α → Bool} : (!l.any p) = l.all (fun x => !p x) := by
 rw [List.all_eq_not_any_not]; simp
theorem QJd {α : Type} {l : List α} {p : α → Bool} : (!l.all p) = l.any (fun x => !p x) := by
 rw [List.all_eq_not_any_not]; simp
set_option maxRecDepth 100000 in
theorem QHt (l : List Int) (pred : Int → Bool) (p0 p1 : Value) (v : Value) (w : World) (B : Nat) (hr : Rd w B 1 v l.length (ints l)) (hB : B ≤ w.heap.size) (hn : l.length ≤ 9223372036854775806) (hf : ∀ x ∈ l, ∀ W, Below w.heap.size w W → Calls Try.prog 54 #[.int .i64 x, p0, p1] W fun e w' => e = .returned (.bool (pred x)) ∧ Below W.heap.size W w') :
  Calls Try.prog 76 #[v, .func (.func 54) #[] #[p0, p1]] w fun e w' => (∃ r : Int, e = .returned (.int .i64 r) ∧ decide (0 ≤ r) = l.any pred) ∧ Below w.heap.size w w' := by
 obtain ⟨A, c, rfl, _⟩ := hr.shape;have hbw := Below.refl w.heap.size w;refine EC.enter 19 Try.func76 rfl rfl rfl (EC.seq (EC.region (EL.as rfl rfl (EL.nil (EX.seq (EC.seq (EC.seq (EC.region (EL.mv rfl rfl ?_)))))))));refine EL.val (QFP rfl) rfl (EL.mv rfl rfl (EL.nil (EX.seq (EC.block ?_))));refine EC.loopD [4, 5, 8, 9, 10, 11, 12, 13, 14, 15, 16, 17, 18] (fun x : Nat => [(8, .int .i64 (x : Nat))]) (fun x W => x ≤ l.length ∧ (l.take x).any pred = false ∧ Below w.heap.size w W) (fun x => l.length - x) 0 ⟨Nat.zero_le _, rfl, hbw⟩ ⟨rfl, trivial⟩ ?_
 clear hbw
 rintro k wk ⟨hk, hno, hbw⟩
 by_cases hlt : k < l.length
 ·
  obtain ⟨b, o, rfl, _, cc⟩ := Yz l k hlt w w.heap.size _ _ _ (hr.more hB);have hat := QDl (d := 0) (p := pred) hlt;have hmem : l.getD k 0 ∈ l := by rw [Ym hlt]; exact List.getElem_mem hlt
  obtain ⟨x, ex⟩ : ∃ z, z = l.getD k 0 := ⟨_, rfl⟩;rw [← ex] at hat hmem cc;have hc := hf x hmem wk hbw;refine EC.seq (EC.region ?_);refine EL.val (ZL rfl rfl (by first | assumption | exact decide_eq_true (by omega))) rfl ?_
  refine EL.nil (EX.seq (EC.seq (EC.yes rfl (EC.skip (EX.seq (EC.seq (EC.block (EC.seq (EC.region ?_)))))))));refine EL.mv rfl rfl (EL.as rfl rfl (EL.nil (EX.seq (EC.seq (EC.region (EL.mv rfl rfl (EL.mv rfl rfl (EL.mv rfl rfl (EL.val (QD9 rfl rfl hlt) rfl ?_)))))))));refine EL.val (ld_3 rfl (ZD hbw cc)) rfl (EL.call (QEr rfl rfl) rfl hc ?_)
  rintro e w2 ⟨rfl, hc2⟩
  refine ⟨_, rfl, ?_⟩;replace hbw := bo_ hbw hc2;clear hc2;refine EL.nil (EX.seq ?_)
  cases hp : pred x
  ·
   refine EC.no rfl (EC.skip (EX.blk (EX.seq (EC.region ?_))));refine EL.val (ZM rfl rfl (by first | assumption | exact IntWalk.i64_in _ ⟨by omega, by omega⟩)) rfl ?_
   refine EL.mv rfl rfl (EL.nil ?_);refine EX.roundD (k + 1) ⟨rfl, trivial⟩ (by repeat first | with_reducible exact .refl _ | refine sp_ rfl ?_ | exact .refl _ | refine sd_ rfl ?_ | refine sn_ ?_) ⟨hlt, by rw [hat, hno, hp]; rfl, hbw⟩ (by omega)
  ·
   refine EC.yes rfl (EC.seq (EC.region (EL.mv rfl rfl (EL.as rfl rfl (EL.nil (EX.seq (EC.ret (EX.blk_ret (EX.seq_ret ?_)))))))));refine EX.seq_ret (EX.blk_ret (EX.seq_ret ?_))
   exact EX.done (res1 rfl rfl) ⟨⟨_, rfl, by rw [QGU hlt (ex ▸ hp)]; exact decide_eq_true (by omega)⟩, hbw⟩
 ·
  obtain rfl : k = l.length := by omega
  rw [List.take_length] at hno;refine EC.seq (EC.region ?_);refine EL.val (ZL rfl rfl (by first | assumption | exact decide_eq_false (by omega))) rfl ?_
  refine EL.nil (EX.seq (EC.seq (EC.no rfl (EC.exit (EX.seq_exit (EX.seq_exit (EX.blk_here (EX.seq (EC.seq ?_)))))))));refine EC.region (EL.as rfl rfl (EL.nil (EX.seq (EC.ret ?_))))
  exact EX.done (res1 rfl rfl) ⟨⟨_, rfl, by rw [hno]; rfl⟩, hbw⟩
theorem QEp (l : List Int) (pred : Int → Bool) (p0 p1 : Value) (v : Value) (w : World) (B : Nat) (hr : Rd w B 1 v l.length (ints l)) (hB : B ≤ w.heap.size) (hn : l.length ≤ 9223372036854775806) (hf : ∀ x ∈ l, ∀ W, Below w.heap.size w W → Calls Try.prog 54 #[.int .i64 x, p0, p1] W fun e w' => e = .returned (.bool (pred x)) ∧ Below W.heap.size W w') :
  Calls Try.prog 53 #[v, .func (.func 54) #[] #[p0, p1]] w fun e w' => e = .returned (.bool (l.any pred)) ∧ Below w.heap.size w w' := by
 have hbw := Below.refl w.heap.size w;refine EC.enter 9 Try.func53 rfl rfl rfl (EC.seq (EC.region (EL.as rfl rfl (EL.nil (EX.seq (EC.seq (EC.region (EL.mv rfl rfl (EL.mv rfl rfl ?_)))))))));refine EL.call (cA2 cF76 rfl rfl) rfl (QHt l pred p0 p1 _ w B hr hB hn hf) ?_
 rintro e w2 ⟨⟨r, rfl, hres⟩, hc2⟩
 refine ⟨_, rfl, ?_⟩;replace hbw := bo_ hbw hc2;refine EL.val (QAl rfl rfl hres) rfl (EL.as rfl rfl (EL.nil (EX.seq (EC.ret ?_))))
 exact EX.done (res1 rfl rfl) ⟨rfl, hbw⟩
set_option maxRecDepth 100000 in
theorem QGD (l : List Hold) (pred : Hold → Bool) (p0 : Value) (v : Value) (w : World) (B : Nat) (hr : Rd w B 2 v l.length (holdsC l)) (hB : B ≤ w.heap.size) (hn : l.length ≤ 9223372036854775806) (hf : ∀ x ∈ l, ∀ W, Below w.heap.size w W → Calls Try.prog 78 #[.agg #[.int .i64 x.pos, .int .i64 x.lots], p0] W fun e w' => e = .returned (.bool (pred x)) ∧ Below W.heap.size W w') :
  Calls Try.prog 95 #[v, .func (.func 78) #[] #[p0]] w fun e w' => (∃ r : Int, e = .returned (.int .i64 r) ∧ decide (0 ≤ r) = l.any pred) ∧ Below w.heap.size w w' := by
 obtain ⟨A, c, rfl, _⟩ := hr.shape;have hbw := Below.refl w.heap.size w;refine EC.enter 19 Try.func95 rfl rfl rfl (EC.seq (EC.region (EL.as rfl rfl (EL.nil (EX.seq (EC.seq (EC.seq (EC.region (EL.mv rfl rfl ?_)))))))));refine EL.val (QIy rfl) rfl (EL.mv rfl rfl (EL.nil (EX.seq (EC.block ?_))));refine EC.loopD [4, 5, 8, 9, 10, 11, 12, 13, 14, 15, 16, 17, 18] (fun x : Nat => [(8, .int .i64 (x : Nat))]) (fun x W => x ≤ l.length ∧ (l.take x).any pred = false ∧ Below w.heap.size w W) (fun x => l.length - x) 0 ⟨Nat.zero_le _, rfl, hbw⟩ ⟨rfl, trivial⟩ ?_
 clear hbw
 rintro k wk ⟨hk, hno, hbw⟩
 by_cases hlt : k < l.length
 ·
  obtain ⟨b, o, rfl, _, cc⟩ := Yd l k hlt w w.heap.size _ _ _ (hr.more hB);have hat := QDl (d := YE) (p := pred) hlt;have hmem : l.getD k YE ∈ l := by rw [Ym hlt]; exact List.getElem_mem hlt
  obtain ⟨x, ex⟩ : ∃ z, z = l.getD k YE := ⟨_, rfl⟩;rw [← ex] at hat hmem cc;have hc := hf x hmem wk hbw;refine EC.seq (EC.region ?_);refine EL.val (ZL rfl rfl (by first | assumption | exact decide_eq_true (by omega))) rfl ?_
  refine EL.nil (EX.seq (EC.seq (EC.yes rfl (EC.skip (EX.seq (EC.seq (EC.block (EC.seq (EC.region ?_)))))))));refine EL.mv rfl rfl (EL.as rfl rfl (EL.nil (EX.seq (EC.seq (EC.region (EL.mv rfl rfl (EL.mv rfl rfl (EL.mv rfl rfl (EL.val (QKi rfl rfl hlt) rfl ?_)))))))));refine EL.val (QKg rfl (ZD hbw cc.c0) (ZD hbw cc.c1)) rfl (EL.call (QEq rfl rfl) rfl hc ?_)
  rintro e w2 ⟨rfl, hc2⟩
  refine ⟨_, rfl, ?_⟩;replace hbw := bo_ hbw hc2;clear hc2;refine EL.nil (EX.seq ?_)
  cases hp : pred x
  ·
   refine EC.no rfl (EC.skip (EX.blk (EX.seq (EC.region ?_))));refine EL.val (ZM rfl rfl (by first | assumption | exact IntWalk.i64_in _ ⟨by omega, by omega⟩)) rfl ?_
   refine EL.mv rfl rfl (EL.nil ?_);refine EX.roundD (k + 1) ⟨rfl, trivial⟩ (by repeat first | with_reducible exact .refl _ | refine sp_ rfl ?_ | exact .refl _ | refine sd_ rfl ?_ | refine sn_ ?_) ⟨hlt, by rw [hat, hno, hp]; rfl, hbw⟩ (by omega)
  ·
   refine EC.yes rfl (EC.seq (EC.region (EL.mv rfl rfl (EL.as rfl rfl (EL.nil (EX.seq (EC.ret (EX.blk_ret (EX.seq_ret ?_)))))))));refine EX.seq_ret (EX.blk_ret (EX.seq_ret ?_))
   exact EX.done (res1 rfl rfl) ⟨⟨_, rfl, by rw [QGU hlt (ex ▸ hp)]; exact decide_eq_true (by omega)⟩, hbw⟩
 ·
  obtain rfl : k = l.length := by omega
  rw [List.take_length] at hno;refine EC.seq (EC.region ?_);refine EL.val (ZL rfl rfl (by first | assumption | exact decide_eq_false (by omega))) rfl ?_
  refine EL.nil (EX.seq (EC.seq (EC.no rfl (EC.exit (EX.seq_exit (EX.seq_exit (EX.blk_here (EX.seq (EC.seq ?_)))))))));refine EC.region (EL.as rfl rfl (EL.nil (EX.seq (EC.ret ?_))))
  exact EX.done (res1 rfl rfl) ⟨⟨_, rfl, by rw [hno]; rfl⟩, hbw⟩
theorem QDu (l : List Hold) (pred : Hold → Bool) (p0 : Value) (v : Value) (w : World) (B : Nat) (hr : Rd w B 2 v l.length (holdsC l)) (hB : B ≤ w.heap.size) (hn : l.length ≤ 9223372036854775806) (hf : ∀ x ∈ l, ∀ W, Below w.heap.size w W → Calls Try.prog 78 #[.agg #[.int .i64 x.pos, .int .i64 x.lots], p0] W fun e w' => e = .returned (.bool (pred x)) ∧ Below W.heap.size W w') :
  Calls Try.prog 77 #[v, .func (.func 78) #[] #[p0]] w fun e w' => e = .returned (.bool (l.any pred)) ∧ Below w.heap.size w w' := by
 have hbw := Below.refl w.heap.size w;refine EC.enter 9 Try.func77 rfl rfl rfl (EC.seq (EC.region (EL.as rfl rfl (EL.nil (EX.seq (EC.seq (EC.region (EL.mv rfl rfl (EL.mv rfl rfl ?_)))))))));refine EL.call (cA2 cF95 rfl rfl) rfl (QGD l pred p0 _ w B hr hB hn hf) ?_
 rintro e w2 ⟨⟨r, rfl, hres⟩, hc2⟩
 refine ⟨_, rfl, ?_⟩;replace hbw := bo_ hbw hc2;refine EL.val (QAl rfl rfl hres) rfl (EL.as rfl rfl (EL.nil (EX.seq (EC.ret ?_))))
 exact EX.done (res1 rfl rfl) ⟨rfl, hbw⟩
theorem QJA (x lo hi : Int) (b1 b2 : Nat) (w : World) (hp : w.cell? ⟨b1, 0, none⟩ = some (.int .i64 lo)) (hq : w.cell? ⟨b2, 0, none⟩ = some (.int .i64 hi)) :
  Calls Try.prog 54 #[.int .i64 x, .pointer (some ⟨b1, 0, none⟩), .pointer (some ⟨b2, 0, none⟩)] w fun e w' => e = .returned (.bool (!inB lo hi x)) ∧ Below w.heap.size w w' := by
 have hbw := Below.refl w.heap.size w;refine EC.enter 13 Try.func54 rfl rfl rfl (EC.seq (EC.region (EL.as rfl rfl (EL.nil (EX.seq (EC.seq (EC.region (EL.mv rfl rfl (EL.val (ld_3 rfl hp) rfl ?_)))))))))
 by_cases h1 : x < lo
 ·
  refine EL.val (ZL rfl rfl (by first | assumption | exact decide_eq_true (by omega))) rfl ?_
  refine EL.mv rfl rfl (EL.skip rfl rfl rfl rfl (EL.skip rfl rfl rfl rfl (EL.skip rfl rfl rfl rfl (EL.pt rfl rfl rfl (EL.as rfl rfl (EL.nil (EX.seq (EC.ret ?_))))))))
  exact EX.done (res1 rfl rfl) ⟨by congr 2; symm; first | (rw [Bool.not_eq_true', inB_not]; omega) | (rw [Bool.not_eq_false', inB_iff]; omega), hbw⟩
 ·
  refine EL.val (ZL rfl rfl (by first | assumption | exact decide_eq_false (by omega))) rfl ?_
  refine EL.mv rfl rfl (EL.mg rfl rfl rfl rfl (EL.valg rfl rfl (ld_3 rfl hq) rfl ?_))
  by_cases h2 : hi < x
  ·
   refine EL.valg rfl rfl (Zi rfl rfl (by first | assumption | exact decide_eq_true (by omega))) rfl ?_
   refine EL.pf rfl rfl rfl (EL.as rfl rfl (EL.nil (EX.seq (EC.ret ?_))))
   exact EX.done (res1 rfl rfl) ⟨by congr 2; symm; first | (rw [Bool.not_eq_true', inB_not]; omega) | (rw [Bool.not_eq_false', inB_iff]; omega), hbw⟩
  ·
   refine EL.valg rfl rfl (Zi rfl rfl (by first | assumption | exact decide_eq_false (by omega))) rfl ?_
   refine EL.pf rfl rfl rfl (EL.as rfl rfl (EL.nil (EX.seq (EC.ret ?_))))
   exact EX.done (res1 rfl rfl) ⟨by congr 2; symm; first | (rw [Bool.not_eq_true', inB_not]; omega) | (rw [Bool.not_eq_false', inB_iff]; omega), hbw⟩
theorem QCU (lo hi : Int) (l : List Int) (v : Value) (w : World) (B : Nat) (hr : Rd w B 1 v l.length (ints l)) (hB : B ≤ w.heap.size) (hn : l.length ≤ 9223372036854775806) :
  Calls Try.prog 35 #[.int .i64 lo, .int .i64 hi, v] w fun e w' => e = .returned (.bool (l.all (inB lo hi))) ∧ Below w.heap.size w w' := by
 have hbw := Below.refl w.heap.size w;refine EC.enter 11 Try.func35 rfl rfl rfl (EC.seq (EC.region (EL.newP (bx_3 rfl rfl) rfl ?_)));intro g1 w1 q1 hb1 hg1 hl1;have bhbw_1 := Nat.le_trans hbw.size hg1;replace hbw := bo_ hbw hb1;clear hb1 hg1 hl1;refine EL.newP (bx_3 rfl rfl) rfl ?_;intro g2 w2 q2 hb2 hg2 hl2;have n1_2 := q1.na hg2;have bhbw_2 := Nat.le_trans hbw.size hg2;replace q1 := q1.bl hb2;replace hbw := bo_ hbw hb2;clear hb2 hg2 hl2;refine EL.as rfl rfl (EL.nil (EX.seq (EC.seq (EC.region (EL.mv rfl rfl (EL.val (QHn rfl rfl) rfl ?_))))));refine EL.call (cA2 cF53 rfl rfl) rfl (QEp l (fun x => !inB lo hi x) _ _ _ _ B (hr.below (hbw.mono hB)) (Nat.le_trans hB hbw.size) hn (fun x _ W hb => QJA x lo hi _ _ W (ZD hb (q1.at (j := 0) rfl)) (ZD hb (q2.at (j := 0) rfl)))) ?_
 rintro e w3 ⟨rfl, hc3⟩
 refine ⟨_, rfl, ?_⟩;replace q1 := q1.bl hc3;replace q2 := q2.bl hc3;replace hbw := bo_ hbw hc3;clear hc3;refine EL.val (ZZ rfl) rfl (EL.as rfl rfl (EL.nil (EX.seq (EC.ret ?_))))
 exact EX.done (res1 rfl rfl) ⟨by rw [QBN]; simp, hbw⟩
theorem Za {lo hi x : Int} {g : Nat} {w : World} {b : Bool} (hq : Blk w g 3 #[.int .i64 x]) (h : inB lo hi x = b) :
  Calls Try.prog 35 #[.int .i64 lo, .int .i64 hi, .slice (some ⟨g, 0, none⟩) 1 1] w fun e w' => e = .returned (.bool b) ∧ Below w.heap.size w w' := by
 have key := QCU lo hi [x] _ w w.heap.size (YN (k := 1) (l := [.int .i64 x]) hq rfl) (Nat.le_refl _) (by simp)
 simpa [h] using key
theorem QBg {lo hi x y : Int} {g : Nat} {w : World} {b : Bool} (hq : Blk w g 3 #[.int .i64 x, .int .i64 y]) (h : (inB lo hi x && inB lo hi y) = b) :
  Calls Try.prog 35 #[.int .i64 lo, .int .i64 hi, .slice (some ⟨g, 0, none⟩) 2 2] w fun e w' => e = .returned (.bool b) ∧ Below w.heap.size w w' := by
 have key := QCU lo hi [x, y] _ w w.heap.size (YN (k := 2) (l := [.int .i64 x, .int .i64 y]) hq rfl) (Nat.le_refl _) (by simp)
 simpa [h] using key
theorem QJE (x : Bd) (lo hi : Int) (w : World) : Calls Try.prog 34 #[.agg #[.int .i64 x.lo, .int .i64 x.hi], .int .i64 lo, .int .i64 hi] w fun e w' => e = .returned (.bool (bdOk lo hi x)) ∧ Below w.heap.size w w' := by
 have hbw := Below.refl w.heap.size w;refine EC.enter 22 Try.func34 rfl rfl rfl (EC.seq (EC.region (EL.newP (QB6 rfl) rfl ?_)));intro g1 w1 q1 hb1 hg1 hl1;have bhbw_1 := Nat.le_trans hbw.size hg1;replace hbw := bo_ hbw hb1;clear hb1 hg1 hl1;refine EL.as rfl rfl (EL.nil (EX.seq (EC.seq (EC.region (EL.mv rfl rfl (EL.mv rfl rfl (EL.val (ZS rfl) rfl (EL.val (ld_3 rfl (q1.at (j := 0) rfl)) rfl (EL.val (ZO rfl) rfl ?_)))))))));refine EL.val (ld_3 rfl (q1.at (j := 1) rfl)) rfl (EL.newS (QB7 rfl rfl) rfl ?_);intro g2 w2 q2 hb2 hg2 hl2;have n1_2 := q1.na hg2;have bhbw_2 := Nat.le_trans hbw.size hg2;replace q1 := q1.bl hb2;replace hbw := bo_ hbw hb2;clear hb2 hg2 hl2
 cases h1 : (inB lo hi x.lo && inB lo hi x.hi)
 ·
  refine EL.call (cA3 cF35 rfl rfl rfl) rfl (QBg q2 h1) ?_
  rintro e w3 ⟨rfl, hc3⟩
  refine ⟨_, rfl, ?_⟩;replace q1 := q1.bl hc3;replace q2 := q2.bl hc3;replace hbw := bo_ hbw hc3;clear hc3;refine EL.mv rfl rfl (EL.skip rfl rfl rfl rfl (EL.skip rfl rfl rfl rfl (EL.skip rfl rfl rfl rfl (EL.skip rfl rfl rfl rfl (EL.skip rfl rfl rfl rfl (EL.pf rfl rfl rfl (EL.as rfl rfl (EL.nil (EX.seq ?_)))))))));refine EC.ret ?_
  exact EX.done (res1 rfl rfl) ⟨by congr 2; simp [bdOk, *], hbw⟩
 ·
  refine EL.call (cA3 cF35 rfl rfl rfl) rfl (QBg q2 h1) ?_
  rintro e w4 ⟨rfl, hc4⟩
  refine ⟨_, rfl, ?_⟩;replace q1 := q1.bl hc4;replace q2 := q2.bl hc4;replace hbw := bo_ hbw hc4;clear hc4;refine EL.mv rfl rfl (EL.valg rfl rfl (ZS rfl) rfl (EL.valg rfl rfl (ld_3 rfl (q1.at (j := 0) rfl)) rfl (EL.valg rfl rfl (ZO rfl) rfl (EL.valg rfl rfl (ld_3 rfl (q1.at (j := 1) rfl)) rfl ?_))))
  by_cases h2 : x.lo ≤ x.hi
  ·
   refine EL.valg rfl rfl (QAk rfl rfl (by first | assumption | exact decide_eq_true (by omega))) rfl ?_
   refine EL.pt rfl rfl rfl (EL.as rfl rfl (EL.nil (EX.seq (EC.ret ?_))))
   exact EX.done (res1 rfl rfl) ⟨by congr 2; simp [bdOk, *], hbw⟩
  ·
   refine EL.valg rfl rfl (QAk rfl rfl (by first | assumption | exact decide_eq_false (by omega))) rfl ?_
   refine EL.pt rfl rfl rfl (EL.as rfl rfl (EL.nil (EX.seq (EC.ret ?_))))
   exact EX.done (res1 rfl rfl) ⟨by congr 2; simp [bdOk, *], hbw⟩
theorem QBv {x : Bd} {lo hi : Int} {b : Bool} (h : bdOk lo hi x = b) (w : World) : Calls Try.prog 34 #[.agg #[.int .i64 x.lo, .int .i64 x.hi], .int .i64 lo, .int .i64 hi] w fun e w' => e = .returned (.bool b) ∧ Below w.heap.size w w' := h ▸ QJE x lo hi w
theorem QBs {x : Bd} {b : Bool} (h : denB x = b) (w : World) : Calls Try.prog 40 #[.agg #[.int .i64 x.lo, .int .i64 x.hi]] w fun e w' => e = .returned (.bool b) ∧ Below w.heap.size w w' := by
 unfold denB at h
 have hbw := Below.refl w.heap.size w;refine EC.enter 5 Try.func40 rfl rfl rfl (EC.seq (EC.region (EL.newP (QB6 rfl) rfl ?_)));intro g1 w1 q1 hb1 hg1 hl1;have bhbw_1 := Nat.le_trans hbw.size hg1;replace hbw := bo_ hbw hb1;clear hb1 hg1 hl1;refine EL.as rfl rfl (EL.nil (EX.seq (EC.seq (EC.region (EL.val (Zh rfl (q1.at (j := 0) rfl) (q1.at (j := 1) rfl)) rfl (EL.call (cA3 cF34 rfl rfl rfl) rfl (QBv h _) ?_))))))
 rintro e w2 ⟨rfl, hc2⟩
 refine ⟨_, rfl, ?_⟩;replace q1 := q1.bl hc2;replace hbw := bo_ hbw hc2;clear hc2;refine EL.as rfl rfl (EL.nil (EX.seq (EC.ret ?_)))
 exact EX.done (res1 rfl rfl) ⟨rfl, hbw⟩
theorem QHQ (m : Int) (x : Hold) (b : Nat) (w : World) (hp : w.cell? ⟨b, 0, none⟩ = some (.int .i64 m)) : Calls Try.prog 78 #[.agg #[.int .i64 x.pos, .int .i64 x.lots], .pointer (some ⟨b, 0, none⟩)] w fun e w' => e = .returned (.bool (!QDV m x)) ∧ Below w.heap.size w w' := by
 have hbw := Below.refl w.heap.size w;refine EC.enter 18 Try.func78 rfl rfl rfl (EC.seq (EC.region (EL.newP (QLY rfl) rfl ?_)));intro g1 w1 q1 hb1 hg1 hl1;have bhbw_1 := Nat.le_trans hbw.size hg1;replace hbw := bo_ hbw hb1;clear hb1 hg1 hl1;refine EL.as rfl rfl (EL.nil (EX.seq (EC.seq (EC.region (EL.val (QBx rfl) rfl (EL.val (ld_3 rfl (ZD hbw hp)) rfl (EL.val (QG8 rfl) rfl (EL.val (ld_3 rfl (q1.at (j := 0) rfl)) rfl (EL.newS (Zy rfl) rfl ?_)))))))));intro g2 w2 q2 hb2 hg2 hl2;have n1_2 := q1.na hg2;have bhbw_2 := Nat.le_trans hbw.size hg2;replace q1 := q1.bl hb2;replace hbw := bo_ hbw hb2;clear hb2 hg2 hl2
 cases h1 : inB 0 m x.pos
 ·
  refine EL.call (cA3 cF35 rfl rfl rfl) rfl (Za q2 h1) ?_
  rintro e w3 ⟨rfl, hc3⟩
  refine ⟨_, rfl, ?_⟩;replace q1 := q1.bl hc3;replace q2 := q2.bl hc3;replace hbw := bo_ hbw hc3;clear hc3;refine EL.val (ZZ rfl) rfl (EL.mv rfl rfl (EL.skip rfl rfl rfl rfl (EL.skip rfl rfl rfl rfl (EL.skip rfl rfl rfl rfl (EL.skip rfl rfl rfl rfl (EL.skip rfl rfl rfl rfl (EL.pt rfl rfl rfl (EL.as rfl rfl (EL.nil ?_)))))))));refine EX.seq (EC.ret ?_)
  exact EX.done (res1 rfl rfl) ⟨by congr 2; simp [QDV, *], hbw⟩
 ·
  refine EL.call (cA3 cF35 rfl rfl rfl) rfl (Za q2 h1) ?_
  rintro e w4 ⟨rfl, hc4⟩
  refine ⟨_, rfl, ?_⟩;replace q1 := q1.bl hc4;replace q2 := q2.bl hc4;replace hbw := bo_ hbw hc4;clear hc4;refine EL.val (ZZ rfl) rfl (EL.mv rfl rfl (EL.valg rfl rfl (QG7 rfl) rfl (EL.valg rfl rfl (ld_3 rfl (q1.at (j := 1) rfl)) rfl (EL.newSg rfl rfl (Zy rfl) rfl ?_))));intro g5 w5 q5 hb5 hg5 hl5;have n1_5 := q1.na hg5;have n2_5 := q2.na hg5;have bhbw_5 := Nat.le_trans hbw.size hg5;replace q1 := q1.bl hb5;replace q2 := q2.bl hb5;replace hbw := bo_ hbw hb5;clear hb5 hg5 hl5
  cases h2 : inB 0 20 x.lots
  ·
   refine EL.callg rfl rfl (cA3 cF35 rfl rfl rfl) rfl (Za q5 h2) ?_
   rintro e w6 ⟨rfl, hc6⟩
   refine ⟨_, rfl, ?_⟩;replace q1 := q1.bl hc6;replace q2 := q2.bl hc6;replace q5 := q5.bl hc6;replace hbw := bo_ hbw hc6;clear hc6;refine EL.valg rfl rfl (ZZ rfl) rfl (EL.pf rfl rfl rfl (EL.as rfl rfl (EL.nil (EX.seq (EC.ret ?_)))))
   exact EX.done (res1 rfl rfl) ⟨by congr 2; simp [QDV, *], hbw⟩
  ·
   refine EL.callg rfl rfl (cA3 cF35 rfl rfl rfl) rfl (Za q5 h2) ?_
   rintro e w7 ⟨rfl, hc7⟩
   refine ⟨_, rfl, ?_⟩;replace q1 := q1.bl hc7;replace q2 := q2.bl hc7;replace q5 := q5.bl hc7;replace hbw := bo_ hbw hc7;clear hc7;refine EL.valg rfl rfl (ZZ rfl) rfl (EL.pf rfl rfl rfl (EL.as rfl rfl (EL.nil (EX.seq (EC.ret ?_)))))
   exact EX.done (res1 rfl rfl) ⟨by congr 2; simp [QDV, *], hbw⟩
section
variable {n : Nat} {σ : Sg} {w : World} {dst : Option Tmp} {ty : TypeId} {pos : String} {af : Array Edge} {g : Option (Nat × Bool)} {x y z : Operand} {at' : Array TypeId}
theorem QA1 {b o m c k : Nat} (hx : evS σ x = some (.slice (some ⟨b, o, none⟩) m c)) (hy : evS σ y = some (.int .i64 (k : Int))) (hk : k < m) : ZE Try.prog n σ w ⟨dst, .indexAddr 67 x y, ty, pos, af, g⟩ (.pointer (some ⟨b, o + k * 2, none⟩)) := fun a ha => by
 have k0 : (0 : Int) ≤ (k : Int) := Int.natCast_nonneg _;have k1 : (k : Int) < (m : Int) := by omega
 simp only [execOp, ha.eval hx, ha.eval hy]
 simp [go_sem, k0, k1]
theorem QKz {b o m c lo r : Nat} (hx : evS σ x = some (.slice (some ⟨b, o, none⟩) m c)) (hl : evS σ y = some (.int .i64 (lo : Int))) (h1 : lo ≤ m) (hr : (if c = lo then o else o + lo * 2) = r) : ZE Try.prog n σ w ⟨dst, .slice 67 x (some y) none none, ty, pos, af, g⟩ (.slice (some ⟨b, r, none⟩) (m - lo) (c - lo)) := fun a ha => by
 have k0 : (0 : Int) ≤ (lo : Int) := Int.natCast_nonneg _;have k2 : (lo : Int) ≤ (m : Int) := by omega
 subst hr
 simp only [execOp, Option.map_some, Option.map_none, ha.eval hx, ha.eval hl]
 by_cases e : c = lo
 ·subst e; simp [go_sem, k0, k2, h1]
 ·simp [go_sem, k0, k2, h1, e]
theorem QGx {A : Option Addr} {m c : Nat} (hx : evS σ x = some (.slice A m c)) : ZE Try.prog n σ w ⟨dst, .call { callee := .builtin .len, args := #[x], argTypes := #[67] }, ty, pos, af, g⟩ (.int .i64 (m : Int)) := fun a ha => by
 simp only [execOp, resolve, List.map_toArray, List.map_cons, List.map_nil, ha.eval hx]
 simp [go_sem]
theorem QEg {b o : Nat} {v0 v1 : Value} (hx : evS σ x = some (.pointer (some ⟨b, o, none⟩))) (c0 : w.cell? ⟨b, o, none⟩ = some v0) (c1 : w.cell? ⟨b, o + 1, none⟩ = some v1) : ZE Try.prog n σ w ⟨dst, .load 111 x, ty, pos, af, g⟩ (.agg #[v0, v1]) := fun a ha => by
 simp only [execOp, ha.eval hx]
 simp [go_sem, c0, c1]
theorem QHE    : ZE Try.prog n σ w ⟨dst, .build 111 #[], ty, pos, af, g⟩ (.agg #[.int .i64 0, .int .i64 0]) := fun a _ => by
 simp only [execOp, List.map_toArray, List.map_nil]
 go_simp
theorem QGs {a0 a1 b0 b1 : Int} {r : Bool} (hx : evS σ x = some (.agg #[.int .i64 a0, .int .i64 a1])) (hy : evS σ y = some (.agg #[.int .i64 b0, .int .i64 b1])) (hc : decide (¬ (a0 = b0 ∧ a1 = b1)) = r) : ZE Try.prog n σ w ⟨dst, .binOp .neq 111 x y 111, ty, pos, af, g⟩ (.bool r) := fun a ha => by
 subst hc
 simp only [execOp, ha.eval hx, ha.eval hy]
 go_simp
 repeat' split
 all_goals simp_all
theorem QGW (a : Act) (_ : Env n σ a) : (execOp a.eval ⟨dst, .alloc 111, ty, pos, af, g⟩).run Try.prog w = .ok (.value (.pointer (some ⟨w.heap.size, 0, none⟩))) (w.alloc (.cells #[.int .i64 0, .int .i64 0] 111)) := by
 simp only [execOp]
 simp [go_sem]
theorem QFy : (Try.prog.info? 111).map (·.size) = some 2 := by kernel_rfl
theorem YT {b o : Nat} (hx : evS σ x = some (.pointer (some ⟨b, o, none⟩))) : ZE Try.prog n σ w ⟨dst, .fieldAddr 111 x 0, ty, pos, af, g⟩ (.pointer (some ⟨b, o, none⟩)) := fun a ha => by
 simp only [execOp, ha.eval hx]
 simp [go_sem]
theorem QAH {b o : Nat} (hx : evS σ x = some (.pointer (some ⟨b, o, none⟩))) : ZE Try.prog n σ w ⟨dst, .fieldAddr 111 x 1, ty, pos, af, g⟩ (.pointer (some ⟨b, o + 1, none⟩)) := fun a ha => by
 simp only [execOp, ha.eval hx]
 simp [go_sem]
theorem QKm {v0 v1 v2 v3 v4 : Value} (hx : evS σ x = some (.agg #[v0, v1, v2, v3, v4])) (a : Act) (ha : Env n σ a) : (execOp a.eval ⟨dst, .box 70 x, ty, pos, af, g⟩).run Try.prog w = .ok (.value (.pointer (some ⟨w.heap.size, 0, none⟩))) (w.alloc (.cells #[v0, v1, v2, v3, v4] 70)) := by
 simp only [execOp, ha.eval hx]
 simp [go_sem]
theorem QBw {b o : Nat} (hx : evS σ x = some (.pointer (some ⟨b, o, none⟩))) : ZE Try.prog n σ w ⟨dst, .fieldAddr 70 x 4, ty, pos, af, g⟩ (.pointer (some ⟨b, o + 4, none⟩)) := fun a ha => by
 simp only [execOp, ha.eval hx]
 simp [go_sem]
theorem QGz {b o : Nat} {v0 : Value} (hx : evS σ x = some (.pointer (some ⟨b, o, none⟩))) (c0 : w.cell? ⟨b, o, none⟩ = some v0) : ZE Try.prog n σ w ⟨dst, .load 68 x, ty, pos, af, g⟩ (v0) := fun a ha => by
 simp only [execOp, ha.eval hx]
 simp [go_sem, c0]
theorem QHm {x0 : Operand} {v0 : Value} (h0 : evS σ x0 = some v0) : ZE Try.prog n σ w ⟨dst, .makeFunc (.func 78) #[] #[x0], ty, pos, af, g⟩ (.func (.func 78) #[] #[v0]) := fun a ha => by
 simp only [execOp, List.map_toArray, List.map_cons, List.map_nil, ha.eval h0]
 simp [go_sem]
theorem cF77 : cF 77 := fun _ _ => by simp [go_sem]
theorem QEm {b o : Nat} (hx : evS σ x = some (.pointer (some ⟨b, o, none⟩))) : ZE Try.prog n σ w ⟨dst, .fieldAddr 70 x 1, ty, pos, af, g⟩ (.pointer (some ⟨b, o + 1, none⟩)) := fun a ha => by
 simp only [execOp, ha.eval hx]
 simp [go_sem]
theorem QG6 {b o : Nat} (hx : evS σ x = some (.pointer (some ⟨b, o, none⟩))) : ZE Try.prog n σ w ⟨dst, .fieldAddr 70 x 2, ty, pos, af, g⟩ (.pointer (some ⟨b, o + 2, none⟩)) := fun a ha => by
 simp only [execOp, ha.eval hx]
 simp [go_sem]
theorem Y9 {b o : Nat} (hx : evS σ x = some (.pointer (some ⟨b, o, none⟩))) : ZE Try.prog n σ w ⟨dst, .fieldAddr 70 x 3, ty, pos, af, g⟩ (.pointer (some ⟨b, o + 3, none⟩)) := fun a ha => by
 simp only [execOp, ha.eval hx]
 simp [go_sem]
theorem QCT {b o : Nat} {v0 : Value} (hx : evS σ x = some (.pointer (some ⟨b, o, none⟩))) (c0 : w.cell? ⟨b, o, none⟩ = some v0) : ZE Try.prog n σ w ⟨dst, .load 67 x, ty, pos, af, g⟩ (v0) := fun a ha => by
 simp only [execOp, ha.eval hx]
 simp [go_sem, c0]
theorem cF79 : cF 79 := fun _ _ => by simp [go_sem]
end
theorem QGI {l : List HRow} (h1 : inB 2 20 (l.length : Nat) = true) (h2 : (l.getD 0 ZP).draft = 0) (h3 : (l.getD 0 ZP).vol = 0) (h4 : YM l (l.length - 1) = true) : YP l = true := by simp only [YP, h1, h2, h3, h4]; rfl
theorem QGJ {l : List HRow} (h1 : inB 2 20 (l.length : Nat) = false) : YP l = false := by simp only [YP, h1]; rfl
theorem QFd {l : List HRow} (h : ¬ ((l.getD 0 ZP).draft = 0 ∧ (l.getD 0 ZP).vol = 0)) : YP l = false := by
 cases e : YP l with
 | false => rfl
 | true => exact absurd ⟨(QCO e).d0, (QCO e).v0⟩ h
theorem QCW {l : List HRow} (h : YM l (l.length - 1) = false) : YP l = false := by simp [YP, h]
set_option maxRecDepth 100000 in
theorem QGK (l : List HRow) (v : Value) (w : World) (B : Nat) (hr : Rd w B 2 v l.length (hrowsC l)) (hB : B ≤ w.heap.size) (hlen : l.length ≤ 9223372036854775806) :
  Calls Try.prog 79 #[v] w fun e w' => e = .returned (.bool (YP l)) ∧ Below w.heap.size w w' := by
 obtain ⟨A, c, rfl, hcap⟩ := hr.shape;have hbw := Below.refl w.heap.size w;refine EC.enter 50 Try.func79 rfl rfl rfl (EC.seq (EC.region (EL.as rfl rfl (EL.nil (EX.seq (EC.seq (EC.seq (EC.region (EL.mv rfl rfl ?_)))))))));refine EL.val (QGx rfl) rfl (EL.newS (Zy rfl) rfl ?_);intro g1 w1 q1 hb1 hg1 hl1;have bhbw_1 := Nat.le_trans hbw.size hg1;replace hbw := bo_ hbw hb1;clear hb1 hg1 hl1
 cases h1 : inB 2 20 (l.length : Nat)
 ·
  refine EL.call (cA3 cF35 rfl rfl rfl) rfl (Za q1 h1) ?_
  rintro e w2 ⟨rfl, hc2⟩
  refine ⟨_, rfl, ?_⟩;replace q1 := q1.bl hc2;replace hbw := bo_ hbw hc2;clear hc2;refine EL.val (ZZ rfl) rfl (EL.mv rfl rfl (EL.skip rfl rfl rfl rfl (EL.skip rfl rfl rfl rfl (EL.skip rfl rfl rfl rfl (EL.skip rfl rfl rfl rfl (EL.skip rfl rfl rfl rfl (EL.pt rfl rfl rfl (EL.nil (EX.seq ?_)))))))));refine EC.yes rfl (EC.seq (EC.region (EL.as rfl rfl (EL.nil (EX.seq (EC.ret (EX.seq_ret ?_)))))))
  exact EX.done (res1 rfl rfl) ⟨by rw [QGJ h1], hbw⟩
 ·
  refine EL.call (cA3 cF35 rfl rfl rfl) rfl (Za q1 h1) ?_
  rintro e w3 ⟨rfl, hc3⟩
  refine ⟨_, rfl, ?_⟩;replace q1 := q1.bl hc3;replace hbw := bo_ hbw hc3;clear hc3;refine EL.val (ZZ rfl) rfl (EL.mv rfl rfl (EL.mg rfl rfl rfl rfl ?_));obtain ⟨b, o, rfl, _, cc⟩ := YG l 0 (by have := inB_iff.1 h1; omega) w B _ _ _ hr
  refine EL.valg rfl rfl (QA1 rfl rfl (k := 0) (by have := inB_iff.1 h1; omega)) rfl ?_
  refine EL.valg rfl rfl (QEg rfl (ZD hbw cc.c0) (ZD hbw cc.c1)) rfl (EL.valg rfl rfl (QHE) rfl ?_)
  by_cases h2 : ¬ ((l.getD 0 ZP).draft = 0 ∧ (l.getD 0 ZP).vol = 0)
  ·
   refine EL.valg rfl rfl (QGs rfl rfl (decide_eq_true h2)) rfl (EL.pf rfl rfl rfl (EL.nil (EX.seq (EC.yes rfl (EC.seq (EC.region (EL.as rfl rfl (EL.nil (EX.seq ?_)))))))));refine EC.ret (EX.seq_ret ?_)
   exact EX.done (res1 rfl rfl) ⟨by rw [QFd h2], hbw⟩
  ·
   refine EL.valg rfl rfl (QGs rfl rfl (decide_eq_false h2)) rfl (EL.pf rfl rfl rfl (EL.nil (EX.seq (EC.no rfl (EC.skip (EX.seq (EC.seq (EC.seq (EC.region ?_)))))))));have hz := Classical.not_not.1 h2;have hn_ := inB_iff.1 h1;have hsm : YM l 0 = true := rfl;refine EL.mv rfl rfl ?_;refine EL.val (QKz (lo := 1) rfl rfl (by omega) (if_neg (by omega))) rfl ?_
   refine EL.val (QGx rfl) rfl (EL.mv rfl rfl (EL.nil (EX.seq (EC.block ?_))));refine EC.loopD [2, 3, 4, 20, 21, 22, 23, 24, 25, 26, 27, 28, 29, 30, 31, 32, 33, 34, 35, 36, 37, 38, 39, 40, 41, 42, 43, 44, 45, 46, 47, 48, 49] (fun x : Nat => [(20, .int .i64 (x : Nat))]) (fun x W => x ≤ l.length - 1 ∧ YM l x = true ∧ Below w.heap.size w W) (fun x => l.length - 1 - x) 0 ⟨Nat.zero_le _, rfl, hbw⟩ ⟨rfl, trivial⟩ ?_
   clear hbw
   rintro k wk ⟨hk, hst, hbw⟩
   by_cases hlt : k < l.length - 1
   ·
    obtain ⟨b1, o1, eb1, _, cy⟩ := YG l (k + 1) (by omega) w B _ _ _ hr
    injection eb1 with eb1
    injection eb1 with e1 e2
    subst e1 e2;obtain ⟨b1, o1, eb1, _, cx⟩ := YG l k (by omega) w B _ _ _ hr
    injection eb1 with eb1
    injection eb1 with e1 e2
    subst e1 e2;have hbd := QC0 hz.1 hz.2 k hst;have hon := QCQ l k;have hno := QIK (l := l) (n := l.length - 1) (k := k) hlt
    unfold QC1 at hon hno
    obtain ⟨p, ep⟩ : ∃ z, z = l.getD k ZP := ⟨_, rfl⟩;obtain ⟨y, ey⟩ : ∃ z, z = l.getD (k + 1) ZP := ⟨_, rfl⟩;rw [← ep, ← ey] at hon hno;rw [← ep] at hbd cx;rw [← ey] at cy;have cy0 : w.cell? ⟨b, o + 1 * 2 + k * 2, none⟩ = some (.int .i64 y.draft) := by rw [show o + 1 * 2 + k * 2 = o + (k + 1) * 2 by omega]; exact cy.c0
    have cy1 : w.cell? ⟨b, o + 1 * 2 + k * 2 + 1, none⟩ = some (.int .i64 y.vol) := by rw [show o + 1 * 2 + k * 2 = o + (k + 1) * 2 by omega]; exact cy.c1
    refine EC.seq (EC.region ?_);refine EL.val (ZL rfl rfl (decide_eq_true (by omega))) rfl ?_
    refine EL.nil (EX.seq (EC.seq (EC.yes rfl (EC.skip (EX.seq (EC.seq (EC.block (EC.seq (EC.region ?_)))))))));refine EL.mv rfl rfl ?_;refine EL.val (QA1 rfl rfl (by omega)) rfl ?_
    refine EL.val (QEg rfl (ZD hbw cy0) (ZD hbw cy1)) rfl (EL.newP QGW rfl ?_);intro g4 w4 q4 hb4 hg4 hl4;have bhbw_4 := Nat.le_trans hbw.size hg4;replace hbw := bo_ hbw hb4;clear hb4 hg4 hl4;refine EL.as rfl rfl (EL.store rfl rfl q4 QFy rfl rfl rfl rfl ?_);intro w5 hq5 hg5;replace hbw := ZC hbw hg5 bhbw_4;replace q4 := hq5;clear hg5 hq5;refine EL.nil (EX.seq (EC.seq ?_))
    cases h3 : inB (p.draft + 1) 1000 y.draft
    ·
     have hsn := hno (by rw [h3]; rfl)
     have lt_4 := q4.lt;refine EC.regionP [[], [], [0, 1], [0, 1, 2], [0, 1, 2, 3], [0, 1, 2, 3, 4], [], [6], [6, 7], [0, 1, 2, 3, 4, 5, 6, 7, 8], [0, 1, 2, 3, 4, 5, 6, 7, 8, 9], [0, 1, 2, 3, 4, 5, 6, 7, 8, 9, 10], [0, 1, 2, 3, 4, 5, 6, 7, 8, 9, 10, 11], [0, 1, 2, 3, 4, 5, 6, 7, 8, 9, 10, 11], [0, 1, 2, 3, 4, 5, 6, 7, 8, 9, 10, 11, 12, 13], [0, 1, 2, 3, 4, 5, 6, 7, 8, 9, 10, 11, 12, 13, 14], [0, 1, 2, 3, 4, 5, 6, 7, 8, 9, 10, 11, 12, 13, 14, 15], [0, 1, 2, 3, 4, 5, 6, 7, 8, 9, 10, 11, 12, 13, 14, 15, 16], [0, 1, 2, 3, 4, 5, 6, 7, 8, 9, 10, 11], [0, 1, 2, 3, 4, 5, 6, 7, 8, 9, 10, 11, 18], [0, 1, 2, 3, 4, 5, 6, 7, 8, 9, 10, 11, 18, 19], [0, 1, 2, 3, 4, 5, 6, 7, 8, 9, 10, 11, 12, 13, 14, 15, 16, 17, 18, 19, 20], [0, 1, 2, 3, 4, 5, 6, 7, 8, 9, 10, 11, 12, 13, 14, 15, 16, 17, 18, 19, 20, 21], [0, 1, 2, 3, 4, 5, 6, 7, 8, 9, 10, 11, 12, 13, 14, 15, 16, 17, 18, 19, 20, 21, 22]] 24 [] (phi (fun i_ r => match i_ with | 0 => r 0 = .slice (some ⟨b, o, none⟩) l.length c | 1 => r 1 = .int .i64 (k : Nat) | 2 => r 2 = .pointer (some ⟨b, o + k * 2, none⟩) | 3 => r 3 = .pointer (some ⟨b, o + k * 2, none⟩) | 4 => r 4 = .int .i64 p.draft | 5 => r 5 = .int .i64 (p.draft + 1) | 6 => r 6 = .pointer (some ⟨g4, 0, none⟩) | 7 => r 7 = .int .i64 y.draft | 9 => r 9 = .bool false | 10 => r 10 = .bool true | 11 => r 11 = .bool true | 12 => r 12 = undef | 13 => r 13 = undef | 14 => r 14 = undef | 15 => r 15 = undef | 16 => r 16 = undef | 17 => r 17 = undef | 18 => r 18 = undef | 19 => r 19 = undef | 20 => r 20 = undef | 21 => r 21 = undef | 22 => r 22 = undef | 23 => r 23 = .bool true | _ => True) [(8, fun r w_ => ∃ g_, r 8 = .slice (some ⟨g_, 0, none⟩) 1 1 ∧ Blk w_ g_ 3 #[.int .i64 y.draft] ∧ w5.heap.size ≤ g_)]) (by kernel_rfl) rfl rfl (ZX Z1 (Zd)) (fun i_ hi_ => ?_) ?_
     ·match i_, hi_ with
      | 0, _ =>
       intro val w1 a hb ha hd;have ha := ha.s0 (d := 0) rfl
       exact ZB ha rfl rfl (ZI rfl) rfl rfl
      | 1, _ =>
       intro val w1 a hb ha hd;have ha := ha.s0 (d := 3) rfl
       exact ZB ha rfl rfl (ZI rfl) rfl rfl
      | 2, _ =>
       intro val w1 a hb ha hd;have e0 : val 0 = _ := hd 0 (ZA.1 rfl);have e1 : val 1 = _ := hd 1 (ZA.1 rfl);have ha := ha.s2 (d := 26) (e := 25) rfl e1 rfl e0
       exact ZB ha rfl rfl (QA1 rfl rfl (show k < l.length by omega)) rfl rfl
      | 3, _ =>
       intro val w1 a hb ha hd;have e2 : val 2 = _ := hd 2 (ZA.1 rfl);have ha := ha.s1 (d := 27) rfl e2
       exact ZB ha rfl rfl (YT rfl) rfl rfl
      | 4, _ =>
       intro val w1 a hb ha hd;have e3 : val 3 = _ := hd 3 (ZA.1 rfl);have ha := ha.s1 (d := 28) rfl e3
       exact ZB ha rfl rfl (ld_3 rfl (ZD ((hbw.trans (hb.mono hbw.size))) cx.c0)) rfl rfl
      | 5, _ =>
       intro val w1 a hb ha hd;have e4 : val 4 = _ := hd 4 (ZA.1 rfl);have ha := ha.s1 (d := 29) rfl e4
       exact ZB ha rfl rfl (ZM rfl rfl (IntWalk.i64_in _ ⟨by omega, by omega⟩)) rfl rfl
      | 6, _ =>
       intro val w1 a hb ha hd;have ha := ha.s0 (d := 4) rfl
       exact ZB ha rfl rfl (YT rfl) rfl rfl
      | 7, _ =>
       intro val w1 a hb ha hd;have e6 : val 6 = _ := hd 6 (ZA.1 rfl);have ha := ha.s1 (d := 31) rfl e6
       exact ZB ha rfl rfl (ld_3 rfl ((q4.below hb q4.lt).at (j := 0) rfl)) rfl rfl
      | 8, _ =>
       intro val w1 a hb ha hd;have e7 : val 7 = _ := hd 7 (ZA.1 rfl);have ha := ha.s1 (d := 32) rfl e7
       exact YJ ha rfl rfl (Zy rfl) rfl (fun g w' hq _ hge => ⟨g, rfl, hq, Nat.le_trans hb.size hge⟩)
      | 9, _ =>
       intro val w1 a hb ha hd;have e5 : val 5 = _ := hd 5 (ZA.1 rfl);obtain ⟨g8_, e8, q8_, h8_⟩ := hd 8 (ZA.1 rfl);change val 8 = _ at e8;have ha := ha.s2 (d := 33) (e := 30) rfl e8 rfl e5;refine Zf ha rfl rfl (cA3 cF35 rfl rfl rfl) (Za q8_ h3) rfl ?_
       rintro e w' ⟨rfl, hb'⟩
       exact ⟨_, rfl, hb', rfl⟩
      | 10, _ =>
       intro val w1 a hb ha hd;have e9 : val 9 = _ := hd 9 (ZA.1 rfl);have ha := ha.s1 (d := 34) rfl e9
       exact ZB ha rfl rfl (ZZ rfl) rfl rfl
      | 11, _ =>
       intro val w1 a hb ha hd;have e10 : val 10 = _ := hd 10 (ZA.1 rfl);have ha := ha.s1 (d := 35) rfl e10
       exact ZB ha rfl rfl (ZI rfl) rfl rfl
      | 12, _ =>
       intro val w1 a hb ha hd;have e11 : val 11 = _ := hd 11 (ZA.1 rfl);have ha := ha.s1 (d := 36) rfl e11
       exact Yj ha rfl rfl rfl rfl rfl rfl rfl
      | 13, _ =>
       intro val w1 a hb ha hd;have e11 : val 11 = _ := hd 11 (ZA.1 rfl);have ha := ha.s1 (d := 36) rfl e11
       exact Yj ha rfl rfl rfl rfl rfl rfl rfl
      | 14, _ =>
       intro val w1 a hb ha hd;have e11 : val 11 = _ := hd 11 (ZA.1 rfl);have ha := ha.s1 (d := 36) rfl e11
       exact Yj ha rfl rfl rfl rfl rfl rfl rfl
      | 15, _ =>
       intro val w1 a hb ha hd;have e11 : val 11 = _ := hd 11 (ZA.1 rfl);have ha := ha.s1 (d := 36) rfl e11
       exact Yj ha rfl rfl rfl rfl rfl rfl rfl
      | 16, _ =>
       intro val w1 a hb ha hd;have e11 : val 11 = _ := hd 11 (ZA.1 rfl);have ha := ha.s1 (d := 36) rfl e11
       exact Yj ha rfl rfl rfl rfl rfl rfl rfl
      | 17, _ =>
       intro val w1 a hb ha hd;have e11 : val 11 = _ := hd 11 (ZA.1 rfl);have ha := ha.s1 (d := 36) rfl e11
       exact Yj ha rfl rfl rfl rfl rfl rfl rfl
      | 18, _ =>
       intro val w1 a hb ha hd;have e11 : val 11 = _ := hd 11 (ZA.1 rfl);have ha := ha.s1 (d := 36) rfl e11
       exact Yj ha rfl rfl rfl rfl rfl rfl rfl
      | 19, _ =>
       intro val w1 a hb ha hd;have e11 : val 11 = _ := hd 11 (ZA.1 rfl);have ha := ha.s1 (d := 36) rfl e11
       exact Yj ha rfl rfl rfl rfl rfl rfl rfl
      | 20, _ =>
       intro val w1 a hb ha hd;have e11 : val 11 = _ := hd 11 (ZA.1 rfl);have ha := ha.s1 (d := 36) rfl e11
       exact Yj ha rfl rfl rfl rfl rfl rfl rfl
      | 21, _ =>
       intro val w1 a hb ha hd;have e11 : val 11 = _ := hd 11 (ZA.1 rfl);have ha := ha.s1 (d := 36) rfl e11
       exact Yj ha rfl rfl rfl rfl rfl rfl rfl
      | 22, _ =>
       intro val w1 a hb ha hd;have e11 : val 11 = _ := hd 11 (ZA.1 rfl);have ha := ha.s1 (d := 36) rfl e11
       exact Yj ha rfl rfl rfl rfl rfl rfl rfl
      | 23, _ =>
       intro val w1 a hb ha hd;have e11 : val 11 = _ := hd 11 (ZA.1 rfl);have e22 : val 22 = _ := hd 22 (ZA.1 rfl);have ha := ha.s2 (d := 47) (e := 36) rfl e22 rfl e11
       exact ZB ha rfl rfl (ZJ rfl rfl) rfl rfl
      | k + 24, h => exact absurd h (by omega)
     ·intro val wR6 hb halc hd
      have e0 : val 0 = _ := hd 0 (by omega)
      have e1 : val 1 = _ := hd 1 (by omega)
      have e2 : val 2 = _ := hd 2 (by omega)
      have e3 : val 3 = _ := hd 3 (by omega)
      have e4 : val 4 = _ := hd 4 (by omega)
      have e5 : val 5 = _ := hd 5 (by omega)
      have e6 : val 6 = _ := hd 6 (by omega)
      have e7 : val 7 = _ := hd 7 (by omega)
      obtain ⟨ga8_6, e8, qa8_6, hga8_6⟩ := hd 8 (by omega)
      change val 8 = _ at e8;change Blk wR6 ga8_6 3 #[.int .i64 y.draft] at qa8_6;have e9 : val 9 = _ := hd 9 (by omega)
      have e10 : val 10 = _ := hd 10 (by omega)
      have e11 : val 11 = _ := hd 11 (by omega)
      have e12 : val 12 = _ := hd 12 (by omega)
      have e13 : val 13 = _ := hd 13 (by omega)
      have e14 : val 14 = _ := hd 14 (by omega)
      have e15 : val 15 = _ := hd 15 (by omega)
      have e16 : val 16 = _ := hd 16 (by omega)
      have e17 : val 17 = _ := hd 17 (by omega)
      have e18 : val 18 = _ := hd 18 (by omega)
      have e19 : val 19 = _ := hd 19 (by omega)
      have e20 : val 20 = _ := hd 20 (by omega)
      have e21 : val 21 = _ := hd 21 (by omega)
      have e22 : val 22 = _ := hd 22 (by omega)
      have e23 : val 23 = _ := hd 23 (by omega)
      refine EL.ends (cs := [_, _, _, _, _, _, _, _, _, _, _, _, _, _, _, _, _, _, _, _, _, _, _, _]) ⟨e0, e1, e2, e3, e4, e5, e6, e7, e8, e9, e10, e11, e12, e13, e14, e15, e16, e17, e18, e19, e20, e21, e22, e23, trivial⟩ rfl ?_;replace q4 := q4.bl hb;have n4_6 : g4 ≠ ga8_6 := Nat.ne_of_lt (Nat.lt_of_lt_of_le lt_4 hga8_6);have bhbw_6 := Nat.le_trans hbw.size hga8_6;replace hbw := bo_ hbw hb;clear hb;refine EL.nil (EX.seq (EC.yes rfl (EC.seq (EC.region (EL.as rfl rfl (EL.nil (EX.seq (EC.ret (EX.blk_ret ?_)))))))));refine EX.seq_ret (EX.seq_ret (EX.blk_ret (EX.seq_ret ?_)))
      exact EX.done (res1 rfl rfl) ⟨by rw [QCW hsn], hbw⟩
    ·
     cases h4 : inB (p.vol + 1) 100000 y.vol
     ·
      have hsn := hno (by rw [h3, h4]; rfl)
      have lt_4 := q4.lt;refine EC.regionP [[], [], [0, 1], [0, 1, 2], [0, 1, 2, 3], [0, 1, 2, 3, 4], [], [6], [6, 7], [0, 1, 2, 3, 4, 5, 6, 7, 8], [0, 1, 2, 3, 4, 5, 6, 7, 8, 9], [0, 1, 2, 3, 4, 5, 6, 7, 8, 9, 10], [0, 1, 2, 3, 4, 5, 6, 7, 8, 9, 10, 11], [0, 1, 2, 3, 4, 5, 6, 7, 8, 9, 10, 11], [0, 1, 2, 3, 4, 5, 6, 7, 8, 9, 10, 11, 12, 13], [0, 1, 2, 3, 4, 5, 6, 7, 8, 9, 10, 11, 12, 13, 14], [0, 1, 2, 3, 4, 5, 6, 7, 8, 9, 10, 11, 12, 13, 14, 15], [0, 1, 2, 3, 4, 5, 6, 7, 8, 9, 10, 11, 12, 13, 14, 15, 16], [0, 1, 2, 3, 4, 5, 6, 7, 8, 9, 10, 11], [0, 1, 2, 3, 4, 5, 6, 7, 8, 9, 10, 11, 18], [0, 1, 2, 3, 4, 5, 6, 7, 8, 9, 10, 11, 18, 19], [0, 1, 2, 3, 4, 5, 6, 7, 8, 9, 10, 11, 12, 13, 14, 15, 16, 17, 18, 19, 20], [0, 1, 2, 3, 4, 5, 6, 7, 8, 9, 10, 11, 12, 13, 14, 15, 16, 17, 18, 19, 20, 21], [0, 1, 2, 3, 4, 5, 6, 7, 8, 9, 10, 11, 12, 13, 14, 15, 16, 17, 18, 19, 20, 21, 22]] 24 [] (phi (fun i_ r => match i_ with | 0 => r 0 = .slice (some ⟨b, o, none⟩) l.length c | 1 => r 1 = .int .i64 (k : Nat) | 2 => r 2 = .pointer (some ⟨b, o + k * 2, none⟩) | 3 => r 3 = .pointer (some ⟨b, o + k * 2, none⟩) | 4 => r 4 = .int .i64 p.draft | 5 => r 5 = .int .i64 (p.draft + 1) | 6 => r 6 = .pointer (some ⟨g4, 0, none⟩) | 7 => r 7 = .int .i64 y.draft | 9 => r 9 = .bool true | 10 => r 10 = .bool false | 11 => r 11 = .bool false | 12 => r 12 = .slice (some ⟨b, o, none⟩) l.length c | 13 => r 13 = .int .i64 (k : Nat) | 14 => r 14 = .pointer (some ⟨b, o + k * 2, none⟩) | 15 => r 15 = .pointer (some ⟨b, o + k * 2 + 1, none⟩) | 16 => r 16 = .int .i64 p.vol | 17 => r 17 = .int .i64 (p.vol + 1) | 18 => r 18 = .pointer (some ⟨g4, 1, none⟩) | 19 => r 19 = .int .i64 y.vol | 21 => r 21 = .bool false | 22 => r 22 = .bool true | 23 => r 23 = .bool true | _ => True) [(8, fun r w_ => ∃ g_, r 8 = .slice (some ⟨g_, 0, none⟩) 1 1 ∧ Blk w_ g_ 3 #[.int .i64 y.draft] ∧ w5.heap.size ≤ g_), (20, fun r w_ => ∃ g_, r 20 = .slice (some ⟨g_, 0, none⟩) 1 1 ∧ Blk w_ g_ 3 #[.int .i64 y.vol] ∧ w5.heap.size ≤ g_)]) (by kernel_rfl) rfl rfl (ZX Z1 (ZX Z1 (Zd))) (fun i_ hi_ => ?_) ?_
      ·match i_, hi_ with
       | 0, _ =>
        intro val w1 a hb ha hd;have ha := ha.s0 (d := 0) rfl
        exact ZB ha rfl rfl (ZI rfl) rfl rfl
       | 1, _ =>
        intro val w1 a hb ha hd;have ha := ha.s0 (d := 3) rfl
        exact ZB ha rfl rfl (ZI rfl) rfl rfl
       | 2, _ =>
        intro val w1 a hb ha hd;have e0 : val 0 = _ := hd 0 (ZA.1 rfl);have e1 : val 1 = _ := hd 1 (ZA.1 rfl);have ha := ha.s2 (d := 26) (e := 25) rfl e1 rfl e0
        exact ZB ha rfl rfl (QA1 rfl rfl (show k < l.length by omega)) rfl rfl
       | 3, _ =>
        intro val w1 a hb ha hd;have e2 : val 2 = _ := hd 2 (ZA.1 rfl);have ha := ha.s1 (d := 27) rfl e2
        exact ZB ha rfl rfl (YT rfl) rfl rfl
       | 4, _ =>
        intro val w1 a hb ha hd;have e3 : val 3 = _ := hd 3 (ZA.1 rfl);have ha := ha.s1 (d := 28) rfl e3
        exact ZB ha rfl rfl (ld_3 rfl (ZD ((hbw.trans (hb.mono hbw.size))) cx.c0)) rfl rfl
       | 5, _ =>
        intro val w1 a hb ha hd;have e4 : val 4 = _ := hd 4 (ZA.1 rfl);have ha := ha.s1 (d := 29) rfl e4
        exact ZB ha rfl rfl (ZM rfl rfl (IntWalk.i64_in _ ⟨by omega, by omega⟩)) rfl rfl
       | 6, _ =>
        intro val w1 a hb ha hd;have ha := ha.s0 (d := 4) rfl
        exact ZB ha rfl rfl (YT rfl) rfl rfl
       | 7, _ =>
        intro val w1 a hb ha hd;have e6 : val 6 = _ := hd 6 (ZA.1 rfl);have ha := ha.s1 (d := 31) rfl e6
        exact ZB ha rfl rfl (ld_3 rfl ((q4.below hb q4.lt).at (j := 0) rfl)) rfl rfl
       | 8, _ =>
        intro val w1 a hb ha hd;have e7 : val 7 = _ := hd 7 (ZA.1 rfl);have ha := ha.s1 (d := 32) rfl e7
        exact YJ ha rfl rfl (Zy rfl) rfl (fun g w' hq _ hge => ⟨g, rfl, hq, Nat.le_trans hb.size hge⟩)
       | 9, _ =>
        intro val w1 a hb ha hd;have e5 : val 5 = _ := hd 5 (ZA.1 rfl);obtain ⟨g8_, e8, q8_, h8_⟩ := hd 8 (ZA.1 rfl);change val 8 = _ at e8;have ha := ha.s2 (d := 33) (e := 30) rfl e8 rfl e5;refine Zf ha rfl rfl (cA3 cF35 rfl rfl rfl) (Za q8_ h3) rfl ?_
        rintro e w' ⟨rfl, hb'⟩
        exact ⟨_, rfl, hb', rfl⟩
       | 10, _ =>
        intro val w1 a hb ha hd;have e9 : val 9 = _ := hd 9 (ZA.1 rfl);have ha := ha.s1 (d := 34) rfl e9
        exact ZB ha rfl rfl (ZZ rfl) rfl rfl
       | 11, _ =>
        intro val w1 a hb ha hd;have e10 : val 10 = _ := hd 10 (ZA.1 rfl);have ha := ha.s1 (d := 35) rfl e10
        exact ZB ha rfl rfl (ZI rfl) rfl rfl
       | 12, _ =>
        intro val w1 a hb ha hd;have e11 : val 11 = _ := hd 11 (ZA.1 rfl);have ha := ha.sub (Sub.ins (d := 36) (Sub.ins (d := 0) (Sub.nil _) rfl) (ZG rfl e11))
        exact Z7 ha rfl rfl rfl rfl (ZI rfl) rfl rfl
       | 13, _ =>
        intro val w1 a hb ha hd;have e11 : val 11 = _ := hd 11 (ZA.1 rfl);have ha := ha.sub (Sub.ins (d := 36) (Sub.ins (d := 3) (Sub.nil _) rfl) (ZG rfl e11))
        exact Z7 ha rfl rfl rfl rfl (ZI rfl) rfl rfl
       | 14, _ =>
        intro val w1 a hb ha hd;have e12 : val 12 = _ := hd 12 (ZA.1 rfl);have e13 : val 13 = _ := hd 13 (ZA.1 rfl);have e11 : val 11 = _ := hd 11 (ZA.1 rfl);have ha := ha.sub (Sub.ins (d := 36) (Sub.ins (d := 38) (Sub.ins (d := 37) (Sub.nil _) (ZG rfl e12)) (ZG rfl e13)) (ZG rfl e11))
        exact Z7 ha rfl rfl rfl rfl (QA1 rfl rfl (show k < l.length by omega)) rfl rfl
       | 15, _ =>
        intro val w1 a hb ha hd;have e14 : val 14 = _ := hd 14 (ZA.1 rfl);have e11 : val 11 = _ := hd 11 (ZA.1 rfl);have ha := ha.s2 (d := 36) (e := 39) rfl e11 rfl e14
        exact Z7 ha rfl rfl rfl rfl (QAH rfl) rfl rfl
       | 16, _ =>
        intro val w1 a hb ha hd;have e15 : val 15 = _ := hd 15 (ZA.1 rfl);have e11 : val 11 = _ := hd 11 (ZA.1 rfl);have ha := ha.s2 (d := 36) (e := 40) rfl e11 rfl e15
        exact Z7 ha rfl rfl rfl rfl (ld_3 rfl (ZD ((hbw.trans (hb.mono hbw.size))) cx.c1)) rfl rfl
       | 17, _ =>
        intro val w1 a hb ha hd;have e16 : val 16 = _ := hd 16 (ZA.1 rfl);have e11 : val 11 = _ := hd 11 (ZA.1 rfl);have ha := ha.s2 (d := 36) (e := 41) rfl e11 rfl e16
        exact Z7 ha rfl rfl rfl rfl (ZM rfl rfl (IntWalk.i64_in _ ⟨by omega, by omega⟩)) rfl rfl
       | 18, _ =>
        intro val w1 a hb ha hd;have e11 : val 11 = _ := hd 11 (ZA.1 rfl);have ha := ha.sub (Sub.ins (d := 36) (Sub.ins (d := 4) (Sub.nil _) rfl) (ZG rfl e11))
        exact Z7 ha rfl rfl rfl rfl (QAH rfl) rfl rfl
       | 19, _ =>
        intro val w1 a hb ha hd;have e18 : val 18 = _ := hd 18 (ZA.1 rfl);have e11 : val 11 = _ := hd 11 (ZA.1 rfl);have ha := ha.s2 (d := 36) (e := 43) rfl e11 rfl e18
        exact Z7 ha rfl rfl rfl rfl (ld_3 rfl ((q4.below hb q4.lt).at (j := 1) rfl)) rfl rfl
       | 20, _ =>
        intro val w1 a hb ha hd;have e19 : val 19 = _ := hd 19 (ZA.1 rfl);have e11 : val 11 = _ := hd 11 (ZA.1 rfl);have ha := ha.s2 (d := 36) (e := 44) rfl e11 rfl e19
        exact QFb ha rfl rfl rfl rfl (Zy rfl) rfl (fun g w' hq _ hge => ⟨g, rfl, hq, Nat.le_trans hb.size hge⟩)
       | 21, _ =>
        intro val w1 a hb ha hd;have e17 : val 17 = _ := hd 17 (ZA.1 rfl);obtain ⟨g20_, e20, q20_, h20_⟩ := hd 20 (ZA.1 rfl);change val 20 = _ at e20;have e11 : val 11 = _ := hd 11 (ZA.1 rfl);have ha := ha.sub (Sub.ins (d := 36) (Sub.ins (d := 45) (Sub.ins (d := 42) (Sub.nil _) (ZG rfl e17)) (ZG rfl e20)) (ZG rfl e11));refine QFc ha rfl rfl rfl rfl (cA3 cF35 rfl rfl rfl) (Za q20_ h4) rfl ?_
        rintro e w' ⟨rfl, hb'⟩
        exact ⟨_, rfl, hb', rfl⟩
       | 22, _ =>
        intro val w1 a hb ha hd;have e21 : val 21 = _ := hd 21 (ZA.1 rfl);have e11 : val 11 = _ := hd 11 (ZA.1 rfl);have ha := ha.s2 (d := 36) (e := 46) rfl e11 rfl e21
        exact Z7 ha rfl rfl rfl rfl (ZZ rfl) rfl rfl
       | 23, _ =>
        intro val w1 a hb ha hd;have e11 : val 11 = _ := hd 11 (ZA.1 rfl);have e22 : val 22 = _ := hd 22 (ZA.1 rfl);have ha := ha.s2 (d := 47) (e := 36) rfl e22 rfl e11
        exact ZB ha rfl rfl (ZR rfl rfl) rfl rfl
       | k + 24, h => exact absurd h (by omega)
      ·intro val wR6 hb halc hd
       have e0 : val 0 = _ := hd 0 (by omega)
       have e1 : val 1 = _ := hd 1 (by omega)
       have e2 : val 2 = _ := hd 2 (by omega)
       have e3 : val 3 = _ := hd 3 (by omega)
       have e4 : val 4 = _ := hd 4 (by omega)
       have e5 : val 5 = _ := hd 5 (by omega)
       have e6 : val 6 = _ := hd 6 (by omega)
       have e7 : val 7 = _ := hd 7 (by omega)
       obtain ⟨ga8_6, e8, qa8_6, hga8_6⟩ := hd 8 (by omega)
       change val 8 = _ at e8;change Blk wR6 ga8_6 3 #[.int .i64 y.draft] at qa8_6;have e9 : val 9 = _ := hd 9 (by omega)
       have e10 : val 10 = _ := hd 10 (by omega)
       have e11 : val 11 = _ := hd 11 (by omega)
       have e12 : val 12 = _ := hd 12 (by omega)
       have e13 : val 13 = _ := hd 13 (by omega)
       have e14 : val 14 = _ := hd 14 (by omega)
       have e15 : val 15 = _ := hd 15 (by omega)
       have e16 : val 16 = _ := hd 16 (by omega)
       have e17 : val 17 = _ := hd 17 (by omega)
       have e18 : val 18 = _ := hd 18 (by omega)
       have e19 : val 19 = _ := hd 19 (by omega)
       obtain ⟨ga20_6, e20, qa20_6, hga20_6⟩ := hd 20 (by omega)
       change val 20 = _ at e20;change Blk wR6 ga20_6 3 #[.int .i64 y.vol] at qa20_6;have e21 : val 21 = _ := hd 21 (by omega)
       have e22 : val 22 = _ := hd 22 (by omega)
       have e23 : val 23 = _ := hd 23 (by omega)
       refine EL.ends (cs := [_, _, _, _, _, _, _, _, _, _, _, _, _, _, _, _, _, _, _, _, _, _, _, _]) ⟨e0, e1, e2, e3, e4, e5, e6, e7, e8, e9, e10, e11, e12, e13, e14, e15, e16, e17, e18, e19, e20, e21, e22, e23, trivial⟩ rfl ?_;replace q4 := q4.bl hb;have n4_7 : g4 ≠ ga8_6 := Nat.ne_of_lt (Nat.lt_of_lt_of_le lt_4 hga8_6);have bhbw_7 := Nat.le_trans hbw.size hga8_6;have n4_8 : g4 ≠ ga20_6 := Nat.ne_of_lt (Nat.lt_of_lt_of_le lt_4 hga20_6);have bhbw_8 := Nat.le_trans hbw.size hga20_6;replace hbw := bo_ hbw hb;clear hb;refine EL.nil (EX.seq (EC.yes rfl (EC.seq (EC.region (EL.as rfl rfl (EL.nil (EX.seq (EC.ret (EX.blk_ret ?_)))))))));refine EX.seq_ret (EX.seq_ret (EX.blk_ret (EX.seq_ret ?_)))
       exact EX.done (res1 rfl rfl) ⟨by rw [QCW hsn], hbw⟩
     ·
      have hyes : YM l (k + 1) = true := by rw [hon, hst, h3, h4]; rfl
      have lt_4 := q4.lt;refine EC.regionP [[], [], [0, 1], [0, 1, 2], [0, 1, 2, 3], [0, 1, 2, 3, 4], [], [6], [6, 7], [0, 1, 2, 3, 4, 5, 6, 7, 8], [0, 1, 2, 3, 4, 5, 6, 7, 8, 9], [0, 1, 2, 3, 4, 5, 6, 7, 8, 9, 10], [0, 1, 2, 3, 4, 5, 6, 7, 8, 9, 10, 11], [0, 1, 2, 3, 4, 5, 6, 7, 8, 9, 10, 11], [0, 1, 2, 3, 4, 5, 6, 7, 8, 9, 10, 11, 12, 13], [0, 1, 2, 3, 4, 5, 6, 7, 8, 9, 10, 11, 12, 13, 14], [0, 1, 2, 3, 4, 5, 6, 7, 8, 9, 10, 11, 12, 13, 14, 15], [0, 1, 2, 3, 4, 5, 6, 7, 8, 9, 10, 11, 12, 13, 14, 15, 16], [0, 1, 2, 3, 4, 5, 6, 7, 8, 9, 10, 11], [0, 1, 2, 3, 4, 5, 6, 7, 8, 9, 10, 11, 18], [0, 1, 2, 3, 4, 5, 6, 7, 8, 9, 10, 11, 18, 19], [0, 1, 2, 3, 4, 5, 6, 7, 8, 9, 10, 11, 12, 13, 14, 15, 16, 17, 18, 19, 20], [0, 1, 2, 3, 4, 5, 6, 7, 8, 9, 10, 11, 12, 13, 14, 15, 16, 17, 18, 19, 20, 21], [0, 1, 2, 3, 4, 5, 6, 7, 8, 9, 10, 11, 12, 13, 14, 15, 16, 17, 18, 19, 20, 21, 22]] 24 [] (phi (fun i_ r => match i_ with | 0 => r 0 = .slice (some ⟨b, o, none⟩) l.length c | 1 => r 1 = .int .i64 (k : Nat) | 2 => r 2 = .pointer (some ⟨b, o + k * 2, none⟩) | 3 => r 3 = .pointer (some ⟨b, o + k * 2, none⟩) | 4 => r 4 = .int .i64 p.draft | 5 => r 5 = .int .i64 (p.draft + 1) | 6 => r 6 = .pointer (some ⟨g4, 0, none⟩) | 7 => r 7 = .int .i64 y.draft | 9 => r 9 = .bool true | 10 => r 10 = .bool false | 11 => r 11 = .bool false | 12 => r 12 = .slice (some ⟨b, o, none⟩) l.length c | 13 => r 13 = .int .i64 (k : Nat) | 14 => r 14 = .pointer (some ⟨b, o + k * 2, none⟩) | 15 => r 15 = .pointer (some ⟨b, o + k * 2 + 1, none⟩) | 16 => r 16 = .int .i64 p.vol | 17 => r 17 = .int .i64 (p.vol + 1) | 18 => r 18 = .pointer (some ⟨g4, 1, none⟩) | 19 => r 19 = .int .i64 y.vol | 21 => r 21 = .bool true | 22 => r 22 = .bool false | 23 => r 23 = .bool false | _ => True) [(8, fun r w_ => ∃ g_, r 8 = .slice (some ⟨g_, 0, none⟩) 1 1 ∧ Blk w_ g_ 3 #[.int .i64 y.draft] ∧ w5.heap.size ≤ g_), (20, fun r w_ => ∃ g_, r 20 = .slice (some ⟨g_, 0, none⟩) 1 1 ∧ Blk w_ g_ 3 #[.int .i64 y.vol] ∧ w5.heap.size ≤ g_)]) (by kernel_rfl) rfl rfl (ZX Z1 (ZX Z1 (Zd))) (fun i_ hi_ => ?_) ?_
      ·match i_, hi_ with
       | 0, _ =>
        intro val w1 a hb ha hd;have ha := ha.s0 (d := 0) rfl
        exact ZB ha rfl rfl (ZI rfl) rfl rfl
       | 1, _ =>
        intro val w1 a hb ha hd;have ha := ha.s0 (d := 3) rfl
        exact ZB ha rfl rfl (ZI rfl) rfl rfl
       | 2, _ =>
        intro val w1 a hb ha hd;have e0 : val 0 = _ := hd 0 (ZA.1 rfl);have e1 : val 1 = _ := hd 1 (ZA.1 rfl);have ha := ha.s2 (d := 26) (e := 25) rfl e1 rfl e0
        exact ZB ha rfl rfl (QA1 rfl rfl (show k < l.length by omega)) rfl rfl
       | 3, _ =>
        intro val w1 a hb ha hd;have e2 : val 2 = _ := hd 2 (ZA.1 rfl);have ha := ha.s1 (d := 27) rfl e2
        exact ZB ha rfl rfl (YT rfl) rfl rfl
       | 4, _ =>
        intro val w1 a hb ha hd;have e3 : val 3 = _ := hd 3 (ZA.1 rfl);have ha := ha.s1 (d := 28) rfl e3
        exact ZB ha rfl rfl (ld_3 rfl (ZD ((hbw.trans (hb.mono hbw.size))) cx.c0)) rfl rfl
       | 5, _ =>
        intro val w1 a hb ha hd;have e4 : val 4 = _ := hd 4 (ZA.1 rfl);have ha := ha.s1 (d := 29) rfl e4
        exact ZB ha rfl rfl (ZM rfl rfl (IntWalk.i64_in _ ⟨by omega, by omega⟩)) rfl rfl
       | 6, _ =>
        intro val w1 a hb ha hd;have ha := ha.s0 (d := 4) rfl
        exact ZB ha rfl rfl (YT rfl) rfl rfl
       | 7, _ =>
        intro val w1 a hb ha hd;have e6 : val 6 = _ := hd 6 (ZA.1 rfl);have ha := ha.s1 (d := 31) rfl e6
        exact ZB ha rfl rfl (ld_3 rfl ((q4.below hb q4.lt).at (j := 0) rfl)) rfl rfl
       | 8, _ =>
        intro val w1 a hb ha hd;have e7 : val 7 = _ := hd 7 (ZA.1 rfl);have ha := ha.s1 (d := 32) rfl e7
        exact YJ ha rfl rfl (Zy rfl) rfl (fun g w' hq _ hge => ⟨g, rfl, hq, Nat.le_trans hb.size hge⟩)
       | 9, _ =>
        intro val w1 a hb ha hd;have e5 : val 5 = _ := hd 5 (ZA.1 rfl);obtain ⟨g8_, e8, q8_, h8_⟩ := hd 8 (ZA.1 rfl);change val 8 = _ at e8;have ha := ha.s2 (d := 33) (e := 30) rfl e8 rfl e5;refine Zf ha rfl rfl (cA3 cF35 rfl rfl rfl) (Za q8_ h3) rfl ?_
        rintro e w' ⟨rfl, hb'⟩
        exact ⟨_, rfl, hb', rfl⟩
       | 10, _ =>
        intro val w1 a hb ha hd;have e9 : val 9 = _ := hd 9 (ZA.1 rfl);have ha := ha.s1 (d := 34) rfl e9
        exact ZB ha rfl rfl (ZZ rfl) rfl rfl
       | 11, _ =>
        intro val w1 a hb ha hd;have e10 : val 10 = _ := hd 10 (ZA.1 rfl);have ha := ha.s1 (d := 35) rfl e10
        exact ZB ha rfl rfl (ZI rfl) rfl rfl
       | 12, _ =>
        intro val w1 a hb ha hd;have e11 : val 11 = _ := hd 11 (ZA.1 rfl);have ha := ha.sub (Sub.ins (d := 36) (Sub.ins (d := 0) (Sub.nil _) rfl) (ZG rfl e11))
        exact Z7 ha rfl rfl rfl rfl (ZI rfl) rfl rfl
       | 13, _ =>
        intro val w1 a hb ha hd;have e11 : val 11 = _ := hd 11 (ZA.1 rfl);have ha := ha.sub (Sub.ins (d := 36) (Sub.ins (d := 3) (Sub.nil _) rfl) (ZG rfl e11))
        exact Z7 ha rfl rfl rfl rfl (ZI rfl) rfl rfl
       | 14, _ =>
        intro val w1 a hb ha hd;have e12 : val 12 = _ := hd 12 (ZA.1 rfl);have e13 : val 13 = _ := hd 13 (ZA.1 rfl);have e11 : val 11 = _ := hd 11 (ZA.1 rfl);have ha := ha.sub (Sub.ins (d := 36) (Sub.ins (d := 38) (Sub.ins (d := 37) (Sub.nil _) (ZG rfl e12)) (ZG rfl e13)) (ZG rfl e11))
        exact Z7 ha rfl rfl rfl rfl (QA1 rfl rfl (show k < l.length by omega)) rfl rfl
       | 15, _ =>
        intro val w1 a hb ha hd;have e14 : val 14 = _ := hd 14 (ZA.1 rfl);have e11 : val 11 = _ := hd 11 (ZA.1 rfl);have ha := ha.s2 (d := 36) (e := 39) rfl e11 rfl e14
        exact Z7 ha rfl rfl rfl rfl (QAH rfl) rfl rfl
       | 16, _ =>
        intro val w1 a hb ha hd;have e15 : val 15 = _ := hd 15 (ZA.1 rfl);have e11 : val 11 = _ := hd 11 (ZA.1 rfl);have ha := ha.s2 (d := 36) (e := 40) rfl e11 rfl e15
        exact Z7 ha rfl rfl rfl rfl (ld_3 rfl (ZD ((hbw.trans (hb.mono hbw.size))) cx.c1)) rfl rfl
       | 17, _ =>
        intro val w1 a hb ha hd;have e16 : val 16 = _ := hd 16 (ZA.1 rfl);have e11 : val 11 = _ := hd 11 (ZA.1 rfl);have ha := ha.s2 (d := 36) (e := 41) rfl e11 rfl e16
        exact Z7 ha rfl rfl rfl rfl (ZM rfl rfl (IntWalk.i64_in _ ⟨by omega, by omega⟩)) rfl rfl
       | 18, _ =>
        intro val w1 a hb ha hd;have e11 : val 11 = _ := hd 11 (ZA.1 rfl);have ha := ha.sub (Sub.ins (d := 36) (Sub.ins (d := 4) (Sub.nil _) rfl) (ZG rfl e11))
        exact Z7 ha rfl rfl rfl rfl (QAH rfl) rfl rfl
       | 19, _ =>
        intro val w1 a hb ha hd;have e18 : val 18 = _ := hd 18 (ZA.1 rfl);have e11 : val 11 = _ := hd 11 (ZA.1 rfl);have ha := ha.s2 (d := 36) (e := 43) rfl e11 rfl e18
        exact Z7 ha rfl rfl rfl rfl (ld_3 rfl ((q4.below hb q4.lt).at (j := 1) rfl)) rfl rfl
       | 20, _ =>
        intro val w1 a hb ha hd;have e19 : val 19 = _ := hd 19 (ZA.1 rfl);have e11 : val 11 = _ := hd 11 (ZA.1 rfl);have ha := ha.s2 (d := 36) (e := 44) rfl e11 rfl e19
        exact QFb ha rfl rfl rfl rfl (Zy rfl) rfl (fun g w' hq _ hge => ⟨g, rfl, hq, Nat.le_trans hb.size hge⟩)
       | 21, _ =>
        intro val w1 a hb ha hd;have e17 : val 17 = _ := hd 17 (ZA.1 rfl);obtain ⟨g20_, e20, q20_, h20_⟩ := hd 20 (ZA.1 rfl);change val 20 = _ at e20;have e11 : val 11 = _ := hd 11 (ZA.1 rfl);have ha := ha.sub (Sub.ins (d := 36) (Sub.ins (d := 45) (Sub.ins (d := 42) (Sub.nil _) (ZG rfl e17)) (ZG rfl e20)) (ZG rfl e11));refine QFc ha rfl rfl rfl rfl (cA3 cF35 rfl rfl rfl) (Za q20_ h4) rfl ?_
        rintro e w' ⟨rfl, hb'⟩
        exact ⟨_, rfl, hb', rfl⟩
       | 22, _ =>
        intro val w1 a hb ha hd;have e21 : val 21 = _ := hd 21 (ZA.1 rfl);have e11 : val 11 = _ := hd 11 (ZA.1 rfl);have ha := ha.s2 (d := 36) (e := 46) rfl e11 rfl e21
        exact Z7 ha rfl rfl rfl rfl (ZZ rfl) rfl rfl
       | 23, _ =>
        intro val w1 a hb ha hd;have e11 : val 11 = _ := hd 11 (ZA.1 rfl);have e22 : val 22 = _ := hd 22 (ZA.1 rfl);have ha := ha.s2 (d := 47) (e := 36) rfl e22 rfl e11
        exact ZB ha rfl rfl (ZR rfl rfl) rfl rfl
       | k + 24, h => exact absurd h (by omega)
      ·intro val wR6 hb halc hd
       have e0 : val 0 = _ := hd 0 (by omega)
       have e1 : val 1 = _ := hd 1 (by omega)
       have e2 : val 2 = _ := hd 2 (by omega)
       have e3 : val 3 = _ := hd 3 (by omega)
       have e4 : val 4 = _ := hd 4 (by omega)
       have e5 : val 5 = _ := hd 5 (by omega)
       have e6 : val 6 = _ := hd 6 (by omega)
       have e7 : val 7 = _ := hd 7 (by omega)
       obtain ⟨ga8_6, e8, qa8_6, hga8_6⟩ := hd 8 (by omega)
       change val 8 = _ at e8;change Blk wR6 ga8_6 3 #[.int .i64 y.draft] at qa8_6;have e9 : val 9 = _ := hd 9 (by omega)
       have e10 : val 10 = _ := hd 10 (by omega)
       have e11 : val 11 = _ := hd 11 (by omega)
       have e12 : val 12 = _ := hd 12 (by omega)
       have e13 : val 13 = _ := hd 13 (by omega)
       have e14 : val 14 = _ := hd 14 (by omega)
       have e15 : val 15 = _ := hd 15 (by omega)
       have e16 : val 16 = _ := hd 16 (by omega)
       have e17 : val 17 = _ := hd 17 (by omega)
       have e18 : val 18 = _ := hd 18 (by omega)
       have e19 : val 19 = _ := hd 19 (by omega)
       obtain ⟨ga20_6, e20, qa20_6, hga20_6⟩ := hd 20 (by omega)
       change val 20 = _ at e20;change Blk wR6 ga20_6 3 #[.int .i64 y.vol] at qa20_6;have e21 : val 21 = _ := hd 21 (by omega)
       have e22 : val 22 = _ := hd 22 (by omega)
       have e23 : val 23 = _ := hd 23 (by omega)
       refine EL.ends (cs := [_, _, _, _, _, _, _, _, _, _, _, _, _, _, _, _, _, _, _, _, _, _, _, _]) ⟨e0, e1, e2, e3, e4, e5, e6, e7, e8, e9, e10, e11, e12, e13, e14, e15, e16, e17, e18, e19, e20, e21, e22, e23, trivial⟩ rfl ?_;replace q4 := q4.bl hb;have n4_9 : g4 ≠ ga8_6 := Nat.ne_of_lt (Nat.lt_of_lt_of_le lt_4 hga8_6);have bhbw_9 := Nat.le_trans hbw.size hga8_6;have n4_10 : g4 ≠ ga20_6 := Nat.ne_of_lt (Nat.lt_of_lt_of_le lt_4 hga20_6);have bhbw_10 := Nat.le_trans hbw.size hga20_6;replace hbw := bo_ hbw hb;clear hb;refine EL.nil (EX.seq (EC.no rfl (EC.skip (EX.blk (EX.seq (EC.region ?_))))));refine EL.val (ZM rfl rfl (c := ((k + 1 : Nat) : Int)) ((IntWalk.i64_in _ ⟨by first | omega | (simp only; omega), by first | omega | (simp only; omega)⟩).trans (by first | omega | (simp only; omega)))) rfl ?_
       refine EL.mv rfl rfl (EL.nil ?_);refine EX.roundD (k + 1) ⟨rfl, trivial⟩ (by repeat first | with_reducible exact .refl _ | refine sp_ rfl ?_ | exact .refl _ | refine sd_ rfl ?_ | refine sn_ ?_) ⟨by omega, hyes, hbw⟩ (by omega)
   ·
    obtain rfl : k = l.length - 1 := by omega
    refine EC.seq (EC.region ?_);refine EL.val (ZL rfl rfl (decide_eq_false (by omega))) rfl ?_
    refine EL.nil (EX.seq (EC.seq (EC.no rfl (EC.exit (EX.seq_exit (EX.seq_exit (EX.blk_here (EX.seq (EC.seq ?_)))))))));refine EC.region (EL.as rfl rfl (EL.nil (EX.seq (EC.ret ?_))))
    exact EX.done (res1 rfl rfl) ⟨by rw [QGI h1 hz.1 hz.2 hst], hbw⟩
theorem QEC {l : List HRow} {b : Bool} (h : YP l = b) (v : Value) (w : World) (B : Nat) (hr : Rd w B 2 v l.length (hrowsC l)) (hB : B ≤ w.heap.size) (hlen : l.length ≤ 9223372036854775806) :
  Calls Try.prog 79 #[v] w fun e w' => e = .returned (.bool b) ∧ Below w.heap.size w w' := h ▸ QGK l v w B hr hB hlen
theorem QIT (s : Sec) (vc vh : Value) (w : World) (B : Nat) (hc : Rd w B 2 vc s.curve.length (hrowsC s.curve)) (hh : Rd w B 2 vh s.holds.length (holdsC s.holds)) (hB : B ≤ w.heap.size) (hlc : s.curve.length ≤ 9223372036854775806) (hlh : s.holds.length ≤ 9223372036854775806) :
  Calls Try.prog 55 #[.agg #[.int .i64 s.len, .int .i64 s.light, .int .i64 s.trim, vc, vh]] w fun e w' => e = .returned (.bool (secB s)) ∧ Below w.heap.size w w' := by
 have hbw := Below.refl w.heap.size w;refine EC.enter 33 Try.func55 rfl rfl rfl (EC.seq (EC.region (EL.newP (QKm rfl) rfl ?_)));intro g1 w1 q1 hb1 hg1 hl1;have bhbw_1 := Nat.le_trans hbw.size hg1;replace hbw := bo_ hbw hb1;clear hb1 hg1 hl1;refine EL.as rfl rfl (EL.nil (EX.seq (EC.seq (EC.region (EL.val (QBw rfl) rfl (EL.val (QGz rfl (q1.at (j := 4) rfl)) rfl (EL.val (QHm rfl) rfl ?_)))))));refine EL.call (cA2 cF77 rfl rfl) rfl (QDu s.holds (fun x => !QDV s.len x) _ _ w1 B (hh.below (hbw.mono hB)) (Nat.le_trans hB hbw.size) hlh (fun x _ W hb => QHQ s.len x _ W (ZD hb (q1.at (j := 0) rfl)))) ?_
 rintro e w2 ⟨rfl, hc2⟩
 refine ⟨_, rfl, ?_⟩;replace q1 := q1.bl hc2;replace hbw := bo_ hbw hc2;clear hc2;refine EL.as rfl rfl (EL.nil (EX.seq (EC.seq (EC.region (EL.val (QBx rfl) rfl (EL.val (ld_3 rfl (q1.at (j := 0) rfl)) rfl (EL.newS (Zy rfl) rfl ?_)))))));intro g3 w3 q3 hb3 hg3 hl3;have n1_3 := q1.na hg3;have bhbw_3 := Nat.le_trans hbw.size hg3;replace q1 := q1.bl hb3;replace hbw := bo_ hbw hb3;clear hb3 hg3 hl3
 cases h1 : inB 1 100 s.len
 ·
  refine EL.call (cA3 cF35 rfl rfl rfl) rfl (Za q3 h1) ?_
  rintro e w4 ⟨rfl, hc4⟩
  refine ⟨_, rfl, ?_⟩;replace q1 := q1.bl hc4;replace q3 := q3.bl hc4;replace hbw := bo_ hbw hc4;clear hc4;refine EL.mv rfl rfl (EL.skip rfl rfl rfl rfl (EL.skip rfl rfl rfl rfl (EL.skip rfl rfl rfl rfl (EL.skip rfl rfl rfl rfl (EL.pf rfl rfl rfl (EL.mv rfl rfl (EL.skip rfl rfl rfl rfl (EL.skip rfl rfl rfl rfl (EL.skip rfl rfl rfl rfl ?_)))))))));refine EL.skip rfl rfl rfl rfl (EL.pf rfl rfl rfl (EL.mv rfl rfl (EL.skip rfl rfl rfl rfl (EL.skip rfl rfl rfl rfl (EL.skip rfl rfl rfl rfl (EL.pf rfl rfl rfl (EL.mv rfl rfl (EL.skip rfl rfl rfl rfl (EL.skip rfl rfl rfl rfl ?_)))))))));refine EL.pf rfl rfl rfl (EL.as rfl rfl (EL.nil (EX.seq (EC.ret ?_))))
  exact EX.done (res1 rfl rfl) ⟨by congr 2; simp [secB, QBN, *], hbw⟩
 ·
  refine EL.call (cA3 cF35 rfl rfl rfl) rfl (Za q3 h1) ?_
  rintro e w5 ⟨rfl, hc5⟩
  refine ⟨_, rfl, ?_⟩;replace q1 := q1.bl hc5;replace q3 := q3.bl hc5;replace hbw := bo_ hbw hc5;clear hc5;refine EL.mv rfl rfl (EL.valg rfl rfl (QEm rfl) rfl (EL.valg rfl rfl (ld_3 rfl (q1.at (j := 1) rfl)) rfl (EL.newSg rfl rfl (Zy rfl) rfl ?_)));intro g6 w6 q6 hb6 hg6 hl6;have n1_6 := q1.na hg6;have n3_6 := q3.na hg6;have bhbw_6 := Nat.le_trans hbw.size hg6;replace q1 := q1.bl hb6;replace q3 := q3.bl hb6;replace hbw := bo_ hbw hb6;clear hb6 hg6 hl6
  cases h2 : inB 0 10000 s.light
  ·
   refine EL.callg rfl rfl (cA3 cF35 rfl rfl rfl) rfl (Za q6 h2) ?_
   rintro e w7 ⟨rfl, hc7⟩
   refine ⟨_, rfl, ?_⟩;replace q1 := q1.bl hc7;replace q3 := q3.bl hc7;replace q6 := q6.bl hc7;replace hbw := bo_ hbw hc7;clear hc7;refine EL.pt rfl rfl rfl (EL.mv rfl rfl (EL.skip rfl rfl rfl rfl (EL.skip rfl rfl rfl rfl (EL.skip rfl rfl rfl rfl (EL.skip rfl rfl rfl rfl (EL.pf rfl rfl rfl (EL.mv rfl rfl (EL.skip rfl rfl rfl rfl (EL.skip rfl rfl rfl rfl ?_)))))))));refine EL.skip rfl rfl rfl rfl (EL.pf rfl rfl rfl (EL.mv rfl rfl (EL.skip rfl rfl rfl rfl (EL.skip rfl rfl rfl rfl (EL.pf rfl rfl rfl (EL.as rfl rfl (EL.nil (EX.seq (EC.ret ?_)))))))))
   exact EX.done (res1 rfl rfl) ⟨by congr 2; simp [secB, QBN, *], hbw⟩
  ·
   refine EL.callg rfl rfl (cA3 cF35 rfl rfl rfl) rfl (Za q6 h2) ?_
   rintro e w8 ⟨rfl, hc8⟩
   refine ⟨_, rfl, ?_⟩;replace q1 := q1.bl hc8;replace q3 := q3.bl hc8;replace q6 := q6.bl hc8;replace hbw := bo_ hbw hc8;clear hc8;refine EL.pt rfl rfl rfl (EL.mv rfl rfl (EL.valg rfl rfl (QG6 rfl) rfl (EL.valg rfl rfl (ld_3 rfl (q1.at (j := 2) rfl)) rfl (EL.newSg rfl rfl (Zy rfl) rfl ?_))));intro g9 w9 q9 hb9 hg9 hl9;have n1_9 := q1.na hg9;have n3_9 := q3.na hg9;have n6_9 := q6.na hg9;have bhbw_9 := Nat.le_trans hbw.size hg9;replace q1 := q1.bl hb9;replace q3 := q3.bl hb9;replace q6 := q6.bl hb9;replace hbw := bo_ hbw hb9;clear hb9 hg9 hl9
   cases h3 : inB 1 100000 s.trim
   ·
    refine EL.callg rfl rfl (cA3 cF35 rfl rfl rfl) rfl (Za q9 h3) ?_
    rintro e w10 ⟨rfl, hc10⟩
    refine ⟨_, rfl, ?_⟩;replace q1 := q1.bl hc10;replace q3 := q3.bl hc10;replace q6 := q6.bl hc10;replace q9 := q9.bl hc10;replace hbw := bo_ hbw hc10;clear hc10;refine EL.pt rfl rfl rfl (EL.mv rfl rfl (EL.skip rfl rfl rfl rfl (EL.skip rfl rfl rfl rfl (EL.skip rfl rfl rfl rfl (EL.pf rfl rfl rfl (EL.mv rfl rfl (EL.skip rfl rfl rfl rfl (EL.skip rfl rfl rfl rfl (EL.pf rfl rfl rfl ?_)))))))));refine EL.as rfl rfl (EL.nil (EX.seq (EC.ret ?_)))
    exact EX.done (res1 rfl rfl) ⟨by congr 2; simp [secB, QBN, *], hbw⟩
   ·
    refine EL.callg rfl rfl (cA3 cF35 rfl rfl rfl) rfl (Za q9 h3) ?_
    rintro e w11 ⟨rfl, hc11⟩
    refine ⟨_, rfl, ?_⟩;replace q1 := q1.bl hc11;replace q3 := q3.bl hc11;replace q6 := q6.bl hc11;replace q9 := q9.bl hc11;replace hbw := bo_ hbw hc11;clear hc11;refine EL.pt rfl rfl rfl (EL.mv rfl rfl (EL.valg rfl rfl (Y9 rfl) rfl (EL.valg rfl rfl (QCT rfl (q1.at (j := 3) rfl)) rfl ?_)))
    cases h4 : YP s.curve
    ·
     refine EL.callg rfl rfl (cA1 cF79 rfl) rfl (QEC h4 _ _ B (hc.below (hbw.mono hB)) (Nat.le_trans hB hbw.size) hlc) ?_
     rintro e w12 ⟨rfl, hc12⟩
     refine ⟨_, rfl, ?_⟩;replace q1 := q1.bl hc12;replace q3 := q3.bl hc12;replace q6 := q6.bl hc12;replace q9 := q9.bl hc12;replace hbw := bo_ hbw hc12;clear hc12;refine EL.pt rfl rfl rfl (EL.mv rfl rfl (EL.skip rfl rfl rfl rfl (EL.skip rfl rfl rfl rfl (EL.pf rfl rfl rfl (EL.as rfl rfl (EL.nil (EX.seq (EC.ret ?_))))))))
     exact EX.done (res1 rfl rfl) ⟨by congr 2; simp [secB, QBN, *], hbw⟩
    ·
     refine EL.callg rfl rfl (cA1 cF79 rfl) rfl (QEC h4 _ _ B (hc.below (hbw.mono hB)) (Nat.le_trans hB hbw.size) hlc) ?_
     rintro e w13 ⟨rfl, hc13⟩
     refine ⟨_, rfl, ?_⟩;replace q1 := q1.bl hc13;replace q3 := q3.bl hc13;replace q6 := q6.bl hc13;replace q9 := q9.bl hc13;replace hbw := bo_ hbw hc13;clear hc13;refine EL.pt rfl rfl rfl (EL.mv rfl rfl (EL.mg rfl rfl rfl rfl (EL.valg rfl rfl (ZZ rfl) rfl (EL.pt rfl rfl rfl (EL.as rfl rfl (EL.nil (EX.seq (EC.ret ?_))))))))
     exact EX.done (res1 rfl rfl) ⟨by congr 2; simp [secB, QBN, *], hbw⟩
theorem QGh {s : Sec} {b : Bool} (h : secB s = b) (vc vh : Value) (w : World) (B : Nat) (hc : Rd w B 2 vc s.curve.length (hrowsC s.curve)) (hh : Rd w B 2 vh s.holds.length (holdsC s.holds)) (hB : B ≤ w.heap.size) (hlc : s.curve.length ≤ 9223372036854775806) (hlh : s.holds.length ≤ 9223372036854775806) :
  Calls Try.prog 55 #[.agg #[.int .i64 s.len, .int .i64 s.light, .int .i64 s.trim, vc, vh]] w fun e w' => e = .returned (.bool b) ∧ Below w.heap.size w w' := h ▸ QIT s vc vh w B hc hh hB hlc hlh
/-- a ship in memory -/
structure RdShip (w : World) (B g : Nat) (h : Hul) (v hv : Value) (vs : List (Value × Value)) : Prop where
 box : Blk w g 125 (QGf h v hv)
 lt : g < B
 secs : RdSecs w B v h.secs vs
 holds : Rd w B 2 hv (ZQ h).length (holdsC (ZQ h))
section
variable {w w' : World} {B B' g : Nat} {h : Hul} {v hv : Value} {vs : List (Value × Value)}
theorem RdShip.below (hr : RdShip w B g h v hv vs) (hb : Below B w w') : RdShip w' B g h v hv vs := ⟨hr.box.below hb hr.lt, hr.lt, hr.secs.below hb, hr.holds.below hb⟩
theorem RdShip.more (hr : RdShip w B g h v hv vs) (hB : B ≤ B') : RdShip w B' g h v hv vs := ⟨hr.box, Nat.lt_of_lt_of_le hr.lt hB, hr.secs.more hB, hr.holds.more hB⟩
theorem RdShip.go (hr : RdShip w w.heap.size g h v hv vs) (hb : Below w.heap.size w w') : RdShip w' w'.heap.size g h v hv vs := (hr.below hb).more hb.size
theorem RdShip.c {j : Nat} {u : Value} (hr : RdShip w B g h v hv vs) (hj : (QGf h v hv)[j]? = some u) : w.cell? ⟨g, j, none⟩ = some u := (hr.box.cell j).trans hj
end
theorem QJa {long : Int} : ∀ (l : List Sec) (a : Int), (∀ s ∈ l, SecOk s) → 0 ≤ a → a + sumS Sec.len l ≤ long → ∀ x ∈ armsS long a l, (-long ≤ x.pos ∧ x.pos ≤ long) ∧ 0 ≤ x.lots ∧ x.lots ≤ 20
 | [], _, _, _, _, x, hx => by simp [armsS] at hx
 | s :: l, a, h, ha, hs, x, hx => by
  have h1 := h s (by simp)
  have h2 := (QAa (n := l.length) (fun x hx => h x (List.mem_cons_of_mem _ hx)) (Nat.le_refl _)).long
  rw [Yc] at hs;have h3 := h1.len
  rcases List.mem_append.1 hx with hx | hx
  ·obtain ⟨y, hy, rfl⟩ := List.mem_map.1 hx
   have h4 := h1.holds y hy
   simp only [armH]
   omega
  ·exact QJa l (a + s.len) (fun x hx => h x (List.mem_cons_of_mem _ hx)) (by omega) (by omega) x hx
structure ArmsOk (xs : List Hold) : Prop where
 many : xs.length ≤ 4
 at_ : ∀ x ∈ xs, (-200 ≤ x.pos ∧ x.pos ≤ 200) ∧ 0 ≤ x.lots ∧ x.lots ≤ 20
theorem HulOk.arms {h : Hul} (hh : HulOk h) : ArmsOk (ZQ h) := by
 have h1 := QBM (QAw h) h.secs 0;have h2 := hh.many;refine ⟨by unfold ZQ; omega, fun x hx => ?_⟩
 have h3 := QJa (long := QAw h) h.secs 0 hh.secs (by omega) (by unfold QAw; omega) x hx
 have h4 := hh.long
 unfold QAw at h3
 omega
theorem HulOk.bds {h : Hul} (hh : HulOk h) : (0 ≤ QAw h ∧ QAw h ≤ 200) ∧ (0 ≤ sumS Sec.light h.secs ∧ sumS Sec.light h.secs ≤ 60000) ∧ (1 ≤ sumS Sec.trim h.secs ∧ sumS Sec.trim h.secs ≤ 600000) ∧ (-42000000 ≤ momH h ∧ momH h ≤ 42000000) := by
 have h1 := QAa (n := 6) hh.secs hh.some.2;have h2 := hh.long;have h3 := hh.some;have h4 := QEZ (long := QAw h) ⟨h1.long.1, h2⟩ h.secs 0 hh.secs (by omega) (by omega)
 have h5 := (QAJ (f := Sec.trim) (lo := 1) (hi := 100000) fun s hs => (hh.secs s hs).trim)
 have := h1.light;have := h1.long
 unfold momH QAw at *
 refine ⟨by omega, by omega, by omega, by omega⟩
/-! ### Loads -/
theorem QBY : ∀ (k : Nat) (xs : List Hold) (l : List Int), k < xs.length → k < l.length → Z9 (xs.take (k + 1)) (l.take (k + 1)) = (Z9 (xs.take k) (l.take k) && inB 0 (xs.getD k YE).lots (l.getD k 0))
 | 0, x :: xs, n :: l, _, _ => by simp [Z9]
 | k + 1, x :: xs, n :: l, h1, h2 => by
  have := QBY k xs l (by simpa using h1) (by simpa using h2)
  simp only [List.take_succ_cons, Z9, List.getD_cons_succ] at this ⊢
  rw [this, Bool.and_assoc]
 | 0, [], _, h, _ => by simp at h
 | 0, _ :: _, [], _, h => by simp at h
 | _ + 1, [], _, h, _ => by simp at h
 | _ + 1, _ :: _, [], _, h => by simp at h
theorem QDO : ∀ (k : Nat) (xs : List Hold) (l : List Int), Z9 xs l = true → Z9 (xs.take k) (l.take k) = true
 | 0, _, _, _ => by simp [Z9]
 | _ + 1, [], _, _ => by simp [Z9]
 | _ + 1, _ :: _, [], _ => by simp [Z9]
 | k + 1, x :: xs, n :: l, h => by
  simp only [Z9, Bool.and_eq_true, List.take_succ_cons] at h ⊢
  exact ⟨h.1, QDO k xs l h.2⟩
theorem QFO {xs : List Hold} {l : List Int} {k : Nat} (h1 : k < xs.length) (h2 : k < l.length) (h : inB 0 (xs.getD k YE).lots (l.getD k 0) = false) : Z9 xs l = false := by
 cases e : Z9 xs l with
 | false => rfl
 | true =>
  have h3 := QDO (k + 1) xs l e;rw [QBY k xs l h1 h2, h, Bool.and_false] at h3
  cases h3
theorem QIx {xs : List Hold} {l : List Int} {k : Nat} (h : Z9 xs l = true) (h1 : k < xs.length) (h2 : k < l.length) : 0 ≤ l.getD k 0 ∧ l.getD k 0 ≤ (xs.getD k YE).lots := by
 cases e : inB 0 (xs.getD k YE).lots (l.getD k 0) with
 | true => exact inB_iff.1 e
 | false => rw [QFO h1 h2 e] at h; cases h
theorem QCJ (lot : Int) : ∀ (k : Nat) (xs : List Hold) (l : List Int), k < xs.length → k < l.length → momL lot (xs.take (k + 1)) (l.take (k + 1)) = momL lot (xs.take k) (l.take k) + l.getD k 0 * lot * (xs.getD k YE).pos
 | 0, x :: xs, n :: l, _, _ => by simp [momL]
 | k + 1, x :: xs, n :: l, h1, h2 => by
  have := QCJ lot k xs l (by simpa using h1) (by simpa using h2)
  simp only [List.take_succ_cons, momL, List.getD_cons_succ] at this ⊢
  rw [this, Int.add_assoc]
 | 0, [], _, h, _ => by simp at h
 | 0, _ :: _, [], _, h => by simp at h
 | _ + 1, [], _, h, _ => by simp at h
 | _ + 1, _ :: _, [], _, h => by simp at h
theorem QCC {l : List Int} {k : Nat} (h : k < l.length) : sumI (l.take (k + 1)) = sumI (l.take k) + l.getD k 0 := by
 unfold sumI
 rw [YA (d := (0 : Int)) h, List.sum_append]
 simp
/-- a load that fits -/
structure LoadOk (xs : List Hold) (l : List Int) : Prop where
 arms : ArmsOk xs
 len : l.length = xs.length
 fits : Z9 xs l = true
theorem LoadOk.at_ {xs : List Hold} {l : List Int} (h : LoadOk xs l) {k : Nat} (hk : k < l.length) : (0 ≤ l.getD k 0 ∧ l.getD k 0 ≤ 20) ∧ (-200 ≤ (xs.getD k YE).pos ∧ (xs.getD k YE).pos ≤ 200) := by
 have h1 := QIx h.fits (k := k) (by have := h.len; omega) hk
 have h2 := h.arms.at_ _ (getD_mem (d := YE) (show k < xs.length by have := h.len; omega))
 omega
theorem LoadOk.mul {xs : List Hold} {l : List Int} (h : LoadOk xs l) {lot : Int} (hl : 1 ≤ lot ∧ lot ≤ 1000) {k : Nat} (hk : k < l.length) : (0 ≤ l.getD k 0 * lot ∧ l.getD k 0 * lot ≤ 20000) ∧ (-4000000 ≤ l.getD k 0 * lot * (xs.getD k YE).pos ∧ l.getD k 0 * lot * (xs.getD k YE).pos ≤ 4000000) := by
 have h1 := h.at_ hk;have h2 : 0 ≤ l.getD k 0 * lot ∧ l.getD k 0 * lot ≤ 20 * 1000 := ⟨Int.mul_nonneg h1.1.1 (by omega), Int.mul_le_mul h1.1.2 hl.2 (by omega) (by omega)⟩
 have h3 := QEi (a := l.getD k 0 * lot) (A := 20000) (b := (xs.getD k YE).pos) (B := 200) h2.1 (by omega) h1.2.1 h1.2.2
 exact ⟨by omega, by omega⟩
theorem LoadOk.mom {xs : List Hold} {l : List Int} (h : LoadOk xs l) {lot : Int} (hl : 1 ≤ lot ∧ lot ≤ 1000) : ∀ k, k ≤ l.length → -(4000000 * (k : Int)) ≤ momL lot (xs.take k) (l.take k) ∧ momL lot (xs.take k) (l.take k) ≤ 4000000 * k
 | 0, _ => by simp [momL]
 | k + 1, hk => by
  have h1 := h.mom hl k (by omega)
  have h2 := (h.mul hl (k := k) (by omega)).2
  rw [QCJ lot k xs l (by have := h.len; omega) (by omega)]
  omega
theorem LoadOk.sum {xs : List Hold} {l : List Int} (h : LoadOk xs l) : ∀ k, k ≤ l.length → 0 ≤ sumI (l.take k) ∧ sumI (l.take k) ≤ 20 * k
 | 0, _ => by simp [sumI]
 | k + 1, hk => by
  have h1 := h.sum k (by omega)
  have h2 := (h.at_ (k := k) (by omega)).1
  rw [QCC (by omega)]
  omega
theorem LoadOk.many {xs : List Hold} {l : List Int} (h : LoadOk xs l) : l.length ≤ 4 := h.len ▸ h.arms.many
theorem LoadOk.sumAll {xs : List Hold} {l : List Int} (h : LoadOk xs l) : 0 ≤ sumI l ∧ sumI l ≤ 80 := by
 have h1 := h.sum l.length (Nat.le_refl _);have h2 := h.many;rw [List.take_length] at h1
 omega
theorem LoadOk.momAll {xs : List Hold} {l : List Int} (h : LoadOk xs l) {lot : Int} (hl : 1 ≤ lot ∧ lot ≤ 1000) : -16000000 ≤ momL lot xs l ∧ momL lot xs l ≤ 16000000 := by
 have h1 := h.mom hl l.length (Nat.le_refl _);have h2 := h.many;rw [List.take_length, h.len, List.take_length] at h1;rw [h.len] at h2
 omega
/-! ### Drafts -/
theorem QGt {h : Hul} (hh : HulOk h) {n : Int} (h1 : 0 ≤ n) (h2 : n ≤ 80) : (0 ≤ h.lot * n ∧ h.lot * n ≤ 80000) ∧ (0 ≤ QDI h n ∧ QDI h n ≤ 140000000) := by
 have h3 := hh.bds;have h4 := hh.lot;have h5 : 0 ≤ h.lot * n ∧ h.lot * n ≤ 1000 * 80 := ⟨Int.mul_nonneg (by omega) h1, Int.mul_le_mul h4.2 h2 h1 (by omega)⟩
 unfold QDI
 omega
theorem QJy {h : Hul} {n d : Int} (h0 : 0 ≤ QDI h n) (hd : 900 ≤ d) : (QDI h n + d - 1).tdiv d = QBP h n d := by
 unfold QBP
 exact Int.tdiv_eq_ediv_of_nonneg (by omega)
theorem QJz {h : Hul} (hh : HulOk h) {n d : Int} (h1 : 0 ≤ n) (h2 : n ≤ 80) (hd : 900 ≤ d) : 0 ≤ QBP h n d ∧ QBP h n d ≤ 140000000 := by
 have h3 := (QGt hh h1 h2).2
 unfold QBP
 constructor
 ·exact Int.ediv_nonneg (by omega) (by omega)
 ·refine QCn (by omega) ?_
  have : (140000000 : Int) * 900 ≤ 140000000 * d := Int.mul_le_mul_of_nonneg_left hd (by omega)
  omega
theorem QEa (h : Hul) (n d : Int) : meanN h n d ≤ (limH h + 1).toNat := QBJ _ _
theorem QJh {m : Int} (h1 : -58000000 ≤ m) (h2 : m ≤ 58000000) : 0 ≤ absI m ∧ absI m ≤ 58000000 := by unfold absI; omega
theorem QJm {h : Hul} (hh : HulOk h) {l : List Int} (h0 : 0 ≤ absI (momT h l)) : (absI (momT h l) + 4 * sumS Sec.trim h.secs - 1).tdiv (4 * sumS Sec.trim h.secs) = Zr h l := by
 have := hh.bds.2.2.1
 unfold Zr
 exact Int.tdiv_eq_ediv_of_nonneg (by omega)
theorem QBE {h : Hul} (hh : HulOk h) {l : List Int} (hl : LoadOk (ZQ h) l) : -58000000 ≤ momT h l ∧ momT h l ≤ 58000000 := by
 have h1 := hh.bds.2.2.2;have h2 := hl.momAll hh.lot
 unfold momT
 omega
theorem QER {h : Hul} (hh : HulOk h) {l : List Int} (hl : LoadOk (ZQ h) l) : 0 ≤ Zr h l ∧ Zr h l ≤ 58000000 := by
 have h1 := QBE hh hl;have h2 := QJh h1.1 h1.2;have h3 := hh.bds.2.2.1
 unfold Zr
 constructor
 ·exact Int.ediv_nonneg (by omega) (by omega)
 ·refine QCn (by omega) ?_
  have : 58000000 * 4 ≤ 58000000 * (4 * sumS Sec.trim h.secs) := Int.mul_le_mul_of_nonneg_left (by omega) (by omega)
  omega
section
variable {n : Nat} {σ : Sg} {w : World} {dst : Option Tmp} {ty : TypeId} {pos : String} {af : Array Edge} {g : Option (Nat × Bool)} {x y z : Operand} {at' : Array TypeId}
theorem QCY {v0 v1 : Value} (hx : evS σ x = some (.agg #[v0, v1])) (a : Act) (ha : Env n σ a) : (execOp a.eval ⟨dst, .box 44 x, ty, pos, af, g⟩).run Try.prog w = .ok (.value (.pointer (some ⟨w.heap.size, 0, none⟩))) (w.alloc (.cells #[v0, v1] 44)) := by
 simp only [execOp, ha.eval hx]
 simp [go_sem]
theorem QBr {b o : Nat} {v0 v1 : Value} (hx : evS σ x = some (.pointer (some ⟨b, o, none⟩))) (c0 : w.cell? ⟨b, o, none⟩ = some v0) (c1 : w.cell? ⟨b, o + 1, none⟩ = some v1) : ZE Try.prog n σ w ⟨dst, .load 44 x, ty, pos, af, g⟩ (.agg #[v0, v1]) := fun a ha => by
 simp only [execOp, ha.eval hx]
 simp [go_sem, c0, c1]
theorem QGS {x0 x1 : Operand} {v0_0 : Value} {v0_1 : Value} {z1 : Int} (h0 : evS σ x0 = some (.agg #[v0_0, v0_1])) (h1 : evS σ x1 = some (.int .i64 z1)) : ZE Try.prog n σ w ⟨dst, .build 125 #[(0, x0), (6, x1)], ty, pos, af, g⟩ (.agg #[v0_0, v0_1, .slice none 0 0, .int .i64 0, .int .i64 0, .int .i64 0, .int .i64 0, .int .i64 z1]) := fun a ha => by
 simp only [execOp, List.map_toArray, List.map_cons, List.map_nil, ha.eval h0, ha.eval h1]
 go_simp
theorem QLD {v0 v1 v2 v3 v4 v5 v6 v7 : Value} (hx : evS σ x = some (.agg #[v0, v1, v2, v3, v4, v5, v6, v7])) (a : Act) (ha : Env n σ a) : (execOp a.eval ⟨dst, .box 125 x, ty, pos, af, g⟩).run Try.prog w = .ok (.value (.pointer (some ⟨w.heap.size, 0, none⟩))) (w.alloc (.cells #[v0, v1, v2, v3, v4, v5, v6, v7] 125)) := by
 simp only [execOp, ha.eval hx]
 simp [go_sem]
theorem QCp {b o : Nat} (hx : evS σ x = some (.pointer (some ⟨b, o, none⟩))) : ZE Try.prog n σ w ⟨dst, .fieldAddr 44 x 0, ty, pos, af, g⟩ (.pointer (some ⟨b, o, none⟩)) := fun a ha => by
 simp only [execOp, ha.eval hx]
 simp [go_sem]
theorem Yk {b o : Nat} (hx : evS σ x = some (.pointer (some ⟨b, o, none⟩))) : ZE Try.prog n σ w ⟨dst, .fieldAddr 44 x 1, ty, pos, af, g⟩ (.pointer (some ⟨b, o + 1, none⟩)) := fun a ha => by
 simp only [execOp, ha.eval hx]
 simp [go_sem]
theorem QAi {b o : Nat} {v0 : Value} (hx : evS σ x = some (.pointer (some ⟨b, o, none⟩))) (c0 : w.cell? ⟨b, o, none⟩ = some v0) : ZE Try.prog n σ w ⟨dst, .load 42 x, ty, pos, af, g⟩ (v0) := fun a ha => by
 simp only [execOp, ha.eval hx]
 simp [go_sem, c0]
theorem QAx {A : Option Addr} {m c : Nat} (hx : evS σ x = some (.slice A m c)) : ZE Try.prog n σ w ⟨dst, .call { callee := .builtin .len, args := #[x], argTypes := #[42] }, ty, pos, af, g⟩ (.int .i64 (m : Int)) := fun a ha => by
 simp only [execOp, resolve, List.map_toArray, List.map_cons, List.map_nil, ha.eval hx]
 simp [go_sem]
theorem QFY {b o m c k : Nat} (hx : evS σ x = some (.slice (some ⟨b, o, none⟩) m c)) (hy : evS σ y = some (.int .i64 (k : Int))) (hk : k < m) : ZE Try.prog n σ w ⟨dst, .indexAddr 42 x y, ty, pos, af, g⟩ (.pointer (some ⟨b, o + k * 5, none⟩)) := fun a ha => by
 have k0 : (0 : Int) ≤ (k : Int) := Int.natCast_nonneg _;have k1 : (k : Int) < (m : Int) := by omega
 simp only [execOp, ha.eval hx, ha.eval hy]
 simp [go_sem, k0, k1]
theorem QAz {b o : Nat} {v0 v1 v2 v3 v4 : Value} (hx : evS σ x = some (.pointer (some ⟨b, o, none⟩))) (c0 : w.cell? ⟨b, o, none⟩ = some v0) (c1 : w.cell? ⟨b, o + 1, none⟩ = some v1) (c2 : w.cell? ⟨b, o + 2, none⟩ = some v2) (c3 : w.cell? ⟨b, o + 3, none⟩ = some v3) (c4 : w.cell? ⟨b, o + 4, none⟩ = some v4) : ZE Try.prog n σ w ⟨dst, .load 70 x, ty, pos, af, g⟩ (.agg #[v0, v1, v2, v3, v4]) := fun a ha => by
 simp only [execOp, ha.eval hx]
 simp [go_sem, c0, c1, c2, c3, c4]
theorem QEI (a : Act) (_ : Env n σ a) : (execOp a.eval ⟨dst, .alloc 70, ty, pos, af, g⟩).run Try.prog w = .ok (.value (.pointer (some ⟨w.heap.size, 0, none⟩))) (w.alloc (.cells #[.int .i64 0, .int .i64 0, .int .i64 0, .slice none 0 0, .slice none 0 0] 70)) := by
 simp only [execOp]
 simp [go_sem]
theorem QD0 : (Try.prog.info? 70).map (·.size) = some 5 := by kernel_rfl
theorem cF55 : cF 55 := fun _ _ => by simp [go_sem]
theorem QA2 {b o : Nat} (hx : evS σ x = some (.pointer (some ⟨b, o, none⟩))) : ZE Try.prog n σ w ⟨dst, .fieldAddr 125 x 2, ty, pos, af, g⟩ (.pointer (some ⟨b, o + 3, none⟩)) := fun a ha => by
 simp only [execOp, ha.eval hx]
 simp [go_sem]
theorem QDc {b o : Nat} (hx : evS σ x = some (.pointer (some ⟨b, o, none⟩))) : ZE Try.prog n σ w ⟨dst, .fieldAddr 125 x 3, ty, pos, af, g⟩ (.pointer (some ⟨b, o + 4, none⟩)) := fun a ha => by
 simp only [execOp, ha.eval hx]
 simp [go_sem]
theorem QB0 {b o : Nat} (hx : evS σ x = some (.pointer (some ⟨b, o, none⟩))) : ZE Try.prog n σ w ⟨dst, .fieldAddr 125 x 5, ty, pos, af, g⟩ (.pointer (some ⟨b, o + 6, none⟩)) := fun a ha => by
 simp only [execOp, ha.eval hx]
 simp [go_sem]
theorem QBX {p q r : Int} (hx : evS σ x = some (.int .i64 p)) (hy : evS σ y = some (.int .i64 q)) (hr : min p q = r) : ZE Try.prog n σ w ⟨dst, .call { callee := .builtin .min, args := #[x, y], argTypes := at' }, ty, pos, af, g⟩ (.int .i64 r) := fun a ha => by
 simp only [execOp, resolve, List.map_toArray, List.map_cons, List.map_nil, ha.eval hx, ha.eval hy]
 subst hr
 simp [go_sem, Int.min_def]
 split <;> split <;> omega
theorem QAF {b o : Nat} (hx : evS σ x = some (.pointer (some ⟨b, o, none⟩))) : ZE Try.prog n σ w ⟨dst, .fieldAddr 125 x 6, ty, pos, af, g⟩ (.pointer (some ⟨b, o + 7, none⟩)) := fun a ha => by
 simp only [execOp, ha.eval hx]
 simp [go_sem]
theorem QDb {b o : Nat} (hx : evS σ x = some (.pointer (some ⟨b, o, none⟩))) : ZE Try.prog n σ w ⟨dst, .fieldAddr 125 x 4, ty, pos, af, g⟩ (.pointer (some ⟨b, o + 5, none⟩)) := fun a ha => by
 simp only [execOp, ha.eval hx]
 simp [go_sem]
theorem QLa (a : Act) (_ : Env n σ a) : (execOp a.eval ⟨dst, .alloc 66, ty, pos, af, g⟩).run Try.prog w = .ok (.value (.pointer (some ⟨w.heap.size, 0, none⟩))) (w.alloc (.cells #[.int .i64 0, .int .i64 0] 66)) := by
 simp only [execOp]
 simp [go_sem]
theorem QLM : (Try.prog.info? 66).map (·.size) = some 2 := by kernel_rfl
theorem QJT {x0 : Operand} {v0_0 v0_1 : Value} (h0 : evS σ x0 = some (.agg #[v0_0, v0_1]))  (a : Act) (ha : Env n σ a) : (execOp a.eval ⟨dst, .buildSlice 123 1 #[(0, x0)], ty, pos, af, g⟩).run Try.prog w = .ok (.value (.slice (some ⟨w.heap.size, 0, none⟩) 1 1)) (w.alloc (.cells #[v0_0, v0_1] 127)) := by
 simp only [execOp, List.map_toArray, List.map_cons, List.map_nil, ha.eval h0]
 go_simp
theorem QAG {b o : Nat} (hx : evS σ x = some (.pointer (some ⟨b, o, none⟩))) : ZE Try.prog n σ w ⟨dst, .fieldAddr 125 x 1, ty, pos, af, g⟩ (.pointer (some ⟨b, o + 2, none⟩)) := fun a ha => by
 simp only [execOp, ha.eval hx]
 simp [go_sem]
theorem QAP {b o : Nat} {v0 : Value} (hx : evS σ x = some (.pointer (some ⟨b, o, none⟩))) (c0 : w.cell? ⟨b, o, none⟩ = some v0) : ZE Try.prog n σ w ⟨dst, .load 123 x, ty, pos, af, g⟩ (v0) := fun a ha => by
 simp only [execOp, ha.eval hx]
 simp [go_sem, c0]
theorem QGR {x0 x1 : Operand} {z0 : Int} {z1 : Int} (h0 : evS σ x0 = some (.int .i64 z0)) (h1 : evS σ x1 = some (.int .i64 z1)) : ZE Try.prog n σ w ⟨dst, .build 127 #[(0, x0), (1, x1)], ty, pos, af, g⟩ (.agg #[.int .i64 z0, .int .i64 z1]) := fun a ha => by
 simp only [execOp, List.map_toArray, List.map_cons, List.map_nil, ha.eval h0, ha.eval h1]
 go_simp
theorem QKx : (Try.prog.info? 123).map (·.size) = some 1 := by kernel_rfl
end
end Go.Proofs.Ytfgfenmaommclaa
