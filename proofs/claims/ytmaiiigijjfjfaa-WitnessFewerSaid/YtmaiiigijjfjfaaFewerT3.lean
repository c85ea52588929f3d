/- E9, WCrs, ExX16, X16, ExX17, X17, E10, ExX18, X18, ExX19, X19, WLift, ExX20, X20, X21, WPr, X22, X23, WRg, ExX24, X24, WLift2, E11, WWg, ExX25, X25, ExX26: what WitnessFewerProof needs of them (merged by trimpack.py). -/
import Derived.Test.YtmaiiigijjfjfaaFewerT2
set_option linter.unusedVariables false
set_option linter.unusedSimpArgs false
namespace Go.Proofs.Ytmaiiigijjfjfaa
open Go Go.RowKit
abbrev FR (ro : Option Nat) : Fence := { Fence.wide with round := ro }
theorem fr_depth (ro : Option Nat) (n : Nat) : (FR ro).depth.isSome = true → 1 ≤ n := fun h => by cases h
theorem callsIn_fr {ro : Option Nat} {n : Nat} {P : Program} {f : FuncId} {args : Array Value} {w : World} {R : Ending → World → Prop} (h : Calls P f args w R) : CallsIn (FR ro) n P f args w R :=
  (callsIn_wide (n := n)).2 h
theorem roundIn_fr {ro : Option Nat} {m n l : Nat} {P : Program} {f : FuncId} {tmps : Array Value} {assign body : Code} {w : World} {R : Ending → World → Prop} (h : RoundIn Fence.wide m P l f tmps assign body w R) : RoundIn (FR ro) n P l f tmps assign body w R :=
  ⟨h.1, fun c cs _ => h.2 c cs (room_wide _)⟩
/-- a frame with deferred calls ds -/
structure EnvG (n : Nat) (ds : List Deferred) (σ : Sg) (a : Act) : Prop where
  env : Env n σ ⟨a.tmps, []⟩
  ds : a.defers = ds
section
variable {n : Nat} {ds : List Deferred} {σ τ : Sg} {a : Act}
theorem Env.g (h : Env n σ a) : EnvG n [] σ a := ⟨⟨h.size, rfl, h.get⟩, h.defers⟩
theorem EnvG.e (h : EnvG n [] σ a) : Env n σ a := ⟨h.env.size, h.ds, h.env.get⟩
theorem eval_tmps (a : Act) : (⟨a.tmps, []⟩ : Act).eval = a.eval := by
  funext x
  cases x <;> rfl
theorem EnvG.eval (h : EnvG n ds σ a) {x : Operand} {v : Value} (hx : evS σ x = some v) : a.eval x = v := by
  rw [← eval_tmps]
  exact h.env.eval hx
theorem EnvG.put (h : EnvG n ds σ a) {d : Nat} (hd : Nat.blt d n = true) (v : Value) : EnvG n ds (ins σ d v) (a.put (some d) v) :=
  ⟨h.env.put hd v, h.ds⟩
theorem EnvG.sub (h : EnvG n ds σ a) (hs : Sub τ σ) : EnvG n ds τ a := ⟨h.env.sub hs, h.ds⟩
end
def ELI (ro : Option Nat) (k : Nat) (P : Program) (n : Nat) (ds : List Deferred) (L : List Oper) (Q : Exit → Act → World → Prop) (rest : List Oper) (σ : Sg) (w : World) : Prop := ∀ a, EnvG n ds σ a → wpListIn (FR ro) k P L.toArray Q rest a w
def ECI (ro : Option Nat) (k : Nat) (P : Program) (n : Nat) (ds : List Deferred) (c : Code) (Q : Exit → Act → World → Prop) (σ : Sg) (w : World) : Prop := ∀ a, EnvG n ds σ a → c.wpIn (FR ro) k P Q a w
def EXI (n : Nat) (ds : List Deferred) (Q : Exit → Act → World → Prop) (e : Exit) (σ : Sg) (w : World) : Prop := ∀ a, EnvG n ds σ a → Q e a w
section
variable {ro : Option Nat} {k : Nat} {P : Program} {n : Nat} {ds : List Deferred} {σ τ : Sg} {w : World} {Q : Exit → Act → World → Prop} {L : List Oper} {rest : List Oper}
theorem semAt_fr {o : Oper} (h : ∀ c, o.op ≠ .defer c) (ρ : Operand → Value) : o.semAt (FR ro).round ρ = execOp ρ o := Oper.semAt_eq _ _ _ h
/-- an operation that yields a value is no defer -/
theorem nodefer {o : Oper} {ρ : Operand → Value} {w' : World} {r : Next} (hr : (execOp ρ o).run P w = .ok r w') (hn : ∀ d, r ≠ .defer d) : ∀ c, o.op ≠ .defer c := fun c h => by
  unfold execOp at hr
  simp only [h, Sem.run_bind] at hr
  cases he : (resolve ρ c o.type).run P w with
  | ok d w2 =>
    rw [he] at hr
    simp only [Result.andThen_ok, Sem.run_pure] at hr
    injection hr with h1 _
    exact hn d h1.symm
  | halt x w2 => rw [he] at hr; cases hr
theorem wpLI_run {o : Oper} {a : Act} (hg : Region.wanted o (yielded L.toArray a.tmps) = true) {v : Value} {w' : World} (hr : (execOp a.eval o).run P w = .ok (.value v) w') (hk : wpListIn (FR ro) k P L.toArray Q rest (a.put o.dst v) w') : wpListIn (FR ro) k P L.toArray Q (o :: rest) a w := by
  unfold wpListIn
  rw [if_pos hg]
  refine ⟨fun _ _ => trivial, ?_⟩
  rw [semAt_fr (nodefer hr (fun d h => by cases h)), hr]
  exact hk
theorem wpLI_skip0 {o : Oper} {a : Act} (hg : Region.wanted o (yielded L.toArray a.tmps) = true) {w' : World} (hr : (execOp a.eval o).run P w = .ok .skip w') (hk : wpListIn (FR ro) k P L.toArray Q rest (a.put o.dst undef) w') : wpListIn (FR ro) k P L.toArray Q (o :: rest) a w := by
  unfold wpListIn
  rw [if_pos hg]
  refine ⟨fun _ _ => trivial, ?_⟩
  rw [semAt_fr (nodefer hr (fun d h => by cases h)), hr]
  exact hk
theorem yield_ofG {a : Act} (ha : EnvG n ds σ a) {j : Nat} {t : Tmp} {v : Value} (hj : dstOf L j = some t) (ht : σ t = some v) : yielded L.toArray a.tmps j = match v with | .bool b => some b | _ => none :=
  yield_of ha.env hj ht
theorem ELI.nil (h : EXI n ds Q .normal σ w) : ELI ro k P n ds L Q [] σ w := fun a ha => wpListIn_nil (h a ha)
theorem ELI.val {d ty : Nat} {op : Op} {pos : String} {af : Array Edge} {v : Value} (h : Gives P n σ w ⟨some d, op, ty, pos, af, none⟩ v) (hd : Nat.blt d n = true) (next : ELI ro k P n ds L Q rest (ins σ d v) w) : ELI ro k P n ds L Q (⟨some d, op, ty, pos, af, none⟩ :: rest) σ w :=
  fun a ha => wpLI_run (wanted_none rfl _) (by rw [← eval_tmps]; exact h _ ha.env) (next _ (ha.put hd v))
theorem ELI.valg {d ty j t : Nat} {b : Bool} {op : Op} {pos : String} {af : Array Edge} {v : Value} (hj : dstOf L j = some t) (ht : σ t = some (.bool b)) (h : Gives P n σ w ⟨some d, op, ty, pos, af, some (j, b)⟩ v) (hd : Nat.blt d n = true) (next : ELI ro k P n ds L Q rest (ins σ d v) w) : ELI ro k P n ds L Q (⟨some d, op, ty, pos, af, some (j, b)⟩ :: rest) σ w :=
  fun a ha => wpLI_run (by simp [Region.wanted, yield_ofG ha hj ht]) (by rw [← eval_tmps]; exact h _ ha.env) (next _ (ha.put hd v))
theorem ELI.turn {d ty : Nat} {op : Op} {pos : String} {af : Array Edge} (v : Value) (w' : World) (h : ∀ a, Env n σ a → (execOp a.eval ⟨some d, op, ty, pos, af, none⟩).run P w = .ok (.value v) w') (hd : Nat.blt d n = true) (next : ELI ro k P n ds L Q rest (ins σ d v) w') : ELI ro k P n ds L Q (⟨some d, op, ty, pos, af, none⟩ :: rest) σ w :=
  fun a ha => wpLI_run (wanted_none rfl _) (by rw [← eval_tmps]; exact h _ ha.env) (next _ (ha.put hd v))
theorem ELI.call {d ty : Nat} {op : Op} {pos : String} {af : Array Edge} {f : FuncId} {args : Array Value} {R : Ending → World → Prop} (hr : ∀ a, Env n σ a → (execOp a.eval ⟨some d, op, ty, pos, af, none⟩).run P w = .ok (.enter f args) w) (hd : Nat.blt d n = true) (hc : Calls P f args w R)
    (next : ∀ e w', R e w' → ∃ v, e = .returned v ∧ ELI ro k P n ds L Q rest (ins σ d v) w') : ELI ro k P n ds L Q (⟨some d, op, ty, pos, af, none⟩ :: rest) σ w := fun a ha => by
  have hr' := hr _ ha.env
  rw [eval_tmps] at hr'
  unfold wpListIn
  rw [if_pos (wanted_none rfl _)]
  refine ⟨fun _ _ => trivial, ?_⟩
  rw [semAt_fr (nodefer hr' (fun d h => by cases h)), hr']
  refine ⟨fr_depth _ _, CallsIn.mono (callsIn_fr hc) fun e w' he => ?_⟩
  obtain ⟨v, rfl, hv⟩ := next e w' he
  exact hv _ (ha.put hd v)
/-- a call of yield: a round -/
theorem ELI.yield {d ty l : Nat} {x y : Operand} {at' : Array TypeId} {pos : String} {af : Array Edge} {v : Value} {R : Ending → World → Prop} {fn : FuncId} {tmps : Array Value} {assign body : Code} (hx : evS σ x = some (.func (.yield l) #[] #[])) (hy : evS σ y = some v) (hd : Nat.blt d n = true) (hi : (Instr.yield l #[v]).run P w = .ok (.round l fn tmps assign body) w) (hR : RoundIn Fence.wide 0 P l fn tmps assign body w R)
    (next : ∀ e w', R e w' → ∃ v, e = .returned v ∧ ELI ro k P n ds L Q rest (ins σ d v) w') : ELI ro k P n ds L Q (⟨some d, .call { callee := .value x, args := #[y], argTypes := at' }, ty, pos, af, none⟩ :: rest) σ w := fun a ha => by
  have hr' : (execOp a.eval ⟨some d, .call { callee := .value x, args := #[y], argTypes := at' }, ty, pos, af, none⟩).run P w = .ok (.round l fn tmps assign body) w := by
    simp only [execOp, resolve, List.map_toArray, List.map_cons, List.map_nil, ha.eval hx, ha.eval hy]
    simp [go_sem, Deferred.ofValue, hi]
  unfold wpListIn
  rw [if_pos (wanted_none rfl _)]
  refine ⟨fun _ _ => trivial, ?_⟩
  rw [semAt_fr (nodefer hr' (fun d h => by cases h)), hr']
  refine ⟨fr_depth _ _, RoundIn.mono (roundIn_fr hR) fun e w' he => ?_⟩
  obtain ⟨v, rfl, hv⟩ := next e w' he
  exact hv _ (ha.put hd v)
theorem ELI.newP {d ty : Nat} {op : Op} {pos : String} {af : Array Edge} {cs : Array Value} {T : TypeId} (h : ∀ a, Env n σ a → (execOp a.eval ⟨some d, op, ty, pos, af, none⟩).run P w = .ok (.value (.pointer (some ⟨w.heap.size, 0, none⟩))) (w.alloc (.cells cs T))) (hd : Nat.blt d n = true)
    (next : ∀ g w', Blk w' g T cs → Below w.heap.size w w' → w.heap.size ≤ g → w.heap.size < w'.heap.size → ELI ro k P n ds L Q rest (ins σ d (.pointer (some ⟨g, 0, none⟩))) w') : ELI ro k P n ds L Q (⟨some d, op, ty, pos, af, none⟩ :: rest) σ w :=
  ELI.turn _ _ h hd (next _ _ (Blk.new w T cs) ((Below.refl _ _).alloc (Nat.le_refl _) _) (Nat.le_refl _) (by simp))
theorem ELI.newS {d ty m c : Nat} {op : Op} {pos : String} {af : Array Edge} {cs : Array Value} {T : TypeId} (h : ∀ a, Env n σ a → (execOp a.eval ⟨some d, op, ty, pos, af, none⟩).run P w = .ok (.value (.slice (some ⟨w.heap.size, 0, none⟩) m c)) (w.alloc (.cells cs T))) (hd : Nat.blt d n = true)
    (next : ∀ g w', Blk w' g T cs → Below w.heap.size w w' → w.heap.size ≤ g → w.heap.size < w'.heap.size → ELI ro k P n ds L Q rest (ins σ d (.slice (some ⟨g, 0, none⟩) m c)) w') : ELI ro k P n ds L Q (⟨some d, op, ty, pos, af, none⟩ :: rest) σ w :=
  ELI.turn _ _ h hd (next _ _ (Blk.new w T cs) ((Below.refl _ _).alloc (Nat.le_refl _) _) (Nat.le_refl _) (by simp))
theorem ELI.store {ty t T g o z : Nat} {x y : Operand} {pos : String} {af : Array Edge} {l l' : List Value} {v : Value} (hx : evS σ x = some (.pointer (some ⟨g, o, none⟩))) (hy : evS σ y = some v) (hb : Blk w g T l.toArray) (hs : (P.info? t).map (·.size) = some z) (hv : v.cells.toList = l') (hk : lenV l' = z) (ho : Nat.ble (o + z) (lenV l) = true) (h1 : allOne l' = true)
    (next : ∀ w', Blk w' g T (spl l o l').toArray → w.grownBy w' (some g) → KeepsOthers w w' → ELI ro k P n ds L Q rest σ w') : ELI ro k P n ds L Q (⟨none, .store t x y, ty, pos, af, none⟩ :: rest) σ w := fun a ha => by
  have hr : (execOp a.eval ⟨none, .store t x y, ty, pos, af, none⟩).run P w = .ok .skip (w.setRow g (spl l o l').toArray) := by
    simp only [execOp, ha.eval hx, ha.eval hy, Sem.run_bind, run_storeAt hs hb hv hk ho h1, Result.andThen_ok]
    rfl
  refine wpLI_skip0 (wanted_none rfl _) hr (next _ (setRow_blk hb) (setRow_grown _ _ _) ⟨(setRow_grown w g _).size, fun j ob hj hc => ?_⟩ a ha)
  by_cases e : j = g
  · subst e
    unfold Blk at hb
    rw [hb] at hj
    injection hj with hj
    subst hj
    cases hc
  · exact ((setRow_grown w g (spl l o l').toArray).block j (Array.getElem?_eq_some_iff.1 hj).1 (fun h => e (Option.some.inj h))).trans hj
theorem keeps_below {A B : World} (h : Below A.heap.size A B) : KeepsOthers A B := ⟨h.size, fun k _ hk _ => (h.block k (Array.getElem?_eq_some_iff.1 hk).1).trans hk⟩
theorem keeps_own {w w' : World} {base e size n : Nat} {v : Value} {xs : List Value} (h : w.ownsRow base e size v n xs) (hg : w.grownBy w' v.ownBlock) : KeepsOthers w w' := ⟨hg.size, fun j o hj hc => by
  refine (hg.block j (Array.getElem?_eq_some_iff.1 hj).1 fun e1 => ?_).trans hj
  obtain ⟨_, ⟨rfl, _⟩ | ⟨g, cap, cur, rfl, _, hk, _⟩⟩ := h
  · cases e1
  · have e2 : j = g := by simpa [Value.ownBlock] using e1
    subst e2
    rw [hk] at hj
    injection hj with hj
    subst hj
    cases hc⟩
theorem ELI.push {d ty t e size bytes base B m c : Nat} {s x : Operand} {pos : String} {af : Array Edge} (E : Elem P t e size bytes) {v src : Value} {xs news : List Value} (hs : evS σ s = some v) (hx : evS σ x = some src) (hown : w.ownsRow base e size v c xs) (hr : Rd w B size src m news) (h1 : ∀ u ∈ news, u.oneCell' = true) (hm : c + m ≤ 1048576) (hby : Nat.ble bytes 1048576 = true) (hbase : base ≤ w.heap.size) (hd : Nat.blt d n = true)
    (next : ∀ v' w', w'.ownsRow base e size v' (c + m) (xs ++ news) → w.grownBy w' v.ownBlock → Below base w w' → KeepsOthers w w' → ELI ro k P n ds L Q rest (ins σ d v') w') : ELI ro k P n ds L Q (⟨some d, .call { callee := .builtin .append, args := #[s, x], argTypes := #[t, t] }, ty, pos, af, none⟩ :: rest) σ w := fun a ha => by
  obtain ⟨v', w', h2, h3, h4, h5, h6⟩ := run_push (P := P) (ty := ty) E hown hr h1 hm (by simpa [Nat.ble_eq] using hby) hbase
  exact wpLI_run (wanted_none rfl _) (run_append_call rfl (ha.eval hs) (ha.eval hx) h2) (next v' w' h3 h4 h5 (keeps_own hown h4) _ (ha.put hd v'))
/-! ### Code -/
theorem ECI.sub {c : Code} (h : ECI ro k P n ds c Q τ w) (hs : Sub τ σ) : ECI ro k P n ds c Q σ w := fun a ha => h a (ha.sub hs)
theorem ECI.seq {x y : Code} (h : ECI ro k P n ds x (Exit.then (y.wpIn (FR ro) k P Q) Q) σ w) : ECI ro k P n ds (.seq x y) Q σ w := fun a ha => wpIn_seq (h a ha)
theorem ECI.region {id : Nat} {l : List Oper} (h : ELI ro k P n ds l Q l σ w) : ECI ro k P n ds (.region id l.toArray false) Q σ w := fun a ha => wpIn_region_lit (h a ha)
theorem ECI.block {id : Nat} {c : Code} (h : ECI ro k P n ds c (Exit.inBlock id Q) σ w) : ECI ro k P n ds (.block id c) Q σ w := fun a ha => wpIn_block (h a ha)
theorem ECI.skip (h : EXI n ds Q .normal σ w) : ECI ro k P n ds .skip Q σ w := fun a ha => wpIn_skip (h a ha)
theorem ECI.exit {id : Nat} (h : EXI n ds Q (.exit id) σ w) : ECI ro k P n ds (.exit id) Q σ w := fun a ha => wpIn_exit (h a ha)
theorem ECI.ret (h : EXI n ds Q .ret σ w) : ECI ro k P n ds .ret Q σ w := fun a ha => wpIn_ret (h a ha)
theorem ECI.yes {c : Operand} {x y : Code} (hc : evS σ c = some (.bool true)) (h : ECI ro k P n ds x Q σ w) : ECI ro k P n ds (.cond c x y) Q σ w := fun a ha => wpIn_cond_true (ha.eval hc) (h a ha)
theorem ECI.no {c : Operand} {x y : Code} (hc : evS σ c = some (.bool false)) (h : ECI ro k P n ds y Q σ w) : ECI ro k P n ds (.cond c x y) Q σ w := fun a ha => wpIn_cond_false (ha.eval hc) (h a ha)
/-- code of a function is code of a round of none -/
theorem EC.inn {c : Code} (h : ECI none k P n [] c Q σ w) : EC P n c Q σ w := fun a ha => wpIn_wide.1 (h a ha.g)
theorem ECI.out {c : Code} (h : EC P n c Q σ w) : ECI none k P n [] c Q σ w := fun a ha => wpIn_wide.2 (h a ha.e)
/-! ### Exits -/
theorem EXI.seq {y : Code} (h : ECI ro k P n ds y Q σ w) : EXI n ds (Exit.then (y.wpIn (FR ro) k P Q) Q) .normal σ w := h
theorem EXI.seq_exit {K : Act → World → Prop} {i : Nat} (h : EXI n ds Q (.exit i) σ w) : EXI n ds (Exit.then K Q) (.exit i) σ w := h
theorem EXI.seq_ret {K : Act → World → Prop} (h : EXI n ds Q .ret σ w) : EXI n ds (Exit.then K Q) .ret σ w := h
theorem EXI.blk {id : Nat} (h : EXI n ds Q .normal σ w) : EXI n ds (Exit.inBlock id Q) .normal σ w := h
theorem EXI.blk_ret {id : Nat} (h : EXI n ds Q .ret σ w) : EXI n ds (Exit.inBlock id Q) .ret σ w := h
theorem EXI.blk_here {id : Nat} (h : EXI n ds Q .normal σ w) : EXI n ds (Exit.inBlock id Q) (.exit id) σ w := fun a ha => by
  simp only [Exit.inBlock, if_true]
  exact h a ha
theorem EXI.blk_other {id i : Nat} (hi : Nat.beq i id = false) (h : EXI n ds Q (.exit i) σ w) : EXI n ds (Exit.inBlock id Q) (.exit i) σ w := fun a ha => by
  simp only [Exit.inBlock, if_neg (Nat.ne_of_beq_eq_false hi)]
  exact h a ha
end
/-! ### What a body leaves as it was -/
structure Kp (n0 : Nat) (S : List Nat) (W W' : World) : Prop where
  os : W'.os = W.os
  tape : W'.tape = W.tape
  output : W'.output = W.output
  size : W.heap.size ≤ W'.heap.size
  low : ∀ k, k < n0 → W'.heap[k]? = W.heap[k]?
  blk : ∀ g T cs, Blk W g T cs → memB S T = false → Blk W' g T cs
section
variable {n0 : Nat} {S : List Nat} {A B C : World}
theorem Kp.refl (n0 : Nat) (S : List Nat) (W : World) : Kp n0 S W W := ⟨rfl, rfl, rfl, Nat.le_refl _, fun _ _ => rfl, fun _ _ _ h _ => h⟩
theorem Kp.trans (h : Kp n0 S A B) (k : Kp n0 S B C) : Kp n0 S A C := ⟨k.os.trans h.os, k.tape.trans h.tape, k.output.trans h.output, Nat.le_trans h.size k.size, fun i hi => (k.low i hi).trans (h.low i hi), fun g T cs hg hT => k.blk g T cs (h.blk g T cs hg hT) hT⟩
theorem Kp.of_below (h : Below A.heap.size A B) (hn : n0 ≤ A.heap.size) : Kp n0 S A B := ⟨h.os, h.tape, h.output, h.size, fun k hk => h.block k (by omega), fun g T cs hg _ => hg.below h hg.lt⟩
theorem Kp.below (h : Kp n0 S A B) : Below n0 A B := ⟨h.os, h.tape, h.output, h.size, h.low⟩
theorem Kp.alloc (W : World) (hn : n0 ≤ W.heap.size) (o : Obj) : Kp n0 S W (W.alloc o) := Kp.of_below ((Below.refl _ _).alloc (Nat.le_refl _) _) hn
theorem Kp.putObj {W : World} {l : Nat} {o : Obj} (o' : Obj) (hl : n0 ≤ l) (ho : W.heap[l]? = some o) (hc : o.isCells = false) : Kp n0 S W (W.putObj l o') :=
  ⟨rfl, rfl, rfl, by simp, fun k hk => World.putObj_heap_other (by omega), fun g T cs hg _ => by
    unfold Blk at hg ⊢
    by_cases e : g = l
    · subst e
      rw [ho] at hg
      injection hg with hg
      subst hg
      cases hc
    · exact (World.putObj_heap_other e).trans hg⟩
/-- a store to a block of one of the kinds -/
theorem Kp.grown {w w' : World} {g T : Nat} {cs : Array Value} (hq : Blk w g T cs) (hT : memB S T = true) (hn : n0 ≤ g) (hg : w.grownBy w' (some g)) : Kp n0 S w w' :=
  ⟨hg.os, hg.tape, hg.output, hg.size, fun k hk => by
    by_cases e : k < w.heap.size
    · exact hg.block k e (fun h => by injection h; omega)
    · have := hq.lt; omega, fun k T' cs' hk hT' => by
    refine (hg.block k hk.lt fun h => ?_).trans hk
    injection h with h
    subst h
    unfold Blk at hk hq
    rw [hq] at hk
    injection hk with hk
    injection hk with _ h2
    subst h2
    rw [hT] at hT'
    cases hT'⟩
theorem Kp.own {w w' : World} {base e size n : Nat} {v : Value} {xs : List Value} (h : w.ownsRow base e size v n xs) (hT : memB S e = true) (hn : n0 ≤ base) (hn2 : n0 ≤ w.heap.size) (hg : w.grownBy w' v.ownBlock) : Kp n0 S w w' := by
  obtain ⟨_, ⟨rfl, _⟩ | ⟨g, cap, cur, rfl, hb, hk, _⟩⟩ := h
  · exact Kp.of_below ⟨hg.os, hg.tape, hg.output, hg.size, fun k hk => hg.block k hk (by simp [Value.ownBlock])⟩ hn2
  · exact Kp.grown (cs := cur) hk hT (by omega) hg
theorem Kp.row {w w' : World} {base e size n : Nat} {v : Value} {xs : List Value} (h : Kp n0 S w w') (ho : w.ownsRow base e size v n xs) (hT : memB S e = false) : w'.ownsRow base e size v n xs := by
  obtain ⟨hl, h0 | ⟨g, cap, cur, hv, hb, hk, h1⟩⟩ := ho
  · exact ⟨hl, .inl h0⟩
  · exact ⟨hl, .inr ⟨g, cap, cur, hv, hb, h.blk g e cur hk hT, h1⟩⟩
end
/-! ### An iterator that hands lists of integers -/
abbrev It := List Int × Value
def YieldW (P : Program) (l : Nat) (args : Array Value) (W : World) (R : Ending → World → Prop) : Prop :=
  ∃ fn tmps assign body, (Instr.yield l args).run P W = .ok (.round l fn tmps assign body) W ∧ RoundIn Fence.wide 0 P l fn tmps assign body W R
def RoundAns (n0 : Nat) (S : List Nat) (J Jx : List It → World → Prop) (pre : List It) (W : World) (e : Ending) (W' : World) : Prop :=
  Kp n0 S W W' ∧ ((e = .returned (.bool true) ∧ J pre W') ∨ (e = .returned (.bool false) ∧ Jx pre W'))
def Stays (J : List It → World → Prop) : Prop := ∀ s A B, J s A → Below A.heap.size A B → J s B
def IterAt (P : Program) (gf : Nat) (caps : Array Value) (ok : It → World → Prop) (n0 : Nat) (S : List Nat) (all : List (List Int)) (w : World) : Prop :=
  ∀ (l : Nat) (J Jx : List It → World → Prop) (W : World), Kp n0 S w W → Stays J → Stays Jx →
    (∀ pre x W1, ok x W1 → J pre W1 → (pre ++ [x]).map (·.1) <+: all → YieldW P l #[x.2] W1 (RoundAns n0 S J Jx (pre ++ [x]) W1)) →
    J [] W → Calls P gf (#[.func (.yield l) #[] #[]] ++ caps) W fun e W' => (∃ v, e = .returned v) ∧ Kp n0 S W W' ∧ ((∃ xs : List It, xs.map (·.1) = all ∧ J xs W') ∨ (∃ pre : List It, pre ≠ [] ∧ pre.map (·.1) <+: all ∧ Jx pre W'))
section
variable {P : Program} {n : Nat} {ds : List Deferred} {σ : Sg} {w : World} {Q : Exit → Act → World → Prop}
theorem env_arg {d : Nat} {a : Act} {v : Value} (h : EnvG n ds σ a) (hd : Nat.blt d n = true) : EnvG n [] (ins σ d v) ⟨(#[d].zip #[v]).foldl (fun t (p, v) => t.setIfInBounds p v) a.tmps, []⟩ := by
  have h1 := (Env.put (a := ⟨a.tmps, []⟩) h.env hd v).g
  simpa [Act.put] using h1
theorem rangeF {k : Nat} {g : Operand} {d : Nat} {assign body : Code} {gf : Nat} {caps : Array Value} (hg : evS σ g = some (.func (.func gf) #[] caps)) (eg : ∀ args w, (callFunc gf args).run P w = .ok (.enter gf args) w) (hd : Nat.blt d n = true)
    {ok : It → World → Prop} {n0 : Nat} {S : List Nat} {all : List (List Int)} (hit : IterAt P gf caps ok n0 S all w) (hn0 : n0 ≤ w.heap.size)
    (I Ix : List It → World → Prop) (hI : OwnFrom w.heap.size I) (hIx : OwnFrom w.heap.size Ix) (h0 : I [] w) (hok : OwnFrom w.heap.size ok) (σ1 : It → Sg)
    (hassign : ∀ l x W K, (∀ a', EnvG n [] (σ1 x) a' → K a' W) → ECI (some l) 0 P n [] assign (Exit.then K (fun _ _ _ => False)) (ins σ d x.2) W)
    (hbody : ∀ l pre x W, (pre ++ [x]).map (·.1) <+: all → ok x W → I pre W → ECI (some l) 0 P n [] body (fun e _ W' => KeepsOthers W W' ∧ Kp n0 S W W' ∧ ((e = .normal ∧ I (pre ++ [x]) W') ∨ (e = .ret ∧ Ix (pre ++ [x]) W'))) (σ1 x) W)
    (hdone : ∀ D xs W, w.heap.size ≤ D → xs.map (·.1) = all → I xs W → Kp n0 S w W → W.heap[D]? = some (.deferred (some [])) → EXI n ({ target := .collected D, args := #[] } :: ds) Q .normal σ W)
    (hstop : ∀ D pre W, w.heap.size ≤ D → pre ≠ [] → pre.map (·.1) <+: all → Ix pre W → Kp n0 S w W → W.heap[D]? = some (.deferred (some [])) → EXI n ({ target := .collected D, args := #[] } :: ds) Q .ret σ W) :
    ECI none k P n ds (.rangeFunc g #[d] assign body) Q σ w := fun a ha => by
  refine wpIn_rangeFunc fun fn hfn => ?_
  obtain ⟨rec, hrec⟩ : ∃ rec : LoopState → Option Code → Loop, rec = fun st pe => { state := st, pending := pe, fn, tmps := a.tmps, params := #[d], assign, body, defers := w.heap.size } := ⟨_, rfl⟩
  obtain ⟨W1, eW1⟩ : ∃ W1, W1 = (w.alloc (.deferred (some []))).alloc (.loop (rec .ready none)) := ⟨_, rfl⟩
  have hL := World.alloc_heap_new (w.alloc (.deferred (some []))) (.loop (rec .ready none))
  rw [World.size_alloc, ← eW1] at hL
  have hD : W1.heap[w.heap.size]? = some (.deferred (some [])) := by rw [eW1]; exact (Below.heap_alloc _ _ _ (by simp)).trans (World.alloc_heap_new w _)
  have hs1 : W1.heap.size = w.heap.size + 2 := by rw [eW1]; simp
  have hI1 : I [] W1 := by rw [eW1]; exact hI.alloc _ (hI.alloc _ h0)
  have hK1 : Kp n0 S w W1 := by rw [eW1]; exact (Kp.alloc w hn0 _).trans (Kp.alloc _ (by simp; omega) _)
  refine ⟨w.heap.size + 1, [{ target := .collected w.heap.size, args := #[] }], W1, { target := .fn (.func gf) caps, args := #[.func (.yield (w.heap.size + 1)) #[] #[]] }, W1, gf, #[.func (.yield (w.heap.size + 1)) #[] #[]] ++ caps, W1, ?_, ?_, ?_, ?_, fr_depth _ _, ?_⟩
  · rw [eW1, hrec]; exact run_enterLoop_outer _ _ _ _ _
  · simp only [resolve, ha.eval hg]
    simp [go_sem]
  · intro f' hf'; trivial
  · simp [invoke, go_sem, eg]
  · refine CallsIn.mono (callsIn_fr (hit (w.heap.size + 1) (fun pre W => I pre W ∧ w.heap.size + 2 ≤ W.heap.size ∧ W.heap[w.heap.size + 1]? = some (.loop (rec .ready none)) ∧ W.heap[w.heap.size]? = some (.deferred (some [])))
      (fun pre W => Ix pre W ∧ w.heap.size + 2 ≤ W.heap.size ∧ W.heap[w.heap.size + 1]? = some (.loop (rec .done (some .ret))) ∧ W.heap[w.heap.size]? = some (.deferred (some [])))
      W1 hK1 ?_ ?_ ?_ ⟨hI1, by omega, hL, hD⟩)) ?_
    · rintro s A B ⟨h1, h2, h3, h4⟩ hb
      exact ⟨hI s A B none h1 ⟨hb.os, hb.tape, hb.output, hb.size, fun i hi _ => hb.block i hi⟩ (fun r h => by cases h), Nat.le_trans h2 hb.size, (hb.block _ (by omega)).trans h3, (hb.block _ (by omega)).trans h4⟩
    · rintro s A B ⟨h1, h2, h3, h4⟩ hb
      exact ⟨hIx s A B none h1 ⟨hb.os, hb.tape, hb.output, hb.size, fun i hi _ => hb.block i hi⟩ (fun r h => by cases h), Nat.le_trans h2 hb.size, (hb.block _ (by omega)).trans h3, (hb.block _ (by omega)).trans h4⟩
    · rintro pre x W hokx ⟨hi, hsz, hl, hk⟩ hpf
      have hlt : w.heap.size + 1 < W.heap.size := by omega
      have hy := run_yield (P := P) (args := #[x.2]) hl (by rw [hrec]; rfl)
      rw [hrec] at hy
      refine ⟨fn, _, assign, body, hy, roundIn_of_wpIn hfn (hassign (w.heap.size + 1) x W _ (fun a' ha' => ?_) _ (env_arg ha hd))⟩
      refine ⟨_, run_beginRound hl (by rw [hrec]), ?_⟩
      obtain ⟨W2, eW2⟩ : ∃ W2, W2 = W.putObj (w.heap.size + 1) (.loop { rec .ready none with state := .busy }) := ⟨_, rfl⟩
      have hl2 : W2.heap[w.heap.size + 1]? = some (.loop { rec .ready none with state := .busy }) := by rw [eW2]; exact World.putObj_heap_same hlt
      have hk2 : W2.heap[w.heap.size]? = some (.deferred (some [])) := by rw [eW2]; exact (World.putObj_heap_other (by omega)).trans hk
      have hw2 : Kp n0 S W W2 := by rw [eW2]; exact Kp.putObj _ (by omega) hl rfl
      have hi2 : I pre W2 := by rw [eW2]; exact hI.putObj _ hi (by omega) hl rfl
      have hok2 : ok x W2 := by rw [eW2]; exact hok.putObj _ hokx (by omega) hl rfl
      have hsz2 : w.heap.size + 2 ≤ W2.heap.size := Nat.le_trans hsz hw2.size
      rw [← eW2]
      refine wpIn_mono (hbody (w.heap.size + 1) pre x W2 hpf hok2 hi2 a' ha') ?_
      rintro e a3 W3 ⟨hk3, hp3, h3⟩
      have hl3 := hk3.same _ _ hl2 rfl
      have hd3 := hk3.same _ _ hk2 rfl
      have fin : ∀ jump : Option Code, ∃ W4, (Instr.endRound (w.heap.size + 1) jump).run P W3 = .ok (.bool jump.isNone) W4 ∧ W4 = W3.putObj (w.heap.size + 1) (.loop (rec (if jump.isNone then .ready else .done) jump)) ∧ Kp n0 S W W4 ∧ w.heap.size + 2 ≤ W4.heap.size ∧ W4.heap[w.heap.size + 1]? = some (.loop (rec (if jump.isNone then .ready else .done) jump)) ∧ W4.heap[w.heap.size]? = some (.deferred (some [])) := fun jump => by
        have hr := run_endRound (P := P) jump hl3
        rw [hrec] at hr ⊢
        have hk4 : Kp n0 S W3 (W3.putObj (w.heap.size + 1) (.loop (rec (if jump.isNone then .ready else .done) jump))) := Kp.putObj _ (by omega) hl3 rfl
        rw [hrec] at hk4
        exact ⟨_, hr, rfl, hw2.trans (hp3.trans hk4), Nat.le_trans hsz2 (Nat.le_trans hp3.size hk4.size), World.putObj_heap_same (Array.getElem?_eq_some_iff.1 hl3).1, (World.putObj_heap_other (by omega)).trans hd3⟩
      rcases h3 with ⟨rfl, hi3⟩ | ⟨rfl, hi3⟩
      · obtain ⟨W4, hr, e4, k4, s4, l4, d4⟩ := fin none
        exact ⟨_, W4, hr, k4, .inl ⟨rfl, by rw [e4]; exact hI.putObj _ hi3 (by omega) hl3 rfl, s4, l4, d4⟩⟩
      · obtain ⟨W4, hr, e4, k4, s4, l4, d4⟩ := fin (some .ret)
        exact ⟨_, W4, hr, k4, .inr ⟨rfl, by rw [e4]; exact hIx.putObj _ hi3 (by omega) hl3 rfl, s4, l4, d4⟩⟩
    · rintro e W2 ⟨⟨v, rfl⟩, hkk, ⟨xs, hS, hi, hsz, hl, hk⟩ | ⟨pre, hne, hS, hi, hsz, hl, hk⟩⟩
      · refine ⟨none, _, by have := run_endLoop (P := P) hl (by rw [hrec]; simp); rw [hrec] at this; exact this, ?_⟩
        exact hdone w.heap.size xs _ (Nat.le_refl _) hS (hI.putObj _ hi (by omega) hl rfl) (hK1.trans (hkk.trans (Kp.putObj _ (by omega) hl rfl))) ((World.putObj_heap_other (by omega)).trans hk) _ ⟨ha.env, by rw [List.singleton_append, ha.ds]⟩
      · refine ⟨some .ret, _, by have := run_endLoop (P := P) hl (by rw [hrec]; simp); rw [hrec] at this; exact this, wpIn_ret ?_⟩
        exact hstop w.heap.size pre _ (Nat.le_refl _) hne hS (hIx.putObj _ hi (by omega) hl rfl) (hK1.trans (hkk.trans (Kp.putObj _ (by omega) hl rfl))) ((World.putObj_heap_other (by omega)).trans hk) _ ⟨ha.env, by rw [List.singleton_append, ha.ds]⟩
/-- the assign code of a loop variable that is no box -/
theorem assign1 {d e l id ty : Nat} {pos : String} {af : Array Edge} {x : It} {W : World} {K : Act → World → Prop} (he : Nat.blt e n = true) (hK : ∀ a', EnvG n [] (ins (ins σ d x.2) e x.2) a' → K a' W) :
    ECI (some l) 0 P n [] (.region id [⟨some e, .assign (.tmp d), ty, pos, af, none⟩].toArray false) (Exit.then K (fun _ _ _ => False)) (ins σ d x.2) W :=
  ECI.region (ELI.val (x_assign (show evS (ins σ d x.2) (.tmp d) = some x.2 by simp [evS, ins])) he (ELI.nil (fun a ha => hK a ha)))
/-! ### Leaving with marks -/
def Marks (n0 : Nat) (ds : List Deferred) (W : World) : Prop := ∀ d ∈ ds, ∃ D, n0 ≤ D ∧ d = { target := .collected D, args := #[] } ∧ W.heap[D]? = some (.deferred (some []))
/-- what taking the marks does -/
structure Took (n0 : Nat) (w w' : World) : Prop where
  below : Below n0 w w'
  size : w'.heap.size = w.heap.size
  blk : ∀ g T cs, Blk w g T cs → Blk w' g T cs
theorem leaves_marks {fn : Func} {tmps : Array Value} {R : Ending → World → Prop} {n0 k : Nat} : ∀ (ds : List Deferred) (w : World), Marks n0 ds w → ds.Nodup → (∀ w', Took n0 w w' → ∃ v, (results fn tmps).run P w' = .ok v w' ∧ R (.returned v) w') → LeavesInM Fence.wide k P fn tmps R ds .returning w
  | [], w, _, _, h => h w ⟨Below.refl _ _, rfl, fun _ _ _ h => h⟩
  | d :: ds, w, hm, hd, h => by
    obtain ⟨D, hD, rfl, hw⟩ := hm d (List.mem_cons_self ..)
    have ho : ∀ j, j ≠ D → (w.putObj D (.deferred none)).heap[j]? = w.heap[j]? := fun j hj => World.putObj_heap_other hj
    refine ⟨by simp, .inl ⟨D, _, rfl, run_takeDeferred hw, leaves_marks (n0 := n0) ds _ (fun d' hd' => ?_) (List.nodup_cons.1 hd).2 fun w' ht => h w' ?_⟩⟩
    · obtain ⟨D', h1, rfl, h3⟩ := hm d' (List.mem_cons_of_mem _ hd')
      refine ⟨D', h1, rfl, (ho D' fun e => ?_).trans h3⟩
      subst e
      exact (List.nodup_cons.1 hd).1 hd'
    · have hk : Kp n0 [] w (w.putObj D (.deferred none)) := Kp.putObj _ hD hw rfl
      exact ⟨hk.below.trans ht.below, ht.size.trans (by simp), fun g T cs hg => ht.blk g T cs (hk.blk g T cs hg rfl)⟩
theorem EC.marks {fn : Func} {f : FuncId} {c : Code} {args : List Value} {R : Ending → World → Prop} (n : Nat) (hf : P.funcs[f]? = some fn) (hb : fn.body = some c) (hn : fn.ntmps = n) (hl : Nat.ble args.length n = true) (h : ECI none 0 P n [] c (bodyPostM Fence.wide 0 P fn R) (argsS args 0) w) : Calls P f args.toArray w R := by
  subst hn
  refine (callsIn_wide (n := 0)).1 (callsIn_of_wp_marks hf hb trivial ?_)
  have := h _ (env_args (l := args) (by simpa [Nat.ble_eq] using hl)).g
  simp only [List.size_toArray] at this ⊢
  exact this
theorem EXI.done {fn : Func} {R : Ending → World → Prop} {n0 : Nat} {v : Value} (hm : Marks n0 ds w) (hd : ds.Nodup) (hr : ∀ w', Took n0 w w' → ∀ a, Env n σ a → (results fn a.tmps).run P w' = .ok v w') (h : ∀ w', Took n0 w w' → R (.returned v) w') : EXI n ds (bodyPostM Fence.wide 0 P fn R) .ret σ w := fun a ha => by
  show LeavesInM Fence.wide 0 P fn a.tmps R a.defers .returning w
  rw [ha.ds]
  exact leaves_marks ds w hm hd fun w' ht => ⟨v, hr w' ht ⟨a.tmps, []⟩ ha.env, h w' ht⟩
end
/-! ### An append to a slice that is full, and only read -/
section
variable {P : Program} {w : World}
theorem run_grow {t e : TypeId} {size bytes base B B' m k ty : Nat} {A : Option Addr} (E : Elem P t e size bytes) {src : Value} {xs news : List Value} (hold : Rd w B' size (.slice A k k) k xs) (hr : Rd w B size src m news) (hm0 : 0 < m) (hm : k + m ≤ 1048576) (hby : bytes ≤ 1048576) (hbase : base ≤ w.heap.size) :
    ∃ v' w', (Builtin.append_ #[t, t] ty #[.slice A k k, src]).run P w = .ok v' w' ∧ w'.ownsRow base e size v' (k + m) (xs ++ news) ∧ Below w.heap.size w w' ∧ v'.ownBlock = some w.heap.size := by
  obtain ⟨i, z, hi, hz, hsize, hb, hzs⟩ := E.hi
  subst hsize
  obtain ⟨hl, X, c, rfl, hnc, hr⟩ := hr
  obtain ⟨b, off, rfl, _, hc⟩ := hr hm0
  obtain ⟨hlo, A', c', h8, _, hrd⟩ := hold
  injection h8 with h8 _ _
  subst h8
  have hkm : (k + m) * i.bytes ≤ 1048576 * i.bytes := Nat.mul_le_mul_right _ (by omega)
  have hmm : m * i.bytes ≤ 1048576 * i.bytes := Nat.mul_le_mul_right _ (by omega)
  have hlen : (xs ++ news).length = (k + m) * i.size := by rw [List.length_append, hlo, hl, Nat.add_mul]
  have hal : ∀ o, Below w.heap.size w (w.drew.alloc o) := fun o => ⟨rfl, rfl, rfl, by simp, fun j hj => by
    simp only [World.alloc, World.drew]
    rw [Array.getElem?_push_lt hj, Array.getElem?_eq_getElem hj]⟩
  have grown : ∀ old : Nat, (w.drew.alloc (.cells (xs.toArray ++ news.toArray ++ Builtin.zeroCells z.cells (grownCap w (k + m) old e - (k + m))) e)).ownsRow base e i.size (.slice (some ⟨w.heap.size, 0, none⟩) (k + m) (grownCap w (k + m) old e)) (k + m) (xs ++ news) := fun old => by
    have hge := grownCap_ge w (k + m) old e
    have hcm : grownCap w (k + m) old e ≤ maxLen := grownCap_le_maxLen w (k + m) old e (by simp only [maxLen]; omega)
    refine ⟨hlen, .inr ⟨w.heap.size, _, _, rfl, hbase, heap_alloc_new w.drew _, hge, hcm, ?_, ?_⟩⟩
    · simp only [Array.size_append, List.size_toArray, size_zeroCells, hzs, hlo, hl, ← Nat.add_mul]
      congr 1
      omega
    · simp only [Array.toList_append, List.append_assoc]
      rw [← List.append_assoc, ← hlen]
      exact List.take_left
  rcases A with _ | ad
  · have hk0 : k = 0 := by
      rcases Nat.eq_zero_or_pos k with h | h
      · exact h
      · obtain ⟨_, _, h9, _⟩ := hrd h; cases h9
    subst hk0
    have hx : xs = [] := List.eq_nil_of_length_eq_zero (by simpa using hlo)
    subst hx
    have h7 := run_append_nil (P := P) w t ty e i z E.ht hi hz ⟨b, off, none⟩ m c news hl (fun j u hu => by rw [Addr.add_lit]; exact hc j u hu) hm0 (by omega) (by omega)
    have hg := grown 0
    simp only [Nat.zero_add, List.nil_append, Array.empty_append] at hg ⊢
    exact ⟨_, _, h7, hg, hal _, rfl⟩
  · have holds : ∀ j u, xs[j]? = some u → w.cell? (ad.add j) = some u := fun j u hu => by
      rcases Nat.eq_zero_or_pos k with h | h
      · subst h
        have hx : xs = [] := List.eq_nil_of_length_eq_zero (by simpa using hlo)
        subst hx
        simp at hu
      · obtain ⟨b', off', h9, _, h10⟩ := hrd h
        injection h9 with h9
        subst h9
        rw [Addr.add_lit]
        exact h10 j u hu
    have h7 := run_append_grow (P := P) w t ty e i z E.ht hi hz ad k k xs hlo holds ⟨b, off, none⟩ m c news hl (fun j u hu => by rw [Addr.add_lit]; exact hc j u hu) (by omega) (by omega) (growslice_fits (by omega) (by omega))
    exact ⟨_, _, h7, grown k, hal _, rfl⟩
end
theorem rd_clip {w : World} {B size n c : Nat} {A : Option Addr} {xs : List Value} (h : Rd w B size (.slice A n c) n xs) : Rd w B size (.slice A n n) n xs := by
  obtain ⟨hl, A', c', h8, _, hrd⟩ := h
  injection h8 with h8 _ _
  subst h8
  exact ⟨hl, A, n, rfl, Nat.le_refl _, hrd⟩
section
variable {P : Program} {n : Nat} {σ : Sg} {L : List Oper} {cls : List (List Nat)} {alc : List Nat} {val : Nat → Value} {a : Act} {w1 : World} {i : Nat} {Q : Exit → Act → World → Prop}
theorem hs_grow {Φ : Nat → (Nat → Value) → World → Prop} {d ty t e size bytes base B B' mm k : Nat} {s x : Operand} {pos : String} {af : Array Edge} {A : Option Addr} (E : Elem P t e size bytes) {src : Value} {xs news : List Value} (ha : Env n σ a) (ho : nthO L i = some ⟨some d, .call { callee := .builtin .append, args := #[s, x], argTypes := #[t, t] }, ty, pos, af, none⟩) (hs : evS σ s = some (.slice A k k)) (hx : evS σ x = some src)
    (hold : Rd w1 B' size (.slice A k k) k xs) (hr : Rd w1 B size src mm news) (hm0 : 0 < mm) (hm : k + mm ≤ 1048576) (hby : Nat.ble bytes 1048576 = true) (hbase : base ≤ w1.heap.size) (halc : memB alc i = false)
    (hΦ : ∀ v' w', w'.ownsRow base e size v' (k + mm) (xs ++ news) → v'.ownBlock = some w1.heap.size → Φ i (res (upd val i v') i (clsAt cls i)) w') : wpOp P L.toArray Q i (HK L cls alc Φ i val a w1) a w1 := by
  obtain ⟨v', w', h2, h3, h4, h5⟩ := run_grow (P := P) (ty := ty) (base := base) E hold hr hm0 hm (by simpa [Nat.ble_eq] using hby) hbase
  exact hs_run ho rfl (run_append_call rfl (ha.eval hs) (ha.eval hx) h2) h4 (hΦ v' w' h3 h5) fun h => by rw [memB_mem.2 h] at halc; cases halc
end
/-- a run that ends as code does -/
theorem EXI.of {n : Nat} {Q : Exit → Act → World → Prop} {e : Exit} {σ : Sg} {w : World} (h : EX n Q e σ w) : EXI n [] Q e σ w := fun a ha => h a ha.e
end Go.Proofs.Ytmaiiigijjfjfaa
set_option linter.unusedVariables false
set_option linter.unusedSimpArgs false
namespace Go.Proofs.Ytmaiiigijjfjfaa
open Go Go.RowKit
def optN (c : Case) (pre : List Int) : Nat := (c.clues.getD pre.length []).length
/-- the possible courses that begin with some numbers; d: how many clues are left -/
def crsP (c : Case) : Nat → List Int → List (List Int)
  | 0, pre => if fitsS c pre = true then [pre] else []
  | d + 1, pre => if fitsS c pre = true then (List.range (optN c pre)).flatMap fun k => crsP c d (pre ++ [((k : Nat) : Int)]) else []
def coursesL (c : Case) : List (List Int) := crsP c c.clues.length []
theorem crsP_bad {c : Case} {d : Nat} {pre : List Int} (h : fitsS c pre = false) : crsP c d pre = [] := by cases d <;> simp [crsP, h]
theorem crsP_last {c : Case} {pre : List Int} (h : fitsS c pre = true) : crsP c 0 pre = [pre] := by simp [crsP, h]
theorem crsP_more {c : Case} {d : Nat} {pre : List Int} (h : fitsS c pre = true) : crsP c (d + 1) pre = (List.range (optN c pre)).flatMap fun k => crsP c d (pre ++ [((k : Nat) : Int)]) := by simp [crsP, h]
/-- a part of what comes is a part of all -/
theorem flat_part {α : Type} {f : Nat → List α} {p : List α} {k n : Nat} (hk : k < n) (hp : p <+: f k) : (List.range k).flatMap f ++ p <+: (List.range n).flatMap f := by
  obtain ⟨m, rfl⟩ : ∃ m, n = k + 1 + m := ⟨n - (k + 1), by omega⟩
  obtain ⟨q, hq⟩ := hp
  have h1 : (List.range (k + 1 + m)).flatMap f = (List.range (k + 1)).flatMap f ++ ((List.range m).map fun j => k + 1 + j).flatMap f := by
    rw [List.range_add, List.flatMap_append]
  rw [h1, range_flat, ← hq]
  exact ⟨q ++ ((List.range m).map fun j => k + 1 + j).flatMap f, by simp [List.append_assoc]⟩
theorem inCourse_more {c : Case} {pre : List Int} (h : inCourse c pre) {k : Nat} (hp : pre.length < c.clues.length) (hk : k < optN c pre) : inCourse c (pre ++ [((k : Nat) : Int)]) := by
  refine ⟨by simp; omega, fun i hi => ?_⟩
  simp only [List.length_append, List.length_cons, List.length_nil] at hi
  by_cases e : i < pre.length
  · rw [show (pre ++ [((k : Nat) : Int)]).getD i 0 = pre.getD i 0 by simp [List.getElem?_append, e]]
    exact h.2 i e
  · obtain rfl : i = pre.length := by omega
    rw [show (pre ++ [((k : Nat) : Int)]).getD pre.length 0 = ((k : Nat) : Int) by simp]
    unfold optN at hk
    omega
theorem inCourse_nil (c : Case) : inCourse c [] := ⟨Nat.zero_le _, fun i hi => absurd hi (by simp)⟩
/-! ### How many -/
def prodTo (c : Case) : Nat → Nat
  | 0 => 1
  | k + 1 => prodTo c k * (c.clues.getD k []).length
def manyC (c : Case) : Nat := prodTo c c.clues.length
theorem prodTo_mono {c : Case} (h : ∀ i, i < c.clues.length → 1 ≤ (c.clues.getD i []).length) {k : Nat} : ∀ {j : Nat}, k + j ≤ c.clues.length → prodTo c k ≤ prodTo c (k + j)
  | 0, _ => Nat.le_refl _
  | j + 1, hj => by
    have ih := prodTo_mono h (k := k) (j := j) (by omega)
    have h1 := h (k + j) (by omega)
    rw [show k + (j + 1) = k + j + 1 by omega, prodTo]
    exact Nat.le_trans ih (Nat.le_mul_of_pos_right _ h1)
theorem many_big {c : Case} (h : ∀ i, i < c.clues.length → 1 ≤ (c.clues.getD i []).length) {k : Nat} (hk : k ≤ c.clues.length) (hb : 512 < prodTo c k) : 512 < manyC c := by
  have := prodTo_mono h (k := k) (j := c.clues.length - k) (by omega)
  rw [show k + (c.clues.length - k) = c.clues.length by omega] at this
  unfold manyC
  omega
def coursesErr (c : Case) : Int := if caseB c = false then 2 else if 512 < manyC c then 5 else 0
/-- a row of integers of one's own, wherever it lies -/
def okRow (x : It) (W : World) : Prop := W.ownsRow 0 3 1 x.2 x.1.length (ints x.1)
/-- what an inner function of courses reads -/
structure AtF (c : Case) (vc vl : Value) (vs : List Value) (n0 B gc gy gf l : Nat) (W : World) : Prop where
  cb : Blk W gc 25 #[.int .i64 c.events, vc, vl]
  rd : RdCase W B vc vl c vs
  y : Blk W gy 111 #[.func (.yield l) #[] #[]]
  f : Blk W gf 111 #[.func (.func 68) #[] #[.pointer (some ⟨gc, 0, none⟩), .pointer (some ⟨gy, 0, none⟩), .pointer (some ⟨gf, 0, none⟩)]]
  n0 : n0 ≤ W.heap.size
theorem AtF.keep {c : Case} {vc vl : Value} {vs : List Value} {n0 B gc gy gf l : Nat} {W W' : World} {S : List Nat} (h : AtF c vc vl vs n0 B gc gy gf l W) (hB : B ≤ n0) (h1 : memB S 25 = false) (h2 : memB S 111 = false) (hk : Kp n0 S W W') : AtF c vc vl vs n0 B gc gy gf l W' :=
  ⟨hk.blk _ _ _ h.cb h1, h.rd.below (hk.below.mono hB), hk.blk _ _ _ h.y h2, hk.blk _ _ _ h.f h2, Nat.le_trans h.n0 hk.size⟩
theorem AtF.below {c : Case} {vc vl : Value} {vs : List Value} {n0 B gc gy gf l : Nat} {W W' : World} (h : AtF c vc vl vs n0 B gc gy gf l W) (hB : B ≤ n0) (hb : Below W.heap.size W W') : AtF c vc vl vs n0 B gc gy gf l W' :=
  h.keep (S := []) hB rfl rfl (Kp.of_below hb h.n0)
theorem own_keep {w w' : World} {base e size n : Nat} {v : Value} {xs : List Value} {row : Option Nat} (h : w.ownsRow base e size v n xs) (hg : w.grownBy w' row) (hr : ∀ r, row = some r → ∃ o : Obj, w.heap[r]? = some o ∧ o.isCells = false) : w'.ownsRow base e size v n xs := by
  refine h.kept hg ?_
  obtain ⟨_, ⟨rfl, _⟩ | ⟨g, cap, cur, rfl, _, hk, _⟩⟩ := h
  · exact .inl rfl
  · refine .inr fun h' => ?_
    obtain ⟨o, h1, h2⟩ := hr g (by simpa [Value.ownBlock] using h'.symm)
    rw [hk] at h1
    injection h1 with h1
    subst h1
    cases h2
theorem blk_keep {w w' : World} {g T : Nat} {cs : Array Value} {row : Option Nat} (h : Blk w g T cs) (hg : w.grownBy w' row) (hr : ∀ r, row = some r → ∃ o : Obj, w.heap[r]? = some o ∧ o.isCells = false) : Blk w' g T cs := h.grown hg fun e => by
  obtain ⟨o, h1, h2⟩ := hr g e.symm
  unfold Blk at h
  rw [h] at h1
  injection h1 with h1
  subst h1
  cases h2
theorem okRow_from (B : Nat) : OwnFrom B okRow := fun x A C row h hg hr => own_keep h hg fun r e => (hr r e).2
theorem EXI.seqw {P : Program} {n : Nat} {ds : List Deferred} {Q : Exit → Act → World → Prop} {σ : Sg} {w : World} {y : Code} (h : ECI none 0 P n ds y Q σ w) : EXI n ds (Exit.then (y.wp P Q) Q) .normal σ w := fun a ha => wpIn_wide.1 (h a ha)
theorem EX.doneM {P : Program} {n : Nat} {σ : Sg} {w : World} {fn : Func} {R : Ending → World → Prop} {v : Value} (hr : ∀ a, Env n σ a → (results fn a.tmps).run P w = .ok v w) (h : R (.returned v) w) : EX n (bodyPostM Fence.wide 0 P fn R) .ret σ w := fun a ha => by
  show LeavesInM Fence.wide 0 P fn a.tmps R a.defers .returning w
  rw [ha.defers]
  exact ⟨v, hr a ha, h⟩
end Go.Proofs.Ytmaiiigijjfjfaa
set_option linter.unusedVariables false
set_option linter.unusedSimpArgs false
namespace Go.Proofs.Ytmaiiigijjfjfaa
open Go Go.RowKit
section
variable {n : Nat} {σ : Sg} {w : World} {dst : Option Tmp} {ty : TypeId} {pos : String} {af : Array Edge} {g : Option (Nat × Bool)} {x y z : Operand} {at' : Array TypeId}
theorem ld_111 {b o : Nat} {v0 : Value} (hx : evS σ x = some (.pointer (some ⟨b, o, none⟩))) (c0 : w.cell? ⟨b, o, none⟩ = some v0) : Gives Try.prog n σ w ⟨dst, .load 111 x, ty, pos, af, g⟩ (v0) := fun a ha => by
  simp only [execOp, ha.eval hx]
  simp [go_sem, c0]
theorem cl_69 {x0 : Operand} {v0 : Value} (h0 : evS σ x0 = some v0) (a : Act) (ha : Env n σ a) : (execOp a.eval ⟨dst, .call { callee := .value (.func 69), args := #[x0], argTypes := at' }, ty, pos, af, g⟩).run Try.prog w = .ok (.enter 69 #[v0]) w := by
  simp only [execOp, resolve, List.map_toArray, List.map_cons, List.map_nil, ha.eval h0]
  simp [go_sem, Act.eval]
theorem clv_68_0_1_3 {xf x0 : Operand} {v0 p0 p1 p2 : Value} (hf : evS σ xf = some (.func (.func 68) #[] #[p0, p1, p2])) (h0 : evS σ x0 = some v0) (a : Act) (ha : Env n σ a) : (execOp a.eval ⟨dst, .call { callee := .value xf, args := #[x0], argTypes := at' }, ty, pos, af, g⟩).run Try.prog w = .ok (.enter 68 #[v0, p0, p1, p2]) w := by
  simp only [execOp, resolve, List.map_toArray, List.map_cons, List.map_nil, ha.eval hf, ha.eval h0]
  simp [go_sem, Deferred.ofValue]
theorem mf_67_0_1 {x0 : Operand} {v0 : Value} (h0 : evS σ x0 = some v0) : Gives Try.prog n σ w ⟨dst, .makeFunc (.func 67) #[] #[x0], ty, pos, af, g⟩ (.func (.func 67) #[] #[v0]) := fun a ha => by
  simp only [execOp, List.map_toArray, List.map_cons, List.map_nil, ha.eval h0]
  simp [go_sem]
end
end Go.Proofs.Ytmaiiigijjfjfaa
set_option linter.unusedVariables false
set_option linter.unusedSimpArgs false
namespace Go.Proofs.Ytmaiiigijjfjfaa
open Go Go.RowKit
section
variable {n : Nat} {σ : Sg} {w : World} {dst : Option Tmp} {ty : TypeId} {pos : String} {af : Array Edge} {g : Option (Nat × Bool)} {x y z : Operand}
theorem sl3_int {W : World} {A : Option Addr} {m c base e size : Nat} {xs : List Value} (ho : W.ownsRow base e size (.slice A m c) m xs) (hx : evS σ x = some (.slice A m c)) (hy : evS σ y = some (.int .i64 (m : Int))) (hz : evS σ z = some (.int .i64 (m : Int))) : Gives Try.prog n σ w ⟨dst, .slice 26 x none (some y) (some z), ty, pos, af, g⟩ (.slice A m m) := fun a ha => by
  have k0 : (0 : Int) ≤ (m : Int) := Int.natCast_nonneg _
  simp only [execOp, Option.map_some, Option.map_none, ha.eval hx, ha.eval hy, ha.eval hz]
  obtain ⟨_, ⟨h, hm⟩ | ⟨b, cap, cur, h, _, _, hc, _⟩⟩ := ho
  · simp only [Value.slice.injEq] at h
    obtain ⟨rfl, rfl, rfl⟩ := h
    simp [go_sem]
  · simp only [Value.slice.injEq] at h
    obtain ⟨rfl, _, rfl⟩ := h
    have k3 : (m : Int) ≤ (c : Int) := by omega
    by_cases e : m = 0
    · subst e; simp [go_sem]
    · simp [go_sem, k0, k3, hc, e]
end
theorem clip_any {W : World} {A : Option Addr} {m c base e size : Nat} {xs : List Value} (w : World) (ho : W.ownsRow base e size (.slice A m c) m xs) :
    Calls Try.prog 69 #[.slice A m c] w fun e w' => e = .returned (.slice A m m) ∧ Below w.heap.size w w' := by
  refine EC.enter 9 Try.func69 rfl rfl rfl ?_
  refine EC.seq ?_
  refine EC.region ?_
  refine EL.val (x_assign rfl) rfl ?_
  refine EL.nil ?_
  refine EX.seq ?_
  refine EC.seq ?_
  refine EC.region ?_
  refine EL.val (x_move rfl) rfl ?_
  refine EL.val (x_move rfl) rfl ?_
  refine EL.val (ln_26 rfl) rfl ?_
  refine EL.val (x_move rfl) rfl ?_
  refine EL.val (ln_26 rfl) rfl ?_
  refine EL.val (sl3_int ho rfl rfl rfl) rfl ?_
  refine EL.val (x_assign rfl) rfl ?_
  refine EL.nil ?_
  refine EX.seq ?_
  refine EC.ret ?_
  exact EX.done (res1 rfl rfl) ⟨rfl, Below.refl _ _⟩
set_option maxHeartbeats 1000000 in
theorem tooMany_any (c : Case) (vc vl : Value) (vs : List Value) (w : World) (B : Nat) (hr : RdCase w B vc vl c vs) (hB : B ≤ w.heap.size) (hn1 : c.clocks.length ≤ 1073741824) (hn2 : c.clues.length ≤ 1073741824) (hc : caseB c = true) :
    Calls Try.prog 44 #[.agg #[.int .i64 c.events, vc, vl]] w fun e w' => e = .returned (.bool (decide (512 < manyC c))) ∧ Below w.heap.size w w' := by
  obtain ⟨_, h8, h20, _, hcl⟩ := caseB_ok hc
  obtain ⟨Ac, cc_, rfl, _⟩ := hr.clocks.shape
  obtain ⟨Al, cl_, rfl, _⟩ := hr.clues.rd.shape
  have hbw := Below.refl w.heap.size w
  refine EC.enter 21 Try.func44 rfl rfl rfl ?_
  refine EC.seq ?_
  refine EC.region ?_
  refine EL.newP (bx_25 rfl) rfl ?_
  intro g1 w1 q1 hb1 hg1 hl1
  have bhbw_1 := Nat.le_trans hbw.size hg1
  replace hbw := Below.on hbw hb1 hbw.size
  clear hb1 hg1 hl1
  refine EL.val (x_assign rfl) rfl ?_
  refine EL.nil ?_
  refine EX.seq ?_
  refine EC.seq ?_
  refine EC.region ?_
  refine EL.val (x_assign rfl) rfl ?_
  refine EL.nil ?_
  refine EX.seq ?_
  refine EC.seq ?_
  refine EC.seq ?_
  refine EC.region ?_
  refine EL.val (fa_25_2 rfl) rfl ?_
  refine EL.val (ld_23 rfl (q1.at (j := 2) rfl)) rfl ?_
  refine EL.val (ln_23 rfl) rfl ?_
  refine EL.val (x_move rfl) rfl ?_
  refine EL.nil ?_
  refine EX.seq ?_
  refine EC.block ?_
  refine EC.loopD [2, 3, 5, 9, 10, 11, 12, 13, 14, 15, 16, 17, 18, 19, 20] (fun x : Nat => [(3, .int .i64 ((prodTo c x) : Nat)), (9, .int .i64 (x : Nat))]) (fun x W => x ≤ c.clues.length ∧ prodTo c x ≤ 512 ∧ Below w.heap.size w W) (fun x => c.clues.length - x) 0 ⟨Nat.zero_le _, (show (1 : Nat) ≤ 512 by decide), hbw⟩ ⟨rfl, rfl, trivial⟩ ?_
  clear hbw
  rintro x wk ⟨hx, hp, hbw⟩
  by_cases hlt : x < c.clues.length
  ·
    obtain ⟨bl, ol, e_, _, hcell⟩ := rdll_cell hr.clues x hlt
    subst e_
    obtain ⟨Ao, co, eo, _⟩ := (hr.clues.row x hlt).shape
    rw [eo] at hcell
    have hl3 := (hcl x hlt).1
    have hsucc : prodTo c (x + 1) = prodTo c x * (c.clues.getD x []).length := rfl
    have hmul : prodTo c x * (c.clues.getD x []).length ≤ 512 * 3 := Nat.mul_le_mul hp hl3.2
    refine EC.seq ?_
    refine EC.region ?_
    refine EL.val (x_lss rfl rfl (decide_eq_true (show (((x : Nat) : Int) < (c.clues.length : Nat)) by omega))) rfl ?_
    refine EL.nil ?_
    refine EX.seq ?_
    refine EC.seq ?_
    refine EC.yes rfl ?_
    refine EC.skip ?_
    refine EX.seq ?_
    refine EC.seq ?_
    refine EC.block ?_
    refine EC.seq ?_
    refine EC.region ?_
    refine EL.val (ix_23 rfl rfl hlt) rfl ?_
    refine EL.val (ld_74 rfl (below_load hbw hcell)) rfl ?_
    refine EL.newP al_74 rfl ?_
    intro g2 w2 q2 hb2 hg2 hl2
    have bhbw_2 := Nat.le_trans hbw.size hg2
    replace hbw := Below.on hbw hb2 hbw.size
    clear hb2 hg2 hl2
    refine EL.store rfl rfl q2 sz_74 rfl rfl rfl rfl ?_
    intro w3 hq3 hg3
    replace hbw := below_store hbw hg3 bhbw_2
    replace q2 := hq3
    clear hg3 hq3
    refine EL.nil ?_
    refine EX.seq ?_
    refine EC.seq ?_
    refine EC.region ?_
    refine EL.val (x_move rfl) rfl ?_
    refine EL.val (fa_74_0 rfl) rfl ?_
    refine EL.val (ld_72 rfl (q2.at (j := 0) rfl)) rfl ?_
    refine EL.val (ln_72 rfl) rfl ?_
    refine EL.val (x_mul rfl rfl (c := ((prodTo c (x + 1) : Nat) : Int)) (by rw [hsucc, Int.natCast_mul]; exact IntWalk.i64_in _ ⟨by rw [← Int.natCast_mul]; omega, by rw [← Int.natCast_mul]; omega⟩)) rfl ?_
    refine EL.val (x_assign rfl) rfl ?_
    refine EL.nil ?_
    refine EX.seq ?_
    refine EC.seq ?_
    refine EC.region ?_
    refine EL.val (x_move rfl) rfl ?_
    by_cases hbig : 512 < prodTo c (x + 1)
    ·
      refine EL.val (x_gtr rfl rfl (decide_eq_true (show (512 : Int) < ((prodTo c (x + 1) : Nat) : Int) by omega))) rfl ?_
      refine EL.nil ?_
      refine EX.seq ?_
      refine EC.yes rfl ?_
      refine EC.seq ?_
      refine EC.region ?_
      refine EL.val (x_assign rfl) rfl ?_
      refine EL.nil ?_
      refine EX.seq ?_
      refine EC.ret ?_
      refine EX.blk_ret ?_
      refine EX.seq_ret ?_
      refine EX.seq_ret ?_
      refine EX.blk_ret ?_
      refine EX.seq_ret ?_
      exact EX.done (res1 rfl rfl) ⟨by rw [decide_eq_true (many_big (fun i hi => (hcl i hi).1.1) (by omega) hbig)], hbw⟩
    ·
      refine EL.val (x_gtr rfl rfl (decide_eq_false (show ¬(512 : Int) < ((prodTo c (x + 1) : Nat) : Int) by omega))) rfl ?_
      refine EL.nil ?_
      refine EX.seq ?_
      refine EC.no rfl ?_
      refine EC.skip ?_
      refine EX.blk ?_
      refine EX.seq ?_
      refine EC.region ?_
      refine EL.val (x_add rfl rfl (c := ((x + 1 : Nat) : Int)) ((IntWalk.i64_in _ ⟨by first | omega | (simp only; omega), by first | omega | (simp only; omega)⟩).trans (by first | omega | (simp only; omega)))) rfl ?_
      refine EL.val (x_move rfl) rfl ?_
      refine EL.nil ?_
      refine EX.roundD (x + 1) ⟨rfl, rfl, trivial⟩ (by repeat first | with_reducible exact Sub.refl _ | refine sub_past rfl ?_ | exact Sub.refl _ | refine sub_del rfl ?_ | refine sub_insL_nil ?_) ⟨hlt, by omega, hbw⟩ (by omega)
  ·
    obtain rfl : x = c.clues.length := by omega
    refine EC.seq ?_
    refine EC.region ?_
    refine EL.val (x_lss rfl rfl (decide_eq_false (show ¬(((c.clues.length : Nat) : Int) < (c.clues.length : Nat)) by omega))) rfl ?_
    refine EL.nil ?_
    refine EX.seq ?_
    refine EC.seq ?_
    refine EC.no rfl ?_
    refine EC.exit ?_
    refine EX.seq_exit ?_
    refine EX.seq_exit ?_
    refine EX.blk_here ?_
    refine EX.seq ?_
    refine EC.seq ?_
    refine EC.region ?_
    refine EL.val (x_assign rfl) rfl ?_
    refine EL.nil ?_
    refine EX.seq ?_
    refine EC.ret ?_
    exact EX.done (res1 rfl rfl) ⟨by rw [decide_eq_false (show ¬512 < manyC c by unfold manyC; omega)], hbw⟩
set_option maxHeartbeats 1000000 in
theorem further_last (c : Case) (vc vl : Value) (vs : List Value) (n0 B gc gy gf l : Nat) (S : List Nat) (J Jx : List It → World → Prop) (all : List (List Int)) (hc : caseB c = true) (hB : B ≤ n0) (hS1 : memB S 25 = false) (hS2 : memB S 111 = false) (hS3 : memB S 3 = false) (hJ : Stays J) (hJx : Stays Jx)
    (hY : ∀ pre x W1, okRow x W1 → J pre W1 → (pre ++ [x]).map (·.1) <+: all → YieldW Try.prog l #[x.2] W1 (RoundAns n0 S J Jx (pre ++ [x]) W1))
    (pre : List Int) (v : Value) (xs : List It) (W : World) (hd : pre.length + 0 = c.clues.length) (hcr : inCourse c pre) (hAt : AtF c vc vl vs n0 B gc gy gf l W) (ho : W.ownsRow 0 3 1 v pre.length (ints pre)) (hJ0 : J xs W) (hpx : xs.map (·.1) ++ crsP c 0 pre <+: all) : Calls Try.prog 68 #[v, .pointer (some ⟨gc, 0, none⟩), .pointer (some ⟨gy, 0, none⟩), .pointer (some ⟨gf, 0, none⟩)] W fun e W' => Kp n0 S W W' ∧ ((e = .returned (.bool true) ∧ ∃ ys : List It, ys.map (·.1) = crsP c 0 pre ∧ J (xs ++ ys) W') ∨ (e = .returned (.bool false) ∧ ∃ ys : List It, ys ≠ [] ∧ ys.map (·.1) <+: crsP c 0 pre ∧ Jx (xs ++ ys) W')) := by
  obtain ⟨Ac, cc_, rfl, _⟩ := hAt.rd.clocks.shape
  obtain ⟨Al, cl_, rfl, _⟩ := hAt.rd.clues.rd.shape
  obtain ⟨Ai, ci_, rfl, _⟩ := (Rd.of_own ho).shape
  obtain ⟨_, h8, h20, _, hcl⟩ := caseB_ok hc
  have hkp := Kp.refl n0 S W
  refine EC.enter 43 Try.func68 rfl rfl rfl ?_
  refine EC.seq ?_
  refine EC.region ?_
  refine EL.val (x_assign rfl) rfl ?_
  refine EL.nil ?_
  refine EX.seq ?_
  refine EC.seq ?_
  refine EC.block ?_
  refine EC.seq ?_
  refine EC.region ?_
  refine EL.val (ld_25 rfl (hAt.cb.at (j := 0) rfl) (hAt.cb.at (j := 1) rfl) (hAt.cb.at (j := 2) rfl)) rfl ?_
  refine EL.val (x_move rfl) rfl ?_
  refine EL.call (cl_39 rfl rfl) rfl (open_web c _ _ vs _ _ (hAt.rd.more (Nat.le_trans hB hAt.n0)) (Nat.le_refl _) (by omega) (by omega) pre _ (Rd.of_own ho) (by omega) hc hcr) ?_
  rintro e w1 ⟨⟨gw, rfl, hweb⟩, hc1⟩
  refine ⟨_, rfl, ?_⟩
  replace hkp := hkp.trans (Kp.of_below hc1 hAt.n0)
  replace hAt := hAt.below hB hc1
  replace ho := own_below ho hc1 (Nat.le_refl _)
  replace hJ0 := hJ _ _ _ hJ0 hc1
  clear hc1
  cases hfit : fitsS c pre
  ·
    refine EL.call (cl_54 rfl) rfl (fits_web _ hweb hc hcr hfit) ?_
    rintro e w2 ⟨rfl, hc2⟩
    refine ⟨_, rfl, ?_⟩
    replace hkp := hkp.trans (Kp.of_below hc2 hAt.n0)
    replace hAt := hAt.below hB hc2
    replace ho := own_below ho hc2 (Nat.le_refl _)
    replace hJ0 := hJ _ _ _ hJ0 hc2
    replace hweb := hweb.below hc2
    clear hc2
    clear hweb
    refine EL.val (x_not rfl) rfl ?_
    refine EL.val (x_assign rfl) rfl ?_
    refine EL.nil ?_
    refine EX.seq ?_
    refine EC.yes rfl ?_
    refine EC.seq ?_
    refine EC.region ?_
    refine EL.val (x_assign rfl) rfl ?_
    refine EL.nil ?_
    refine EX.seq ?_
    refine EC.ret ?_
    refine EX.blk_ret ?_
    refine EX.seq_ret ?_
    exact EX.done (res1 rfl rfl) ⟨hkp, .inl ⟨rfl, [], by rw [crsP_bad hfit]; rfl, by simpa using hJ0⟩⟩
  ·
    refine EL.call (cl_54 rfl) rfl (fits_web _ hweb hc hcr hfit) ?_
    rintro e w3 ⟨rfl, hc3⟩
    refine ⟨_, rfl, ?_⟩
    replace hkp := hkp.trans (Kp.of_below hc3 hAt.n0)
    replace hAt := hAt.below hB hc3
    replace ho := own_below ho hc3 (Nat.le_refl _)
    replace hJ0 := hJ _ _ _ hJ0 hc3
    replace hweb := hweb.below hc3
    clear hc3
    clear hweb
    refine EL.val (x_not rfl) rfl ?_
    refine EL.val (x_assign rfl) rfl ?_
    refine EL.nil ?_
    refine EX.seq ?_
    refine EC.no rfl ?_
    refine EC.seq ?_
    refine EC.region ?_
    refine EL.val (x_move rfl) rfl ?_
    refine EL.val (ln_26 rfl) rfl ?_
    refine EL.val (fa_25_2 rfl) rfl ?_
    refine EL.val (ld_23 rfl (hAt.cb.at (j := 2) rfl)) rfl ?_
    refine EL.val (ln_23 rfl) rfl ?_
    refine EL.val (x_eql rfl rfl (decide_eq_true (show ((pre.length : Nat) : Int) = ((c.clues.length : Nat) : Int) by omega))) rfl ?_
    refine EL.val (x_assign rfl) rfl ?_
    refine EL.nil ?_
    refine EX.seq ?_
    refine EC.yes rfl ?_
    refine EC.seq ?_
    refine EC.inn (k := 0) ?_
    refine ECI.region ?_
    refine ELI.val (ld_111 rfl (hAt.y.at (j := 0) rfl)) rfl ?_
    refine ELI.val (x_move rfl) rfl ?_
    obtain ⟨fn_, tmps_, assign_, body_, hi_, hR_⟩ := hY xs (pre, _) _ ho hJ0 (by rw [crsP_last hfit] at hpx; rw [List.map_append]; exact hpx)
    refine ELI.yield rfl rfl rfl hi_ hR_ ?_
    rintro e wy ⟨hky, ⟨rfl, hJy⟩ | ⟨rfl, hJy⟩⟩
    ·
      refine ⟨_, rfl, ?_⟩
      refine ELI.val (x_assign rfl) rfl ?_
      refine ELI.nil ?_
      refine EXI.of ?_
      replace hkp := hkp.trans hky
      refine EX.seq ?_
      refine EC.ret ?_
      refine EX.blk_ret ?_
      refine EX.seq_ret ?_
      exact EX.done (res1 rfl rfl) ⟨hkp, .inl ⟨rfl, [(pre, _)], by rw [crsP_last hfit]; rfl, hJy⟩⟩
    ·
      refine ⟨_, rfl, ?_⟩
      refine ELI.val (x_assign rfl) rfl ?_
      refine ELI.nil ?_
      refine EXI.of ?_
      replace hkp := hkp.trans hky
      refine EX.seq ?_
      refine EC.ret ?_
      refine EX.blk_ret ?_
      refine EX.seq_ret ?_
      exact EX.done (res1 rfl rfl) ⟨hkp, .inr ⟨rfl, [(pre, _)], by simp, by rw [crsP_last hfit]; exact List.prefix_rfl, hJy⟩⟩
set_option maxHeartbeats 2000000 in
set_option maxRecDepth 100000 in
theorem further_more (c : Case) (vc vl : Value) (vs : List Value) (n0 B gc gy gf l : Nat) (S : List Nat) (J Jx : List It → World → Prop) (all : List (List Int)) (hc : caseB c = true) (hB : B ≤ n0) (hS1 : memB S 25 = false) (hS2 : memB S 111 = false) (hS3 : memB S 3 = false) (hJ : Stays J) (hJx : Stays Jx)
    (hY : ∀ pre x W1, okRow x W1 → J pre W1 → (pre ++ [x]).map (·.1) <+: all → YieldW Try.prog l #[x.2] W1 (RoundAns n0 S J Jx (pre ++ [x]) W1))
    (d : Nat) (hI : ∀ (pre : List Int) (v : Value) (xs : List It) (W : World), pre.length + d = c.clues.length → inCourse c pre → AtF c vc vl vs n0 B gc gy gf l W → W.ownsRow 0 3 1 v pre.length (ints pre) → J xs W → xs.map (·.1) ++ crsP c d pre <+: all → Calls Try.prog 68 #[v, .pointer (some ⟨gc, 0, none⟩), .pointer (some ⟨gy, 0, none⟩), .pointer (some ⟨gf, 0, none⟩)] W fun e W' => Kp n0 S W W' ∧ ((e = .returned (.bool true) ∧ ∃ ys : List It, ys.map (·.1) = crsP c d pre ∧ J (xs ++ ys) W') ∨ (e = .returned (.bool false) ∧ ∃ ys : List It, ys ≠ [] ∧ ys.map (·.1) <+: crsP c d pre ∧ Jx (xs ++ ys) W')))
    (pre : List Int) (v : Value) (xs : List It) (W : World) (hd : pre.length + (d + 1) = c.clues.length) (hcr : inCourse c pre) (hAt : AtF c vc vl vs n0 B gc gy gf l W) (ho : W.ownsRow 0 3 1 v pre.length (ints pre)) (hJ0 : J xs W) (hpx : xs.map (·.1) ++ crsP c (d + 1) pre <+: all) : Calls Try.prog 68 #[v, .pointer (some ⟨gc, 0, none⟩), .pointer (some ⟨gy, 0, none⟩), .pointer (some ⟨gf, 0, none⟩)] W fun e W' => Kp n0 S W W' ∧ ((e = .returned (.bool true) ∧ ∃ ys : List It, ys.map (·.1) = crsP c (d + 1) pre ∧ J (xs ++ ys) W') ∨ (e = .returned (.bool false) ∧ ∃ ys : List It, ys ≠ [] ∧ ys.map (·.1) <+: crsP c (d + 1) pre ∧ Jx (xs ++ ys) W')) := by
  obtain ⟨Ac, cc_, rfl, _⟩ := hAt.rd.clocks.shape
  obtain ⟨Al, cl_, rfl, _⟩ := hAt.rd.clues.rd.shape
  obtain ⟨Ai, ci_, rfl, _⟩ := (Rd.of_own ho).shape
  obtain ⟨_, h8, h20, _, hcl⟩ := caseB_ok hc
  have hkp := Kp.refl n0 S W
  have hpl : pre.length < c.clues.length := by omega
  obtain ⟨bl, ol, e_, hbl, hcell⟩ := rdll_cell hAt.rd.clues pre.length hpl
  subst e_
  obtain ⟨Ao, co, eo, _⟩ := (hAt.rd.clues.row pre.length hpl).shape
  rw [eo] at hcell
  have ho3 := (hcl pre.length hpl).1
  have hoN : optN c pre = (c.clues.getD pre.length []).length := rfl
  rw [← hoN] at hcell ho3
  refine EC.enter 43 Try.func68 rfl rfl rfl ?_
  refine EC.seq ?_
  refine EC.region ?_
  refine EL.val (x_assign rfl) rfl ?_
  refine EL.nil ?_
  refine EX.seq ?_
  refine EC.seq ?_
  refine EC.block ?_
  refine EC.seq ?_
  refine EC.region ?_
  refine EL.val (ld_25 rfl (hAt.cb.at (j := 0) rfl) (hAt.cb.at (j := 1) rfl) (hAt.cb.at (j := 2) rfl)) rfl ?_
  refine EL.val (x_move rfl) rfl ?_
  refine EL.call (cl_39 rfl rfl) rfl (open_web c _ _ vs _ _ (hAt.rd.more (Nat.le_trans hB hAt.n0)) (Nat.le_refl _) (by omega) (by omega) pre _ (Rd.of_own ho) (by omega) hc hcr) ?_
  rintro e w1 ⟨⟨gw, rfl, hweb⟩, hc1⟩
  refine ⟨_, rfl, ?_⟩
  replace hkp := hkp.trans (Kp.of_below hc1 hAt.n0)
  replace hAt := hAt.below hB hc1
  replace ho := own_below ho hc1 (Nat.le_refl _)
  replace hJ0 := hJ _ _ _ hJ0 hc1
  clear hc1
  cases hfit : fitsS c pre
  ·
    refine EL.call (cl_54 rfl) rfl (fits_web _ hweb hc hcr hfit) ?_
    rintro e w2 ⟨rfl, hc2⟩
    refine ⟨_, rfl, ?_⟩
    replace hkp := hkp.trans (Kp.of_below hc2 hAt.n0)
    replace hAt := hAt.below hB hc2
    replace ho := own_below ho hc2 (Nat.le_refl _)
    replace hJ0 := hJ _ _ _ hJ0 hc2
    replace hweb := hweb.below hc2
    clear hc2
    clear hweb
    refine EL.val (x_not rfl) rfl ?_
    refine EL.val (x_assign rfl) rfl ?_
    refine EL.nil ?_
    refine EX.seq ?_
    refine EC.yes rfl ?_
    refine EC.seq ?_
    refine EC.region ?_
    refine EL.val (x_assign rfl) rfl ?_
    refine EL.nil ?_
    refine EX.seq ?_
    refine EC.ret ?_
    refine EX.blk_ret ?_
    refine EX.seq_ret ?_
    exact EX.done (res1 rfl rfl) ⟨hkp, .inl ⟨rfl, [], by rw [crsP_bad hfit]; rfl, by simpa using hJ0⟩⟩
  ·
    refine EL.call (cl_54 rfl) rfl (fits_web _ hweb hc hcr hfit) ?_
    rintro e w3 ⟨rfl, hc3⟩
    refine ⟨_, rfl, ?_⟩
    replace hkp := hkp.trans (Kp.of_below hc3 hAt.n0)
    replace hAt := hAt.below hB hc3
    replace ho := own_below ho hc3 (Nat.le_refl _)
    replace hJ0 := hJ _ _ _ hJ0 hc3
    replace hweb := hweb.below hc3
    clear hc3
    clear hweb
    refine EL.val (x_not rfl) rfl ?_
    refine EL.val (x_assign rfl) rfl ?_
    refine EL.nil ?_
    refine EX.seq ?_
    refine EC.no rfl ?_
    refine EC.seq ?_
    refine EC.region ?_
    refine EL.val (x_move rfl) rfl ?_
    refine EL.val (ln_26 rfl) rfl ?_
    refine EL.val (fa_25_2 rfl) rfl ?_
    refine EL.val (ld_23 rfl (hAt.cb.at (j := 2) rfl)) rfl ?_
    refine EL.val (ln_23 rfl) rfl ?_
    refine EL.val (x_eql rfl rfl (decide_eq_false (show ¬((pre.length : Nat) : Int) = ((c.clues.length : Nat) : Int) by omega))) rfl ?_
    refine EL.val (x_assign rfl) rfl ?_
    refine EL.nil ?_
    refine EX.seq ?_
    refine EC.no rfl ?_
    refine EC.skip ?_
    refine EX.blk ?_
    refine EX.seq ?_
    refine EC.seq ?_
    refine EC.seq ?_
    refine EC.region ?_
    refine EL.val (fa_25_2 rfl) rfl ?_
    refine EL.val (ld_23 rfl (hAt.cb.at (j := 2) rfl)) rfl ?_
    refine EL.val (x_move rfl) rfl ?_
    refine EL.val (ln_26 rfl) rfl ?_
    refine EL.val (ix_23 rfl rfl hpl) rfl ?_
    refine EL.val (fa_74_0 rfl) rfl ?_
    refine EL.val (ld_72 rfl ((hkp.below.cell (Nat.lt_of_lt_of_le hbl hB)).trans hcell)) rfl ?_
    refine EL.val (ln_72 rfl) rfl ?_
    refine EL.val (x_move rfl) rfl ?_
    refine EL.nil ?_
    refine EX.seq ?_
    refine EC.block ?_
    refine EC.loopD [5, 6, 31, 32, 33, 34, 35, 36, 37, 38, 39, 40, 41, 42] (fun x : Nat × List It => [(31, .int .i64 (x.1 : Nat))]) (fun x W1 => x.1 ≤ optN c pre ∧ x.2.map (·.1) = (List.range x.1).flatMap (fun k => crsP c d (pre ++ [((k : Nat) : Int)])) ∧ AtF c (.slice Ac c.clocks.length cc_) (.slice (some ⟨bl, ol, none⟩) c.clues.length cl_) vs n0 B gc gy gf l W1 ∧ W1.ownsRow 0 3 1 (.slice Ai pre.length ci_) pre.length (ints pre) ∧ Kp n0 S W W1 ∧ J (xs ++ x.2) W1) (fun x => optN c pre - x.1) (0, []) ⟨Nat.zero_le _, rfl, hAt, ho, hkp, by simpa using hJ0⟩ ⟨rfl, trivial⟩ ?_
    clear hAt ho hkp hJ0
    rintro ⟨x, ys⟩ wk ⟨hx, hys, hAt, ho, hkp, hJ0⟩
    dsimp only at hx hys hJ0
    by_cases hlt : x < optN c pre
    ·
      have hcr2 := inCourse_more hcr hpl hlt
      obtain ⟨p2, ep2⟩ : ∃ z, z = pre ++ [((x : Nat) : Int)] := ⟨_, rfl⟩
      rw [← ep2] at hcr2
      have hl2 : p2.length = pre.length + 1 := by rw [ep2]; simp
      have hin : ints p2 = ints pre ++ [.int .i64 ((x : Nat) : Int)] := by rw [ep2, ints_app]; rfl
      refine EC.seq ?_
      refine EC.region ?_
      refine EL.val (x_lss rfl rfl (decide_eq_true (show (((x : Nat) : Int) < (optN c pre : Nat)) by omega))) rfl ?_
      refine EL.nil ?_
      refine EX.seq ?_
      refine EC.seq ?_
      refine EC.yes rfl ?_
      refine EC.skip ?_
      refine EX.seq ?_
      refine EC.seq ?_
      refine EC.block ?_
      refine EC.seq ?_
      refine EC.region ?_
      refine EL.val (x_move rfl) rfl ?_
      refine EL.val (x_assign rfl) rfl ?_
      refine EL.nil ?_
      refine EX.seq ?_
      refine EC.seq ?_
      refine EC.regionP [[], [], [1], [], [3], [1, 2, 3, 4], [0, 1, 2, 3, 4, 5], [0, 1, 2, 3, 4, 5, 6]] 6 [] (phi (fun i_ r => match i_ with | 0 => r 0 = .func (.func 68) #[] #[.pointer (some ⟨gc, 0, none⟩), .pointer (some ⟨gy, 0, none⟩), .pointer (some ⟨gf, 0, none⟩)] | 1 => r 1 = .slice Ai pre.length ci_ | 2 => r 2 = .slice Ai pre.length pre.length | 3 => r 3 = .int .i64 (x : Nat) | _ => True) [(4, fun r w_ => ∃ g_, r 4 = .slice (some ⟨g_, 0, none⟩) 1 1 ∧ Blk w_ g_ 3 #[.int .i64 (x : Nat)] ∧ wk.heap.size ≤ g_), (5, fun r w_ => ∃ v, r 5 = v ∧ w_.ownsRow 0 3 1 v p2.length (ints p2))]) (by kernel_rfl) rfl rfl (phi_cons mono_bs (phi_cons mono_row (phi_nil))) (fun i_ hi_ => ?_) ?_
      · match i_, hi_ with
        | 0, _ =>
          intro val w1 a hb ha hd
          have ha := ha.sub (Sub.ins (d := 3) (Sub.nil _) rfl)
          exact hs_val ha rfl rfl (ld_111 rfl ((hAt.below hB hb).f.at (j := 0) rfl)) rfl rfl
        | 1, _ =>
          intro val w1 a hb ha hd
          have ha := ha.sub (Sub.ins (d := 0) (Sub.nil _) rfl)
          exact hs_val ha rfl rfl (x_move rfl) rfl rfl
        | 2, _ =>
          intro val w1 a hb ha hd
          have e1 : val 1 = .slice Ai pre.length ci_ := hd 1 (memB_mem.1 rfl)
          have ha := ha.sub (Sub.ins (d := 35) (Sub.nil _) (dep_get rfl e1))
          refine hs_call ha rfl rfl (cl_69 rfl) (clip_any _ ho) rfl ?_
          rintro e w' ⟨rfl, hb'⟩
          exact ⟨_, rfl, hb', rfl⟩
        | 3, _ =>
          intro val w1 a hb ha hd
          have ha := ha.sub (Sub.ins (d := 6) (Sub.nil _) rfl)
          exact hs_val ha rfl rfl (x_move rfl) rfl rfl
        | 4, _ =>
          intro val w1 a hb ha hd
          have e3 : val 3 = .int .i64 (x : Nat) := hd 3 (memB_mem.1 rfl)
          have ha := ha.sub (Sub.ins (d := 37) (Sub.nil _) (dep_get rfl e3))
          exact hs_newS ha rfl rfl (bs_26_1 rfl) rfl (fun g w' hq _ hge => ⟨g, rfl, hq, Nat.le_trans hb.size hge⟩)
        | 5, _ =>
          intro val w1 a hb ha hd
          have e2 : val 2 = .slice Ai pre.length pre.length := hd 2 (memB_mem.1 rfl)
          obtain ⟨g4_, e4, q4_, h4_⟩ := hd 4 (memB_mem.1 rfl)
          change val 4 = _ at e4
          have ha := ha.sub (Sub.ins (d := 38) (Sub.ins (d := 36) (Sub.nil _) (dep_get rfl e2)) (dep_get rfl e4))
          refine hs_grow (base := 0) i64_elem ha rfl rfl rfl (rd_clip (Rd.of_own (own_below ho hb (Nat.le_refl _)))) (rd_one (l := [.int .i64 (x : Nat)]) q4_ rfl) (by omega) (by omega) rfl (Nat.zero_le _) rfl ?_
          intro v' w' ho' _
          exact ⟨v', rfl, by rw [hl2, hin]; exact ho'⟩
        | k + 6, h => exact absurd h (by omega)
      · intro val wR8 hb halc hd
        have e0 : val 0 = .func (.func 68) #[] #[.pointer (some ⟨gc, 0, none⟩), .pointer (some ⟨gy, 0, none⟩), .pointer (some ⟨gf, 0, none⟩)] := hd 0 (by omega)
        have e1 : val 1 = .slice Ai pre.length ci_ := hd 1 (by omega)
        have e2 : val 2 = .slice Ai pre.length pre.length := hd 2 (by omega)
        have e3 : val 3 = .int .i64 (x : Nat) := hd 3 (by omega)
        obtain ⟨ga4_8, e4, qa4_8, hga4_8⟩ := hd 4 (by omega)
        change val 4 = _ at e4
        change Blk wR8 ga4_8 3 #[.int .i64 (x : Nat)] at qa4_8
        obtain ⟨v5_, e5, ho5_⟩ := hd 5 (by omega)
        refine EL.ends (cs := [.func (.func 68) #[] #[.pointer (some ⟨gc, 0, none⟩), .pointer (some ⟨gy, 0, none⟩), .pointer (some ⟨gf, 0, none⟩)], .slice Ai pre.length ci_, .slice Ai pre.length pre.length, .int .i64 (x : Nat), .slice (some ⟨ga4_8, 0, none⟩) 1 1, v5_]) ⟨e0, e1, e2, e3, e4, e5, trivial⟩ rfl ?_
        replace hkp := hkp.trans (Kp.of_below hb hAt.n0)
        replace hAt := hAt.below hB hb
        replace ho := own_below ho hb (Nat.le_refl _)
        replace hJ0 := hJ _ _ _ hJ0 hb
        clear hb
        refine EL.call (clv_68_0_1_3 rfl rfl) rfl (hI p2 _ (xs ++ ys) _ (by omega) hcr2 hAt ho5_ hJ0 (by rw [List.map_append, hys, ep2, List.append_assoc]; rw [crsP_more hfit] at hpx; exact ((List.prefix_append_right_inj _).2 (flat_part hlt List.prefix_rfl)).trans hpx)) ?_
        rintro e wy ⟨hky, ⟨rfl, zs, hz, hJy⟩ | ⟨rfl, zs, hne, hz, hJy⟩⟩
        ·
          refine ⟨_, rfl, ?_⟩
          replace hAt := hAt.keep hB hS1 hS2 hky
          replace ho := hky.row ho hS3
          replace hkp := hkp.trans hky
          have hJ0 := hJy
          clear hky
          refine EL.val (x_not rfl) rfl ?_
          refine EL.nil ?_
          refine EX.seq ?_
          refine EC.no rfl ?_
          refine EC.skip ?_
          refine EX.blk ?_
          refine EX.seq ?_
          refine EC.region ?_
          refine EL.val (x_add rfl rfl (c := ((x + 1 : Nat) : Int)) ((IntWalk.i64_in _ ⟨by first | omega | (simp only; omega), by first | omega | (simp only; omega)⟩).trans (by first | omega | (simp only; omega)))) rfl ?_
          refine EL.val (x_move rfl) rfl ?_
          refine EL.nil ?_
          refine EX.roundD (x + 1, ys ++ zs) ⟨rfl, trivial⟩ (by repeat first | with_reducible exact Sub.refl _ | refine sub_past rfl ?_ | exact Sub.refl _ | refine sub_del rfl ?_ | refine sub_insL_nil ?_) ⟨hlt, by simp only; rw [List.map_append, hys, hz, range_flat, ep2], hAt, ho, hkp, by rw [← List.append_assoc]; exact hJ0⟩ (by simp only; omega)
        ·
          refine ⟨_, rfl, ?_⟩
          replace hAt := hAt.keep hB hS1 hS2 hky
          replace ho := hky.row ho hS3
          replace hkp := hkp.trans hky
          have hJ0 := hJy
          clear hky
          refine EL.val (x_not rfl) rfl ?_
          refine EL.nil ?_
          refine EX.seq ?_
          refine EC.yes rfl ?_
          refine EC.seq ?_
          refine EC.region ?_
          refine EL.val (x_assign rfl) rfl ?_
          refine EL.nil ?_
          refine EX.seq ?_
          refine EC.ret ?_
          refine EX.blk_ret ?_
          refine EX.seq_ret ?_
          refine EX.seq_ret ?_
          refine EX.blk_ret ?_
          refine EX.seq_ret ?_
          exact EX.done (res1 rfl rfl) ⟨hkp, .inr ⟨rfl, ys ++ zs, by simp [hne], by rw [List.map_append, hys, crsP_more hfit]; exact flat_part hlt (ep2 ▸ hz), by rw [← List.append_assoc]; exact hJ0⟩⟩
    ·
      obtain rfl : x = optN c pre := by omega
      refine EC.seq ?_
      refine EC.region ?_
      refine EL.val (x_lss rfl rfl (decide_eq_false (show ¬(((optN c pre : Nat) : Int) < (optN c pre : Nat)) by omega))) rfl ?_
      refine EL.nil ?_
      refine EX.seq ?_
      refine EC.seq ?_
      refine EC.no rfl ?_
      refine EC.exit ?_
      refine EX.seq_exit ?_
      refine EX.seq_exit ?_
      refine EX.blk_here ?_
      refine EX.seq ?_
      refine EC.seq ?_
      refine EC.region ?_
      refine EL.val (x_assign rfl) rfl ?_
      refine EL.nil ?_
      refine EX.seq ?_
      refine EC.ret ?_
      exact EX.done (res1 rfl rfl) ⟨hkp, .inl ⟨rfl, ys, by rw [hys, crsP_more hfit], hJ0⟩⟩
theorem further_any (c : Case) (vc vl : Value) (vs : List Value) (n0 B gc gy gf l : Nat) (S : List Nat) (J Jx : List It → World → Prop) (all : List (List Int)) (hc : caseB c = true) (hB : B ≤ n0) (hS1 : memB S 25 = false) (hS2 : memB S 111 = false) (hS3 : memB S 3 = false) (hJ : Stays J) (hJx : Stays Jx)
    (hY : ∀ pre x W1, okRow x W1 → J pre W1 → (pre ++ [x]).map (·.1) <+: all → YieldW Try.prog l #[x.2] W1 (RoundAns n0 S J Jx (pre ++ [x]) W1)) : ∀ (d : Nat) (pre : List Int) (v : Value) (xs : List It) (W : World) (hd : pre.length + d = c.clues.length) (hcr : inCourse c pre) (hAt : AtF c vc vl vs n0 B gc gy gf l W) (ho : W.ownsRow 0 3 1 v pre.length (ints pre)) (hJ0 : J xs W) (hpx : xs.map (·.1) ++ crsP c d pre <+: all), Calls Try.prog 68 #[v, .pointer (some ⟨gc, 0, none⟩), .pointer (some ⟨gy, 0, none⟩), .pointer (some ⟨gf, 0, none⟩)] W fun e W' => Kp n0 S W W' ∧ ((e = .returned (.bool true) ∧ ∃ ys : List It, ys.map (·.1) = crsP c d pre ∧ J (xs ++ ys) W') ∨ (e = .returned (.bool false) ∧ ∃ ys : List It, ys ≠ [] ∧ ys.map (·.1) <+: crsP c d pre ∧ Jx (xs ++ ys) W'))
  | 0 => further_last c vc vl vs n0 B gc gy gf l S J Jx all hc hB hS1 hS2 hS3 hJ hJx hY
  | d + 1 => further_more c vc vl vs n0 B gc gy gf l S J Jx all hc hB hS1 hS2 hS3 hJ hJx hY d (further_any c vc vl vs n0 B gc gy gf l S J Jx all hc hB hS1 hS2 hS3 hJ hJx hY d)
theorem courses_fn {vc vl : Value} {ev : Int} (w : World) (hv1 : ∃ A n c, vc = .slice A n c) (hv2 : ∃ A n c, vl = .slice A n c) :
    Calls Try.prog 45 #[.agg #[.int .i64 ev, vc, vl]] w fun e w' => (∃ g, e = .returned (.func (.func 67) #[] #[.pointer (some ⟨g, 0, none⟩)]) ∧ Blk w' g 25 #[.int .i64 ev, vc, vl] ∧ w.heap.size ≤ g) ∧ Below w.heap.size w w' := by
  obtain ⟨A1, n1, c1, rfl⟩ := hv1
  obtain ⟨A2, n2, c2, rfl⟩ := hv2
  have hbw := Below.refl w.heap.size w
  refine EC.enter 4 Try.func45 rfl rfl rfl ?_
  refine EC.seq ?_
  refine EC.region ?_
  refine EL.newP (bx_25 rfl) rfl ?_
  intro g1 w1 q1 hb1 hg1 hl1
  have bhbw_1 := Nat.le_trans hbw.size hg1
  replace hbw := Below.on hbw hb1 hbw.size
  have hge := hg1
  clear hb1 hg1 hl1
  refine EL.val (x_assign rfl) rfl ?_
  refine EL.nil ?_
  refine EX.seq ?_
  refine EC.seq ?_
  refine EC.region ?_
  refine EL.val (mf_67_0_1 rfl) rfl ?_
  refine EL.val (x_assign rfl) rfl ?_
  refine EL.nil ?_
  refine EX.seq ?_
  refine EC.ret ?_
  exact EX.done (res1 rfl rfl) ⟨⟨g1, rfl, q1, hge⟩, hbw⟩
end Go.Proofs.Ytmaiiigijjfjfaa
set_option linter.unusedVariables false
set_option linter.unusedSimpArgs false
namespace Go.Proofs.Ytmaiiigijjfjfaa
open Go Go.RowKit
section
variable {n : Nat} {σ : Sg} {w : World} {dst : Option Tmp} {ty : TypeId} {pos : String} {af : Array Edge} {g : Option (Nat × Bool)} {x y z : Operand} {at' : Array TypeId}
theorem bx_111 {v0 : Value} (hx : evS σ x = some (v0)) (h1 : v0.oneCell' = true) (a : Act) (ha : Env n σ a) : (execOp a.eval ⟨dst, .box 111 x, ty, pos, af, g⟩).run Try.prog w = .ok (.value (.pointer (some ⟨w.heap.size, 0, none⟩))) (w.alloc (.cells #[v0] 111)) := by
  simp only [execOp, ha.eval hx]
  cases v0 <;> first | (simp [Value.oneCell'] at h1; done) | simp [go_sem, Value.cells]
theorem al_111 (a : Act) (_ : Env n σ a) : (execOp a.eval ⟨dst, .alloc 111, ty, pos, af, g⟩).run Try.prog w = .ok (.value (.pointer (some ⟨w.heap.size, 0, none⟩))) (w.alloc (.cells #[.nilFunc] 111)) := by
  simp only [execOp]
  simp [go_sem]
theorem mf_68_0_3 {x0 x1 x2 : Operand} {v0 v1 v2 : Value} (h0 : evS σ x0 = some v0) (h1 : evS σ x1 = some v1) (h2 : evS σ x2 = some v2) : Gives Try.prog n σ w ⟨dst, .makeFunc (.func 68) #[] #[x0, x1, x2], ty, pos, af, g⟩ (.func (.func 68) #[] #[v0, v1, v2]) := fun a ha => by
  simp only [execOp, List.map_toArray, List.map_cons, List.map_nil, ha.eval h0, ha.eval h1, ha.eval h2]
  simp [go_sem]
theorem sz_111 : (Try.prog.info? 111).map (·.size) = some 1 := by kernel_rfl
theorem al_41 (a : Act) (_ : Env n σ a) : (execOp a.eval ⟨dst, .alloc 41, ty, pos, af, g⟩).run Try.prog w = .ok (.value (.pointer (some ⟨w.heap.size, 0, none⟩))) (w.alloc (.cells #[.slice none 0 0] 41)) := by
  simp only [execOp]
  simp [go_sem]
theorem cl_44 {x0 : Operand} {v0 : Value} (h0 : evS σ x0 = some v0) (a : Act) (ha : Env n σ a) : (execOp a.eval ⟨dst, .call { callee := .value (.func 44), args := #[x0], argTypes := at' }, ty, pos, af, g⟩).run Try.prog w = .ok (.enter 44 #[v0]) w := by
  simp only [execOp, resolve, List.map_toArray, List.map_cons, List.map_nil, ha.eval h0]
  simp [go_sem, Act.eval]
theorem sz_41 : (Try.prog.info? 41).map (·.size) = some 1 := by kernel_rfl
theorem lv_41 {b o : Nat} {v0 : Value} (c0 : w.cell? ⟨b, o, none⟩ = some v0) : (loadVar 41 ⟨b, o, none⟩).run Try.prog w = .ok (v0) w := by
  simp [go_sem, loadVar, c0]
theorem cl_45 {x0 : Operand} {v0 : Value} (h0 : evS σ x0 = some v0) (a : Act) (ha : Env n σ a) : (execOp a.eval ⟨dst, .call { callee := .value (.func 45), args := #[x0], argTypes := at' }, ty, pos, af, g⟩).run Try.prog w = .ok (.enter 45 #[v0]) w := by
  simp only [execOp, resolve, List.map_toArray, List.map_cons, List.map_nil, ha.eval h0]
  simp [go_sem, Act.eval]
theorem ld_41 {b o : Nat} {v0 : Value} (hx : evS σ x = some (.pointer (some ⟨b, o, none⟩))) (c0 : w.cell? ⟨b, o, none⟩ = some v0) : Gives Try.prog n σ w ⟨dst, .load 41 x, ty, pos, af, g⟩ (v0) := fun a ha => by
  simp only [execOp, ha.eval hx]
  simp [go_sem, c0]
end
end Go.Proofs.Ytmaiiigijjfjfaa
set_option linter.unusedVariables false
set_option linter.unusedSimpArgs false
namespace Go.Proofs.Ytmaiiigijjfjfaa
open Go Go.RowKit
set_option maxHeartbeats 1000000 in
theorem courses_iter (c : Case) (vc vl : Value) (vs : List Value) (n0 B gc : Nat) (S : List Nat) (w : World) (hc : caseB c = true) (hB : B ≤ n0) (hS1 : memB S 25 = false) (hS2 : memB S 111 = false) (hS3 : memB S 3 = false) (hn : n0 ≤ w.heap.size)
    (hq : Blk w gc 25 #[.int .i64 c.events, vc, vl]) (hr : RdCase w B vc vl c vs) : IterAt Try.prog 67 #[.pointer (some ⟨gc, 0, none⟩)] okRow n0 S (coursesL c) w := by
  intro l J Jx W hkW hJ hJx hY hJ0
  change Calls Try.prog 67 #[.func (.yield l) #[] #[], .pointer (some ⟨gc, 0, none⟩)] W _
  have hbw := Below.refl W.heap.size W
  have hcb := hkW.blk _ _ _ hq hS1
  have hrW := hr.below (hkW.below.mono hB)
  have hnW := Nat.le_trans hn hkW.size
  refine EC.enter 7 Try.func67 rfl rfl rfl ?_
  refine EC.seq ?_
  refine EC.region ?_
  refine EL.newP (bx_111 rfl rfl) rfl ?_
  intro g1 w1 q1 hb1 hg1 hl1
  have bhbw_1 := Nat.le_trans hbw.size hg1
  replace hbw := Below.on hbw hb1 hbw.size
  clear hb1 hg1 hl1
  refine EL.nil ?_
  refine EX.seq ?_
  refine EC.seq ?_
  refine EC.region ?_
  refine EL.newP al_111 rfl ?_
  intro g2 w2 q2 hb2 hg2 hl2
  have n1_2 : g1 ≠ g2 := Nat.ne_of_lt (Nat.lt_of_lt_of_le q1.lt hg2)
  have bhbw_2 := Nat.le_trans hbw.size hg2
  replace q1 := q1.below hb2 q1.lt
  replace hbw := Below.on hbw hb2 hbw.size
  clear hb2 hg2 hl2
  refine EL.nil ?_
  refine EX.seq ?_
  refine EC.seq ?_
  refine EC.region ?_
  refine EL.val (mf_68_0_3 rfl rfl rfl) rfl ?_
  refine EL.store rfl rfl q2 sz_111 rfl rfl rfl rfl ?_
  intro w3 hq3 hg3
  replace q1 := q1.grown hg3 (fun h => n1_2 (Option.some.inj h))
  replace hbw := below_store hbw hg3 bhbw_2
  replace q2 := hq3
  clear hg3 hq3
  refine EL.nil ?_
  refine EX.seq ?_
  refine EC.region ?_
  refine EL.val (ld_111 rfl (q2.at (j := 0) rfl)) rfl ?_
  have hAt : AtF c vc vl vs n0 B gc g1 g2 l w3 := ⟨hcb.below hbw hcb.lt, hrW.below (hbw.mono (Nat.le_trans hB hnW)), q1, q2, Nat.le_trans hnW hbw.size⟩
  refine EL.call (clv_68_0_1_3 rfl rfl) rfl (further_any c vc vl vs n0 B gc _ _ l S J Jx (coursesL c) hc hB hS1 hS2 hS3 hJ hJx hY c.clues.length [] (.slice none 0 0) [] _ (by simp) (inCourse_nil c) hAt ⟨rfl, .inl ⟨rfl, rfl⟩⟩ (hJ _ _ _ hJ0 hbw) (by rw [List.map_nil, List.nil_append]; exact List.prefix_rfl)) ?_
  rintro e wy ⟨hky, hans⟩
  replace hky := (Kp.of_below hbw hnW).trans hky
  rcases hans with ⟨rfl, ys, hys, hJy⟩ | ⟨rfl, ys, hne, hys, hJy⟩
  ·
    refine ⟨_, rfl, ?_⟩
    refine EL.nil ?_
    exact EX.done' (res0 rfl) ⟨⟨_, rfl⟩, hky, .inl ⟨ys, hys, hJy⟩⟩
  ·
    refine ⟨_, rfl, ?_⟩
    refine EL.nil ?_
    exact EX.done' (res0 rfl) ⟨⟨_, rfl⟩, hky, .inr ⟨ys, hne, hys, hJy⟩⟩
/-- a list of rows of one's own that is made by a range -/
structure Coll (b0 gl : Nat) (w0 : World) (pre : List It) (W : World) : Prop where
  l : ∃ v, Blk W gl 41 #[v] ∧ W.ownsRow b0 26 1 v pre.length (pre.map (·.2))
  rows : ∀ x ∈ pre, okRow x W
  low : Below b0 w0 W
theorem Coll.from {b0 gl B : Nat} {w0 : World} (h1 : b0 ≤ w0.heap.size) (h2 : b0 ≤ B) : OwnFrom B (Coll b0 gl w0) := fun s W W' row h hg hr =>
  ⟨by obtain ⟨v, hq, ho⟩ := h.l; exact ⟨v, blk_keep hq hg fun r e => (hr r e).2, own_keep ho hg fun r e => (hr r e).2⟩, fun x hx => own_keep (h.rows x hx) hg fun r e => (hr r e).2, ownFrom_below (β := List It) h1 h2 s W W' row h.low hg hr⟩
theorem Coll.below {b0 gl : Nat} {w0 W W' : World} {pre : List It} (h : Coll b0 gl w0 pre W) (hb : Below W.heap.size W W') (hw : b0 ≤ w0.heap.size) : Coll b0 gl w0 pre W' :=
  ⟨by obtain ⟨v, hq, ho⟩ := h.l; exact ⟨v, hq.below hb hq.lt, own_below ho hb (Nat.le_refl _)⟩, fun x hx => own_below (h.rows x hx) hb (Nat.le_refl _), h.low.trans (hb.mono (Nat.le_trans hw h.low.size))⟩
/-- lists of integers, as they are read -/
def iC (x : Int) : List Value := [.int .i64 x]
theorem ints_flat (l : List Int) : ints l = l.flatMap iC := by
  induction l with
  | nil => rfl
  | cons x l ih => rw [List.flatMap_cons, ← ih]; rfl
theorem Coll.rd {b0 gl : Nat} {w0 W : World} {pre : List It} {v : Value} (h : Coll b0 gl w0 pre W) (hq : Blk W gl 41 #[v]) : RdLL iC 1 W W.heap.size v (pre.map (·.1)) (pre.map (·.2)) := by
  obtain ⟨u, hu, ho⟩ := h.l
  have e : u = v := by
    unfold Blk at hu hq
    rw [hu] at hq
    injection hq with hq
    injection hq with hq _
    simpa using hq
  subst e
  refine ⟨by simp, by simpa using Rd.of_own ho, fun i hi => ?_⟩
  have hi' : i < pre.length := by simpa using hi
  have hx := h.rows _ (List.getElem_mem hi')
  unfold okRow at hx
  have := Rd.of_own hx
  rw [ints_flat] at this
  simpa [List.getD, hi'] using this
theorem Took.row {n0 : Nat} {w w' : World} {base e size n : Nat} {v : Value} {xs : List Value} (h : Took n0 w w') (ho : w.ownsRow base e size v n xs) : w'.ownsRow base e size v n xs := by
  obtain ⟨hl, h0 | ⟨g, cap, cur, hv, hb, hk, h1⟩⟩ := ho
  · exact ⟨hl, .inl h0⟩
  · exact ⟨hl, .inr ⟨g, cap, cur, hv, hb, h.blk g e cur hk, h1⟩⟩
theorem Coll.took {b0 gl n0 : Nat} {w0 W W' : World} {pre : List It} (h : Coll b0 gl w0 pre W) (ht : Took n0 W W') (hn : b0 ≤ n0) : Coll b0 gl w0 pre W' :=
  ⟨by obtain ⟨v, hq, ho⟩ := h.l; exact ⟨v, ht.blk _ _ _ hq, ht.row ho⟩, fun x hx => ht.row (h.rows x hx), h.low.trans (ht.below.mono hn)⟩
theorem crsP_len {c : Case} : ∀ (d : Nat) (pre : List Int), pre.length + d = c.clues.length → (crsP c d pre).length * prodTo c pre.length ≤ manyC c := by
  intro d
  induction d with
  | zero =>
    intro pre h
    have e : pre.length = c.clues.length := by omega
    rw [e]
    unfold crsP manyC
    split <;> simp
  | succ d ih =>
    intro pre h
    unfold crsP
    split
    · have h1 : ∀ k, ((List.range k).flatMap fun k => crsP c d (pre ++ [((k : Nat) : Int)])).length * prodTo c (pre.length + 1) ≤ k * manyC c := by
        intro k
        induction k with
        | zero => simp
        | succ k ihk =>
          rw [range_flat, List.length_append, Nat.add_mul, Nat.succ_mul]
          have := ih (pre ++ [((k : Nat) : Int)]) (by simp; omega)
          rw [List.length_append] at this
          exact Nat.add_le_add ihk this
      have h2 := h1 (optN c pre)
      have h3 : prodTo c (pre.length + 1) = prodTo c pre.length * optN c pre := rfl
      rw [h3, ← Nat.mul_assoc, Nat.mul_comm (optN c pre)] at h2
      by_cases h0 : optN c pre = 0
      · rw [h0]; simp
      · exact Nat.le_of_mul_le_mul_right h2 (by omega)
    · simp
theorem courses_len {c : Case} : (coursesL c).length ≤ manyC c := by
  have h1 := crsP_len (c := c) c.clues.length [] (by simp)
  simpa [prodTo, coursesL] using h1
theorem tooMany_is {b : Bool} {c : Case} (hb : decide (512 < manyC c) = b) (vc vl : Value) (vs : List Value) (w : World) (B : Nat) (hr : RdCase w B vc vl c vs) (hB : B ≤ w.heap.size) (hn1 : c.clocks.length ≤ 1073741824) (hn2 : c.clues.length ≤ 1073741824) (hc : caseB c = true) :
    Calls Try.prog 44 #[.agg #[.int .i64 c.events, vc, vl]] w fun e w' => e = .returned (.bool b) ∧ Below w.heap.size w w' := hb ▸ tooMany_any c vc vl vs w B hr hB hn1 hn2 hc
theorem crs_bad {c : Case} (h : ¬caseB c = true) : coursesErr c = 2 := by unfold coursesErr; rw [if_pos (by simpa using h)]
theorem crs_many {c : Case} (h : caseB c = true) (hm : 512 < manyC c) : coursesErr c = 5 := by unfold coursesErr; rw [if_neg (by simp [h]), if_pos hm]
theorem crs_ok {c : Case} (h : caseB c = true) (hm : ¬512 < manyC c) : coursesErr c = 0 := by unfold coursesErr; rw [if_neg (by simp [h]), if_neg hm]
def crsRes (c : Case) : List (List Int) := if coursesErr c = 0 then coursesL c else []
theorem rdll_nil {w : World} {B : Nat} : RdLL iC 1 w B (.slice none 0 0) [] [] := ⟨rfl, rd_nil, fun i hi => absurd hi (by simp)⟩
set_option maxHeartbeats 2000000 in
theorem courses_any (c : Case) (vc vl : Value) (vs : List Value) (w : World) (B : Nat) (hr : RdCase w B vc vl c vs) (hB : B ≤ w.heap.size) (hn1 : c.clocks.length ≤ 1073741824) (hn2 : c.clues.length ≤ 1073741824) :
    Calls Try.prog 21 #[.agg #[.int .i64 c.events, vc, vl]] w fun e w' => (∃ v vs', e = .returned (.tuple #[v, .int .i64 (coursesErr c)]) ∧ RdLL iC 1 w' w'.heap.size v (crsRes c) vs') ∧ Below w.heap.size w w' := by
  obtain ⟨Ac, cc_, rfl, _⟩ := hr.clocks.shape
  obtain ⟨Al, cl_, rfl, _⟩ := hr.clues.rd.shape
  have hbw := Below.refl w.heap.size w
  refine EC.marks 20 Try.func21 rfl rfl rfl ?_
  refine ECI.out ?_
  refine EC.seq ?_
  refine EC.region ?_
  refine EL.newP (bx_25 rfl) rfl ?_
  intro g1 w1 q1 hb1 hg1 hl1
  have bhbw_1 := Nat.le_trans hbw.size hg1
  replace hbw := Below.on hbw hb1 hbw.size
  clear hb1 hg1 hl1
  refine EL.newP al_41 rfl ?_
  intro g2 w2 q2 hb2 hg2 hl2
  have n1_2 : g1 ≠ g2 := Nat.ne_of_lt (Nat.lt_of_lt_of_le q1.lt hg2)
  have bhbw_2 := Nat.le_trans hbw.size hg2
  replace q1 := q1.below hb2 q1.lt
  replace hbw := Below.on hbw hb2 hbw.size
  clear hb2 hg2 hl2
  refine EL.val (x_assign rfl) rfl ?_
  refine EL.nil ?_
  refine EX.seq ?_
  refine EC.seq ?_
  refine EC.block ?_
  refine EC.seq ?_
  refine EC.region ?_
  refine EL.val (ld_25 rfl (q1.at (j := 0) rfl) (q1.at (j := 1) rfl) (q1.at (j := 2) rfl)) rfl ?_
  refine EL.call (cl_25 rfl) rfl (check_any c _ _ vs _ B (hr.below (hbw.mono hB)) (Nat.le_trans hB hbw.size) hn1 hn2) ?_
  rintro e w3 ⟨rfl, hc3⟩
  refine ⟨_, rfl, ?_⟩
  replace q1 := q1.below hc3 q1.lt
  replace q2 := q2.below hc3 q2.lt
  replace hbw := Below.on hbw hc3 hbw.size
  clear hc3
  by_cases hcb : caseB c = true
  ·
    refine EL.val (x_neq (r := false) rfl rfl (by simp [hcb])) rfl ?_
    refine EL.val (x_assign rfl) rfl ?_
    refine EL.nil ?_
    refine EX.seq ?_
    refine EC.no rfl ?_
    refine EC.seq ?_
    refine EC.region ?_
    refine EL.val (ld_25 rfl (q1.at (j := 0) rfl) (q1.at (j := 1) rfl) (q1.at (j := 2) rfl)) rfl ?_
    by_cases hmn : 512 < manyC c
    ·
      refine EL.call (cl_44 rfl) rfl (tooMany_is (decide_eq_true hmn) _ _ vs _ B (hr.below (hbw.mono hB)) (Nat.le_trans hB hbw.size) hn1 hn2 hcb) ?_
      rintro e w4 ⟨rfl, hc4⟩
      refine ⟨_, rfl, ?_⟩
      replace q1 := q1.below hc4 q1.lt
      replace q2 := q2.below hc4 q2.lt
      replace hbw := Below.on hbw hc4 hbw.size
      clear hc4
      refine EL.val (x_assign rfl) rfl ?_
      refine EL.nil ?_
      refine EX.seq ?_
      refine EC.yes rfl ?_
      refine EC.seq ?_
      refine EC.region ?_
      refine EL.store rfl rfl q2 sz_41 rfl rfl rfl rfl ?_
      intro w5 hq5 hg5
      replace q1 := q1.grown hg5 (fun h => n1_2 (Option.some.inj h))
      replace hbw := below_store hbw hg5 bhbw_2
      replace q2 := hq5
      clear hg5 hq5
      refine EL.val (x_assign rfl) rfl ?_
      refine EL.nil ?_
      refine EX.seq ?_
      refine EC.ret ?_
      refine EX.blk_ret ?_
      refine EX.seq_ret ?_
      refine EX.doneM (resct rfl rfl rfl (lv_41 (q2.at (j := 0) rfl))) ?_
      exact ⟨⟨_, [], by rw [crs_many hcb hmn], by rw [crsRes, if_neg (by rw [crs_many hcb hmn]; decide)]; exact rdll_nil⟩, hbw⟩
    ·
      refine EL.call (cl_44 rfl) rfl (tooMany_is (decide_eq_false hmn) _ _ vs _ B (hr.below (hbw.mono hB)) (Nat.le_trans hB hbw.size) hn1 hn2 hcb) ?_
      rintro e w6 ⟨rfl, hc6⟩
      refine ⟨_, rfl, ?_⟩
      replace q1 := q1.below hc6 q1.lt
      replace q2 := q2.below hc6 q2.lt
      replace hbw := Below.on hbw hc6 hbw.size
      clear hc6
      refine EL.val (x_assign rfl) rfl ?_
      refine EL.nil ?_
      refine EX.seq ?_
      refine EC.no rfl ?_
      refine EC.skip ?_
      refine EX.blk ?_
      refine EX.seq ?_
      refine EC.seq ?_
      refine EC.seq ?_
      refine EC.region ?_
      refine EL.val (ld_25 rfl (q1.at (j := 0) rfl) (q1.at (j := 1) rfl) (q1.at (j := 2) rfl)) rfl ?_
      refine EL.call (cl_45 rfl) rfl (courses_fn _ ⟨_, _, _, rfl⟩ ⟨_, _, _, rfl⟩) ?_
      rintro e w7 ⟨⟨gc, rfl, hcq, hgc⟩, hc7⟩
      refine ⟨_, rfl, ?_⟩
      replace q1 := q1.below hc7 q1.lt
      replace q2 := q2.below hc7 q2.lt
      replace hbw := Below.on hbw hc7 hbw.size
      clear hc7
      refine EL.nil ?_
      refine EX.seq ?_
      refine EC.block ?_
      obtain ⟨gl, egl⟩ : ∃ z, z = g2 := ⟨_, rfl⟩
      have qL := q2
      rw [← egl] at qL
      have hgl : w.heap.size ≤ gl := by rw [egl]; exact bhbw_2
      subst egl
      have hmany : ∀ (pre : List It) (x : It), (pre ++ [x]).map (·.1) <+: coursesL c → pre.length + 1 ≤ 1048576 := fun pre x h => by have h1 := h.length_le; have h2 := courses_len (c := c); simp only [List.length_map, List.length_append, List.length_cons, List.length_nil] at h1; omega
      have hI := Coll.from (gl := gl) (w0 := w) (Nat.le_refl w.heap.size) hbw.size
      refine EC.inn (k := 0) ?_
      refine rangeF (σ1 := fun x => _) (ok := okRow) (n0 := w.heap.size) (S := [41, 26]) rfl (fun args w => by kernel_rfl) rfl (courses_iter c _ _ vs w.heap.size B gc [41, 26] _ hcb hB rfl rfl rfl hbw.size hcq (hr.below (hbw.mono hB))) hbw.size (Coll w.heap.size gl w) (fun _ _ => False) hI (fun _ _ _ _ h _ _ => h) ⟨⟨_, qL, ⟨rfl, .inl ⟨rfl, rfl⟩⟩⟩, fun x hx => absurd hx (by simp), hbw⟩ (okRow_from _) (fun l x W K hK => assign1 rfl hK) ?_ ?_ ?_
      · intro l pre x W hpf hokx hcl
        refine ECI.block ?_
        refine ECI.region ?_
        obtain ⟨v, qv, hov⟩ := hcl.l
        have hrows := hcl.rows
        have hlow := hcl.low
        obtain ⟨Ax, cx, ex_, _⟩ := (Rd.of_own hokx).shape
        obtain ⟨xl, xv⟩ := x
        dsimp only at ex_ hokx hpf ⊢
        subst ex_
        have hlen : pre.length + 1 ≤ 1048576 := hmany pre _ hpf
        clear hcl
        refine ELI.val (ld_41 rfl (qv.at (j := 0) rfl)) rfl ?_
        refine ELI.val (x_move rfl) rfl ?_
        refine ELI.newS (bs_41_1 rfl) rfl ?_
        intro g1 W1 qn hb1 hge1 hlt1
        replace qv := qv.below hb1 qv.lt
        replace hov := own_below hov hb1 (Nat.le_refl _)
        have hrows1 : ∀ x ∈ pre ++ [(xl, .slice Ax xl.length cx)], okRow x W1 := fun x hx => by
          rcases List.mem_append.1 hx with h | h
          · exact own_below (hrows x h) hb1 (Nat.le_refl _)
          · rw [List.mem_singleton.1 h]; exact own_below hokx hb1 (Nat.le_refl _)
        have hlow1 := hlow.trans (hb1.mono hlow.size)
        refine ELI.push row_elem rfl rfl hov (rd_one (l := [.slice Ax xl.length cx]) qn rfl) (by intro u hu; rw [List.mem_singleton.1 hu]; rfl) hlen rfl hlow1.size rfl ?_
        intro v2 W2 ho2 hgr hb2 hk2
        have qv2 := blk_grown qv hov rfl hgr
        have hrows2 : ∀ x ∈ pre ++ [(xl, .slice Ax xl.length cx)], okRow x W2 := fun x hx => own_grown (hrows1 x hx) hov rfl hgr
        have hlow2 := hlow1.trans hb2
        obtain ⟨A2, c2, e2, _⟩ := (Rd.of_own ho2).shape
        subst e2
        refine ELI.store rfl rfl qv2 sz_41 rfl rfl rfl rfl ?_
        intro W3 q3 hgr3 hk3
        refine ELI.nil ?_
        have hcl3 : Coll w.heap.size gl w (pre ++ [(xl, .slice Ax xl.length cx)]) W3 := ⟨⟨_, q3, by simpa using own_type ho2 qv2 rfl hgr3⟩, fun x hx => own_type (hrows2 x hx) qv2 rfl hgr3, hlow2.grown hgr3 hlow2.size (fun k e => by injection e with e; omega)⟩
        have hko3 := ((keeps_below hb1).trans hk2).trans hk3
        have hkp3 : Kp w.heap.size [41, 26] W W3 := ((Kp.of_below hb1 hlow.size).trans (Kp.own hov rfl (Nat.le_refl _) hlow1.size hgr)).trans (Kp.grown qv2 rfl hgl hgr3)
        refine EXI.blk ?_
        exact fun a ha => ⟨hko3, hkp3, .inl ⟨rfl, hcl3⟩⟩
      · intro D xs W hD hall hcl hkp hdef
        refine EXI.blk ?_
        refine EXI.seqw ?_
        refine ECI.seq ?_
        refine ECI.region ?_
        obtain ⟨v, qv, hov⟩ := hcl.l
        obtain ⟨Av, cv_, rfl, _⟩ := (Rd.of_own hov).shape
        refine ELI.val (ld_41 rfl (qv.at (j := 0) rfl)) rfl ?_
        refine ELI.store rfl rfl qv sz_41 rfl rfl rfl rfl ?_
        intro W3 q3 hgr3 hk3
        have hcl3 : Coll w.heap.size gl w xs W3 := ⟨⟨_, q3, own_type hov qv rfl hgr3⟩, fun x hx => own_type (hcl.rows x hx) qv rfl hgr3, hcl.low.grown hgr3 hcl.low.size (fun k e => by injection e with e; omega)⟩
        refine ELI.val (x_assign rfl) rfl ?_
        refine ELI.nil ?_
        refine EXI.seq ?_
        refine ECI.ret ?_
        refine EXI.done (n0 := w.heap.size) (fun d hd => ⟨D, Nat.le_trans hbw.size hD, List.mem_singleton.1 hd, hk3.same _ _ hdef rfl⟩) (by simp) (v := .tuple #[.slice Av xs.length cv_, .int .i64 0]) (fun w' ht => resct rfl rfl rfl (lv_41 ((ht.blk _ _ _ q3).at (j := 0) rfl))) (fun w' ht => ⟨⟨_, xs.map (·.2), by rw [crs_ok hcb hmn], by rw [crsRes, if_pos (crs_ok hcb hmn), ← hall]; exact (hcl3.took ht (Nat.le_refl _)).rd (ht.blk _ _ _ q3)⟩, hcl3.low.trans ht.below⟩)
      · intro D pre W hD hne hall h
        exact absurd h id
  ·
    refine EL.val (x_neq (r := true) rfl rfl (by simp [hcb])) rfl ?_
    refine EL.val (x_assign rfl) rfl ?_
    refine EL.nil ?_
    refine EX.seq ?_
    refine EC.yes rfl ?_
    refine EC.seq ?_
    refine EC.region ?_
    refine EL.store rfl rfl q2 sz_41 rfl rfl rfl rfl ?_
    intro w8 hq8 hg8
    replace q1 := q1.grown hg8 (fun h => n1_2 (Option.some.inj h))
    replace hbw := below_store hbw hg8 bhbw_2
    replace q2 := hq8
    clear hg8 hq8
    refine EL.val (x_assign rfl) rfl ?_
    refine EL.nil ?_
    refine EX.seq ?_
    refine EC.ret ?_
    refine EX.blk_ret ?_
    refine EX.seq_ret ?_
    refine EX.doneM (resct rfl rfl rfl (lv_41 (q2.at (j := 0) rfl))) ?_
    exact ⟨⟨_, [], by rw [crs_bad hcb], by rw [crsRes, if_neg (by rw [crs_bad hcb]; decide)]; exact rdll_nil⟩, hbw⟩
end Go.Proofs.Ytmaiiigijjfjfaa
set_option linter.unusedVariables false
set_option linter.unusedSimpArgs false
namespace Go.Proofs.Ytmaiiigijjfjfaa
open Go Go.RowKit
theorem mono_cp {k e size n : Nat} {xs : List Value} {base : Nat} {f : Option Addr → Nat → Value} {N : Nat} : Mono fun r w => ∃ A c, r k = f A c ∧ w.ownsRow base e size (.slice A N c) n xs := fun _ _ _ hb ⟨A, c, h1, h2⟩ => ⟨A, c, h1, own_below h2 hb (Nat.le_refl _)⟩
theorem mono_cp3 {k e size n T : Nat} {xs : List Value} {base C : Nat} {f : Nat → Value} {h : Option Addr → Nat → Array Value} {N : Nat} : Mono fun r w => ∃ g A c, r k = f g ∧ Blk w g T (h A c) ∧ w.ownsRow base e size (.slice A N c) n xs ∧ C ≤ g := fun _ _ _ hb ⟨g, A, c, h1, h3, h2, h4⟩ => ⟨g, A, c, h1, h3.below hb h3.lt, own_below h2 hb (Nat.le_refl _), h4⟩
section
variable {P : Program} {n : Nat} {σ : Sg} {w : World} {dst : Option Tmp} {ty t t' : TypeId} {pos : String} {af : Array Edge} {g : Option (Nat × Bool)} {x y : Operand}
end
/-- a bit of a set -/
def bitN (s i : Nat) : Bool := decide (s / 2 ^ i % 2 = 1)
theorem bitN_zero (i : Nat) : bitN 0 i = false := by simp [bitN]
end Go.Proofs.Ytmaiiigijjfjfaa
set_option linter.unusedVariables false
set_option linter.unusedSimpArgs false
namespace Go.Proofs.Ytmaiiigijjfjfaa
open Go Go.RowKit
section
variable {n : Nat} {σ : Sg} {w : World} {dst : Option Tmp} {ty : TypeId} {pos : String} {af : Array Edge} {g : Option (Nat × Bool)} {x y z : Operand} {at' : Array TypeId}
theorem al_25 (a : Act) (_ : Env n σ a) : (execOp a.eval ⟨dst, .alloc 25, ty, pos, af, g⟩).run Try.prog w = .ok (.value (.pointer (some ⟨w.heap.size, 0, none⟩))) (w.alloc (.cells #[.int .i64 0, .slice none 0 0, .slice none 0 0] 25)) := by
  simp only [execOp]
  simp [go_sem]
theorem bd_25_0_1 {x0 x1 : Operand} {z0 : Int} {A1 : Option Addr} {m1 : Nat} {c1 : Nat} (h0 : evS σ x0 = some (.int .i64 z0)) (h1 : evS σ x1 = some (.slice A1 m1 c1)) : Gives Try.prog n σ w ⟨dst, .build 25 #[(0, x0), (1, x1)], ty, pos, af, g⟩ (.agg #[.int .i64 z0, .slice A1 m1 c1, .slice none 0 0]) := fun a ha => by
  simp only [execOp, List.map_toArray, List.map_cons, List.map_nil, ha.eval h0, ha.eval h1]
  go_simp
theorem sz_25 : (Try.prog.info? 25).map (·.size) = some 3 := by kernel_rfl
theorem bs_72_0 (a : Act) (_ : Env n σ a) : (execOp a.eval ⟨dst, .buildSlice 72 0 #[], ty, pos, af, g⟩).run Try.prog w = .ok (.value (.slice (some ⟨w.heap.size, 0, none⟩) 0 0)) (w.alloc (.cells #[] 71)) := by
  simp only [execOp]
  go_simp
theorem bd_74_0 {x0 : Operand} {A0 : Option Addr} {m0 : Nat} {c0 : Nat} (h0 : evS σ x0 = some (.slice A0 m0 c0)) : Gives Try.prog n σ w ⟨dst, .build 74 #[(0, x0)], ty, pos, af, g⟩ (.agg #[.slice A0 m0 c0]) := fun a ha => by
  simp only [execOp, List.map_toArray, List.map_cons, List.map_nil, ha.eval h0]
  go_simp
theorem bs_23_1 {x0 : Operand} {v0_0 : Value} (h0 : evS σ x0 = some (.agg #[v0_0]))  (a : Act) (ha : Env n σ a) : (execOp a.eval ⟨dst, .buildSlice 23 1 #[(0, x0)], ty, pos, af, g⟩).run Try.prog w = .ok (.value (.slice (some ⟨w.heap.size, 0, none⟩) 1 1)) (w.alloc (.cells #[v0_0] 74)) := by
  simp only [execOp, List.map_toArray, List.map_cons, List.map_nil, ha.eval h0]
  go_simp
theorem sz_23 : (Try.prog.info? 23).map (·.size) = some 1 := by kernel_rfl
theorem lv_25 {b o : Nat} {v0 v1 v2 : Value} (c0 : w.cell? ⟨b, o, none⟩ = some v0) (c1 : w.cell? ⟨b, o + 1, none⟩ = some v1) (c2 : w.cell? ⟨b, o + 2, none⟩ = some v2) : (loadVar 25 ⟨b, o, none⟩).run Try.prog w = .ok (.agg #[v0, v1, v2]) w := by
  simp [go_sem, loadVar, c0, c1, c2]
end
end Go.Proofs.Ytmaiiigijjfjfaa
set_option linter.unusedVariables false
set_option linter.unusedSimpArgs false
namespace Go.Proofs.Ytmaiiigijjfjfaa
open Go Go.RowKit
theorem opt_info : (Try.prog.info? 71).map (fun i => (i.zero, i.size, i.bytes)) = some (some (.agg #[.int .i64 0, .int .i64 0, .int .i64 0, .int .i64 0, .int .i64 0, .int .i64 0]), 6, 48) := by kernel_rfl
theorem opt_elem : Elem Try.prog 72 71 6 48 := Elem.mk' Try.underlying72 opt_info rfl (by omega)
theorem clue_info : (Try.prog.info? 74).map (fun i => (i.zero, i.size, i.bytes)) = some (some (.agg #[.slice none 0 0]), 1, 24) := by kernel_rfl
theorem clue_elem : Elem Try.prog 23 74 1 24 := Elem.mk' Try.underlying23 clue_info rfl (by omega)
/-- clues of one's own -/
structure OwnClues (W : World) (base : Nat) (vb : Value) (l : List (List Opt)) (vs : List Value) : Prop where
  len : vs.length = l.length
  own : W.ownsRow base 74 1 vb l.length vs
  row : ∀ i, i < l.length → W.ownsRow base 71 6 (vs.getD i undef) (l.getD i []).length (optsC (l.getD i []))
  apart : ∀ i j, i < l.length → j < i → Apart (vs.getD j undef) (vs.getD i undef)
theorem OwnClues.nil {W : World} {base : Nat} : OwnClues W base (.slice none 0 0) [] [] := ⟨rfl, ⟨rfl, .inl ⟨rfl, rfl⟩⟩, fun i hi => absurd hi (by simp), fun i j hi _ => absurd hi (by simp)⟩
section
variable {W W' : World} {base : Nat} {vb : Value} {l : List (List Opt)} {vs : List Value}
theorem OwnClues.below (h : OwnClues W base vb l vs) (hb : Below W.heap.size W W') : OwnClues W' base vb l vs := ⟨h.len, own_below h.own hb (Nat.le_refl _), fun i hi => own_below (h.row i hi) hb (Nat.le_refl _), h.apart⟩
theorem OwnClues.type {g T : Nat} {cs : Array Value} (h : OwnClues W base vb l vs) (hq : Blk W g T cs) (h1 : Nat.beq T 74 = false) (h2 : Nat.beq T 71 = false) (hg : W.grownBy W' (some g)) : OwnClues W' base vb l vs := ⟨h.len, own_type h.own hq h1 hg, fun i hi => own_type (h.row i hi) hq h2 hg, h.apart⟩
theorem getD_end {α : Type} {l : List α} {x d : α} {i : Nat} : (l ++ [x]).getD i d = if i < l.length then l.getD i d else if i = l.length then x else d := by
  simp only [List.getD_eq_getElem?_getD, List.getElem?_append]
  by_cases h : i < l.length
  · rw [if_pos h, if_pos h]
  · rw [if_neg h, if_neg h]
    by_cases e : i = l.length
    · subst e; simp
    · rw [if_neg e, List.getElem?_eq_none (by simp; omega)]; rfl
theorem take_get {α : Type} {l : List α} {i : Nat} {d : α} (hi : i < l.length) : l.take (i + 1) = l.take i ++ [l.getD i d] := by
  rw [List.take_succ_eq_append_getElem hi]
  simp [List.getD, hi]
/-- one clue more; W0: an earlier world, behind which the new options lie -/
theorem OwnClues.push {W0 : World} {n1 : Nat} {v v' : Value} {o : List Opt} (h : OwnClues W base vb l vs) (hv : W.ownsRow n1 71 6 v o.length (optsC o)) (hgr : W.grownBy W' vb.ownBlock) (ho : W'.ownsRow base 74 1 v' (l.length + 1) (vs ++ [v])) (h0 : OwnClues W0 base vb l vs) (hap : ∀ g, v.ownBlock = some g → W0.heap.size ≤ g) (hn : base ≤ n1) : OwnClues W' base v' (l ++ [o]) (vs ++ [v]) := by
  have hv2 : W'.ownsRow n1 71 6 v o.length (optsC o) := own_grown hv h.own rfl hgr
  refine ⟨by simp [h.len], by rw [List.length_append]; exact ho, fun i hi => ?_, fun i j hi hj => ?_⟩
  · rw [getD_end, getD_end, h.len]
    by_cases h1 : i < l.length
    · rw [if_pos h1, if_pos h1]
      exact own_grown (h.row i h1) h.own rfl hgr
    · have h2 : i = l.length := by simp at hi; omega
      rw [if_neg h1, if_neg h1, if_pos h2, if_pos h2]
      exact own_less hv2 hn
  · rw [getD_end, getD_end, h.len]
    by_cases h1 : i < l.length
    · rw [if_pos h1, if_pos (by omega)]
      exact h.apart i j h1 hj
    · have h2 : i = l.length := by simp at hi; omega
      rw [if_neg h1, if_pos h2, if_pos (by omega)]
      intro g ha hb
      have := ((h0.row j (by omega)).lt g ha).2
      have := hap g hb
      omega
end
/-- a case of one's own -/
structure OwnCase (W : World) (base : Nat) (va vb : Value) (c : Case) (vs : List Value) : Prop where
  clocks : W.ownsRow base 54 2 va c.clocks.length (bdsC c.clocks)
  clues : OwnClues W base vb c.clues vs
theorem OwnCase.rd {W : World} {base : Nat} {va vb : Value} {c : Case} {vs : List Value} (h : OwnCase W base va vb c vs) : RdCase W W.heap.size va vb c vs := ⟨Rd.of_own h.clocks, h.clues.len, Rd.of_own h.clues.own, fun i hi => Rd.of_own (h.clues.row i hi)⟩
theorem OwnCase.below {W W' : World} {base : Nat} {va vb : Value} {c : Case} {vs : List Value} (h : OwnCase W base va vb c vs) (hb : Below W.heap.size W W') : OwnCase W' base va vb c vs := ⟨own_below h.clocks hb (Nat.le_refl _), h.clues.below hb⟩
set_option maxHeartbeats 2000000 in
set_option maxRecDepth 100000 in
theorem copied_any (c : Case) (vc vl : Value) (vs : List Value) (w : World) (B : Nat) (hr : RdCase w B vc vl c vs) (hB : B ≤ w.heap.size) (hn1 : c.clocks.length ≤ 1073741824) (hn2 : c.clues.length ≤ 1073741824) (hsm : Small c) :
    Calls Try.prog 14 #[.agg #[.int .i64 c.events, vc, vl]] w fun e w' => (∃ va vb vs', e = .returned (.agg #[.int .i64 c.events, va, vb]) ∧ OwnCase w' w.heap.size va vb c vs') ∧ Below w.heap.size w w' := by
  obtain ⟨Ac, cc_, rfl, _⟩ := hr.clocks.shape
  obtain ⟨Al, cl_, rfl, _⟩ := hr.clues.rd.shape
  have hbw := Below.refl w.heap.size w
  refine EC.enter 34 Try.func14 rfl rfl rfl ?_
  refine EC.seq ?_
  refine EC.region ?_
  refine EL.newP (bx_25 rfl) rfl ?_
  intro g1 w1 q1 hb1 hg1 hl1
  have bhbw_1 := Nat.le_trans hbw.size hg1
  replace hbw := Below.on hbw hb1 hbw.size
  clear hb1 hg1 hl1
  refine EL.newP al_25 rfl ?_
  intro g2 w2 q2 hb2 hg2 hl2
  have n1_2 : g1 ≠ g2 := Nat.ne_of_lt (Nat.lt_of_lt_of_le q1.lt hg2)
  have bhbw_2 := Nat.le_trans hbw.size hg2
  replace q1 := q1.below hb2 q1.lt
  replace hbw := Below.on hbw hb2 hbw.size
  clear hb2 hg2 hl2
  refine EL.nil ?_
  refine EX.seq ?_
  refine EC.seq ?_
  have hsz0 := hbw.size
  have lt_1 := q1.lt
  have lt_2 := q2.lt
  refine EC.regionP [[], [0], [], [], [3], [2, 3, 4], [0, 1, 2, 3, 4, 5], [], [0, 1, 2, 3, 4, 5, 6, 7]] 8 [7] (phi (fun i_ r => match i_ with | 0 => r 0 = .pointer (some ⟨g1, 0, none⟩) | 1 => r 1 = .int .i64 c.events | 3 => r 3 = .pointer (some ⟨g1, 1, none⟩) | 4 => r 4 = .slice Ac c.clocks.length cc_ | _ => True) [(2, fun r w_ => ∃ g_, r 2 = .slice (some ⟨g_, 0, none⟩) 0 0 ∧ Blk w_ g_ 54 #[] ∧ w2.heap.size ≤ g_), (5, fun r w_ => ∃ A_ c_, r 5 = .slice A_ c.clocks.length c_ ∧ w_.ownsRow w2.heap.size 54 2 (.slice A_ c.clocks.length c_) c.clocks.length (bdsC c.clocks)), (6, fun r w_ => ∃ A_ c_, r 6 = .agg #[.int .i64 c.events, .slice A_ c.clocks.length c_, .slice none 0 0] ∧ w_.ownsRow w2.heap.size 54 2 (.slice A_ c.clocks.length c_) c.clocks.length (bdsC c.clocks)), (7, fun r w_ => ∃ g_, r 7 = .pointer (some ⟨g_, 0, none⟩) ∧ Blk w_ g_ 25 #[.int .i64 0, .slice none 0 0, .slice none 0 0])]) (by kernel_rfl) rfl rfl (phi_cons mono_bs (phi_cons mono_cp (phi_cons mono_cp (phi_cons mono_alloc (phi_nil))))) (fun i_ hi_ => ?_) ?_
  · match i_, hi_ with
    | 0, _ =>
      intro val w1 a hb ha hd
      have ha := ha.sub (Sub.ins (d := 1) (Sub.nil _) rfl)
      exact hs_val ha rfl rfl (fa_25_0 rfl) rfl rfl
    | 1, _ =>
      intro val w1 a hb ha hd
      have e0 : val 0 = .pointer (some ⟨g1, 0, none⟩) := hd 0 (memB_mem.1 rfl)
      have ha := ha.sub (Sub.ins (d := 5) (Sub.nil _) (dep_get rfl e0))
      exact hs_val ha rfl rfl (ld_3 rfl ((q1.below hb q1.lt).at (j := 0) rfl)) rfl rfl
    | 2, _ =>
      intro val w1 a hb ha hd
      have ha := ha.sub (Sub.nil _)
      exact hs_newS ha rfl rfl (bs_22_0) rfl (fun g w' hq _ hge => ⟨g, rfl, hq, Nat.le_trans hb.size hge⟩)
    | 3, _ =>
      intro val w1 a hb ha hd
      have ha := ha.sub (Sub.ins (d := 1) (Sub.nil _) rfl)
      exact hs_val ha rfl rfl (fa_25_1 rfl) rfl rfl
    | 4, _ =>
      intro val w1 a hb ha hd
      have e3 : val 3 = .pointer (some ⟨g1, 1, none⟩) := hd 3 (memB_mem.1 rfl)
      have ha := ha.sub (Sub.ins (d := 8) (Sub.nil _) (dep_get rfl e3))
      exact hs_val ha rfl rfl (ld_22 rfl ((q1.below hb q1.lt).at (j := 1) rfl)) rfl rfl
    | 5, _ =>
      intro val w1 a hb ha hd
      obtain ⟨g2_, e2, q2_, h2_⟩ := hd 2 (memB_mem.1 rfl)
      change val 2 = _ at e2
      have e4 : val 4 = .slice Ac c.clocks.length cc_ := hd 4 (memB_mem.1 rfl)
      have ha := ha.sub (Sub.ins (d := 9) (Sub.ins (d := 7) (Sub.nil _) (dep_get rfl e2)) (dep_get rfl e4))
      refine hs_copy bd_elem ha rfl rfl rfl q2_ h2_ (hr.clocks.below ((Below.on hbw hb hbw.size).mono hB)) (bdsC_one _) (by have := hsm.clocks; omega) rfl hb.size rfl (fun v' w' ho => ?_)
      obtain ⟨A, c9, rfl, _⟩ := (Rd.of_own ho).shape
      exact ⟨A, c9, rfl, ho⟩
    | 6, _ =>
      intro val w1 a hb ha hd
      have e1 : val 1 = .int .i64 c.events := hd 1 (memB_mem.1 rfl)
      obtain ⟨A5_, c5_, e5, o5_⟩ := hd 5 (memB_mem.1 rfl)
      have ha := ha.sub (Sub.ins (d := 10) (Sub.ins (d := 6) (Sub.nil _) (dep_get rfl e1)) (dep_get rfl e5))
      exact hs_val ha rfl rfl (bd_25_0_1 rfl rfl) ⟨A5_, c5_, rfl, o5_⟩ rfl
    | 7, _ =>
      intro val w1 a hb ha hd
      have ha := ha.sub (Sub.nil _)
      exact hs_newP ha rfl rfl al_25 (fun g w' hq _ _ => ⟨g, rfl, hq⟩)
    | k + 8, h => exact absurd h (by omega)
  · intro val wR1 hb halc hd
    have e0 : val 0 = .pointer (some ⟨g1, 0, none⟩) := hd 0 (by omega)
    have e1 : val 1 = .int .i64 c.events := hd 1 (by omega)
    obtain ⟨ga2_1, e2, qa2_1, hga2_1⟩ := hd 2 (by omega)
    change val 2 = _ at e2
    change Blk wR1 ga2_1 54 #[] at qa2_1
    have e3 : val 3 = .pointer (some ⟨g1, 1, none⟩) := hd 3 (by omega)
    have e4 : val 4 = .slice Ac c.clocks.length cc_ := hd 4 (by omega)
    obtain ⟨A5_, c5_, e5, o5_⟩ := hd 5 (by omega)
    obtain ⟨A6_, c6_, e6, o6_⟩ := hd 6 (by omega)
    obtain ⟨ga7_1, e7, qa7_1⟩ := hd 7 (by omega)
    refine EL.ends (cs := [.pointer (some ⟨g1, 0, none⟩), .int .i64 c.events, .slice (some ⟨ga2_1, 0, none⟩) 0 0, .pointer (some ⟨g1, 1, none⟩), .slice Ac c.clocks.length cc_, .slice A5_ c.clocks.length c5_, .agg #[.int .i64 c.events, .slice A6_ c.clocks.length c6_, .slice none 0 0], .pointer (some ⟨ga7_1, 0, none⟩)]) ⟨e0, e1, e2, e3, e4, e5, e6, e7, trivial⟩ rfl ?_
    replace q1 := q1.below hb q1.lt
    replace q2 := q2.below hb q2.lt
    have bge3 := alc_ge halc (i := 7) rfl rfl e7
    have n1_3 : g1 ≠ ga7_1 := Nat.ne_of_lt (Nat.lt_of_lt_of_le lt_1 bge3)
    have n2_3 : g2 ≠ ga7_1 := Nat.ne_of_lt (Nat.lt_of_lt_of_le lt_2 bge3)
    have bhbw_3 := Nat.le_trans hbw.size bge3
    have n1_4 : g1 ≠ ga2_1 := Nat.ne_of_lt (Nat.lt_of_lt_of_le lt_1 hga2_1)
    have n2_4 : g2 ≠ ga2_1 := Nat.ne_of_lt (Nat.lt_of_lt_of_le lt_2 hga2_1)
    have bhbw_4 := Nat.le_trans hbw.size hga2_1
    replace hbw := Below.on hbw hb hbw.size
    clear hb
    replace o6_ := own_less o6_ hsz0
    refine EL.store rfl rfl qa7_1 sz_25 rfl rfl rfl rfl ?_
    intro w5 hq5 hg5
    replace q1 := q1.grown hg5 (fun h => n1_3 (Option.some.inj h))
    replace q2 := q2.grown hg5 (fun h => n2_3 (Option.some.inj h))
    replace o6_ := own_type o6_ qa7_1 rfl hg5
    replace hbw := below_store hbw hg5 bhbw_3
    replace qa7_1 := hq5
    clear hg5 hq5
    refine EL.nil ?_
    refine EX.seq ?_
    refine EC.seq ?_
    refine EC.seq ?_
    refine EC.region ?_
    refine EL.val (x_assign rfl) rfl ?_
    refine EL.nil ?_
    refine EX.seq ?_
    refine EC.block ?_
    have hg3 : w.heap.size ≤ ga7_1 := bhbw_3
    have hg2 : w.heap.size ≤ g2 := bhbw_2
    have n23 : g2 ≠ ga7_1 := n2_3
    have n13 : g1 ≠ ga7_1 := n1_3
    refine EC.loopD [4, 12, 13, 14, 15, 16, 17, 18, 19, 20, 21, 22, 23, 24, 25, 26, 27, 28, 29, 30, 31, 32] (fun x : Nat × Value × List Value => [(4, .int .i64 (x.1 : Nat))]) (fun x W => x.1 ≤ c.clues.length ∧ Blk W g1 25 #[.int .i64 c.events, .slice Ac c.clocks.length cc_, .slice Al c.clues.length cl_] ∧ Blk W g2 25 #[.int .i64 0, .slice none 0 0, .slice none 0 0] ∧ Blk W ga7_1 25 #[.int .i64 c.events, .slice A6_ c.clocks.length c6_, x.2.1] ∧ W.ownsRow w.heap.size 54 2 (.slice A6_ c.clocks.length c6_) c.clocks.length (bdsC c.clocks) ∧ OwnClues W w.heap.size x.2.1 (c.clues.take x.1) x.2.2 ∧ Below w.heap.size w W) (fun x => c.clues.length - x.1) (0, .slice none 0 0, []) ⟨Nat.zero_le _, q1, q2, qa7_1, o6_, OwnClues.nil, hbw⟩ ⟨rfl, trivial⟩ ?_
    clear q1 q2 qa7_1 o6_ hbw
    rintro ⟨x, vo, fs⟩ wx ⟨hx, q1x, q2x, q3x, o6_, hoc, hbw⟩
    dsimp only at hx q3x hoc
    obtain ⟨AO, cO, eO, _⟩ := (Rd.of_own hoc.own).shape
    subst eO
    by_cases hlt : x < c.clues.length
    ·
      obtain ⟨bl, ol, e_, _, hcell⟩ := rdll_cell hr.clues x hlt
      subst e_
      have hrow := hr.clues.row x hlt
      obtain ⟨Ao, co, eo, _⟩ := hrow.shape
      rw [eo] at hcell hrow
      have hl5 := hsm.opts x hlt
      refine EC.seq ?_
      refine EC.seq ?_
      refine EC.region ?_
      refine EL.val (x_move rfl) rfl ?_
      refine EL.val (fa_25_2 rfl) rfl ?_
      refine EL.val (ld_23 rfl (q1x.at (j := 2) rfl)) rfl ?_
      refine EL.val (ln_23 rfl) rfl ?_
      refine EL.val (x_lss rfl rfl (decide_eq_true (show (((x : Nat) : Int) < (c.clues.length : Nat)) by omega))) rfl ?_
      refine EL.nil ?_
      refine EX.seq ?_
      refine EC.yes rfl ?_
      refine EC.skip ?_
      refine EX.seq ?_
      refine EC.seq ?_
      refine EC.block ?_
      have hoc0 := hoc
      have hsz := hbw.size
      have lt_1 := q1x.lt
      have lt_2 := q2x.lt
      have lt_3 := q3x.lt
      refine EC.regionP [[], [0], [], [], [3], [], [3, 4, 5], [3, 4, 5, 6], [3, 4, 5, 6, 7], [2, 3, 4, 5, 6, 7, 8], [2, 3, 4, 5, 6, 7, 8, 9], [2, 3, 4, 5, 6, 7, 8, 9, 10], [0, 1, 2, 3, 4, 5, 6, 7, 8, 9, 10, 11], [0, 1, 2, 3, 4, 5, 6, 7, 8, 9, 10, 11, 12], [0, 1, 2, 3, 4, 5, 6, 7, 8, 9, 10, 11, 12, 13]] 12 [] (phi (fun i_ r => match i_ with | 0 => r 0 = .pointer (some ⟨ga7_1, 2, none⟩) | 1 => r 1 = .slice AO (c.clues.take x).length cO | 3 => r 3 = .pointer (some ⟨g1, 2, none⟩) | 4 => r 4 = .slice (some ⟨bl, ol, none⟩) c.clues.length cl_ | 5 => r 5 = .int .i64 (x : Nat) | 6 => r 6 = .pointer (some ⟨bl, ol + x, none⟩) | 7 => r 7 = .pointer (some ⟨bl, ol + x, none⟩) | 8 => r 8 = .slice Ao (c.clues.getD x []).length co | _ => True) [(2, fun r w_ => ∃ g_, r 2 = .slice (some ⟨g_, 0, none⟩) 0 0 ∧ Blk w_ g_ 71 #[] ∧ wx.heap.size ≤ g_), (9, fun r w_ => ∃ A_ c_, r 9 = .slice A_ (c.clues.getD x []).length c_ ∧ w_.ownsRow wx.heap.size 71 6 (.slice A_ (c.clues.getD x []).length c_) (c.clues.getD x []).length (optsC (c.clues.getD x []))), (10, fun r w_ => ∃ A_ c_, r 10 = .agg #[.slice A_ (c.clues.getD x []).length c_] ∧ w_.ownsRow wx.heap.size 71 6 (.slice A_ (c.clues.getD x []).length c_) (c.clues.getD x []).length (optsC (c.clues.getD x []))), (11, fun r w_ => ∃ g_ A_ c_, r 11 = .slice (some ⟨g_, 0, none⟩) 1 1 ∧ Blk w_ g_ 74 #[.slice A_ (c.clues.getD x []).length c_] ∧ w_.ownsRow wx.heap.size 71 6 (.slice A_ (c.clues.getD x []).length c_) (c.clues.getD x []).length (optsC (c.clues.getD x [])) ∧ wx.heap.size ≤ g_)]) (by kernel_rfl) rfl rfl (phi_cons mono_bs (phi_cons mono_cp (phi_cons mono_cp (phi_cons mono_cp3 (phi_nil))))) (fun i_ hi_ => ?_) ?_
      · match i_, hi_ with
        | 0, _ =>
          intro val w1 a hb ha hd
          have ha := ha.sub (Sub.ins (d := 3) (Sub.nil _) rfl)
          exact hs_val ha rfl rfl (fa_25_2 rfl) rfl rfl
        | 1, _ =>
          intro val w1 a hb ha hd
          have e0 : val 0 = .pointer (some ⟨ga7_1, 2, none⟩) := hd 0 (memB_mem.1 rfl)
          have ha := ha.sub (Sub.ins (d := 19) (Sub.nil _) (dep_get rfl e0))
          exact hs_val ha rfl rfl (ld_23 rfl ((q3x.below hb q3x.lt).at (j := 2) rfl)) rfl rfl
        | 2, _ =>
          intro val w1 a hb ha hd
          have ha := ha.sub (Sub.nil _)
          exact hs_newS ha rfl rfl (bs_72_0) rfl (fun g w' hq _ hge => ⟨g, rfl, hq, Nat.le_trans hb.size hge⟩)
        | 3, _ =>
          intro val w1 a hb ha hd
          have ha := ha.sub (Sub.ins (d := 1) (Sub.nil _) rfl)
          exact hs_val ha rfl rfl (fa_25_2 rfl) rfl rfl
        | 4, _ =>
          intro val w1 a hb ha hd
          have e3 : val 3 = .pointer (some ⟨g1, 2, none⟩) := hd 3 (memB_mem.1 rfl)
          have ha := ha.sub (Sub.ins (d := 22) (Sub.nil _) (dep_get rfl e3))
          exact hs_val ha rfl rfl (ld_23 rfl ((q1x.below hb q1x.lt).at (j := 2) rfl)) rfl rfl
        | 5, _ =>
          intro val w1 a hb ha hd
          have ha := ha.sub (Sub.ins (d := 4) (Sub.nil _) rfl)
          exact hs_val ha rfl rfl (x_move rfl) rfl rfl
        | 6, _ =>
          intro val w1 a hb ha hd
          have e4 : val 4 = .slice (some ⟨bl, ol, none⟩) c.clues.length cl_ := hd 4 (memB_mem.1 rfl)
          have e5 : val 5 = .int .i64 (x : Nat) := hd 5 (memB_mem.1 rfl)
          have ha := ha.sub (Sub.ins (d := 24) (Sub.ins (d := 23) (Sub.nil _) (dep_get rfl e4)) (dep_get rfl e5))
          exact hs_val ha rfl rfl (ix_23 rfl rfl hlt) rfl rfl
        | 7, _ =>
          intro val w1 a hb ha hd
          have e6 : val 6 = .pointer (some ⟨bl, ol + x, none⟩) := hd 6 (memB_mem.1 rfl)
          have ha := ha.sub (Sub.ins (d := 25) (Sub.nil _) (dep_get rfl e6))
          exact hs_val ha rfl rfl (fa_74_0 rfl) rfl rfl
        | 8, _ =>
          intro val w1 a hb ha hd
          have e7 : val 7 = .pointer (some ⟨bl, ol + x, none⟩) := hd 7 (memB_mem.1 rfl)
          have ha := ha.sub (Sub.ins (d := 26) (Sub.nil _) (dep_get rfl e7))
          exact hs_val ha rfl rfl (ld_72 rfl (below_load (Below.on hbw hb hbw.size) hcell)) rfl rfl
        | 9, _ =>
          intro val w1 a hb ha hd
          obtain ⟨g2_, e2, q2_, h2_⟩ := hd 2 (memB_mem.1 rfl)
          change val 2 = _ at e2
          have e8 : val 8 = .slice Ao (c.clues.getD x []).length co := hd 8 (memB_mem.1 rfl)
          have ha := ha.sub (Sub.ins (d := 27) (Sub.ins (d := 21) (Sub.nil _) (dep_get rfl e2)) (dep_get rfl e8))
          refine hs_copy opt_elem ha rfl rfl rfl q2_ h2_ (hrow.below ((Below.on hbw hb hbw.size).mono hB)) (optsC_one _) (by omega) rfl hb.size rfl (fun v' w' ho => ?_)
          obtain ⟨A, c9, rfl, _⟩ := (Rd.of_own ho).shape
          exact ⟨A, c9, rfl, ho⟩
        | 10, _ =>
          intro val w1 a hb ha hd
          obtain ⟨A9_, c9_, e9, o9_⟩ := hd 9 (memB_mem.1 rfl)
          have ha := ha.sub (Sub.ins (d := 28) (Sub.nil _) (dep_get rfl e9))
          exact hs_val ha rfl rfl (bd_74_0 rfl) ⟨A9_, c9_, rfl, o9_⟩ rfl
        | 11, _ =>
          intro val w1 a hb ha hd
          obtain ⟨A10_, c10_, e10, o10_⟩ := hd 10 (memB_mem.1 rfl)
          have ha := ha.sub (Sub.ins (d := 29) (Sub.nil _) (dep_get rfl e10))
          exact hs_newS ha rfl rfl (bs_23_1 rfl) rfl (fun g w' hq hb' hge => ⟨g, A10_, c10_, rfl, hq, own_below o10_ hb' (Nat.le_refl _), Nat.le_trans hb.size hge⟩)
        | k + 12, h => exact absurd h (by omega)
      · intro val wR5 hb halc hd
        have e0 : val 0 = .pointer (some ⟨ga7_1, 2, none⟩) := hd 0 (by omega)
        have e1 : val 1 = .slice AO (c.clues.take x).length cO := hd 1 (by omega)
        obtain ⟨ga2_5, e2, qa2_5, hga2_5⟩ := hd 2 (by omega)
        change val 2 = _ at e2
        change Blk wR5 ga2_5 71 #[] at qa2_5
        have e3 : val 3 = .pointer (some ⟨g1, 2, none⟩) := hd 3 (by omega)
        have e4 : val 4 = .slice (some ⟨bl, ol, none⟩) c.clues.length cl_ := hd 4 (by omega)
        have e5 : val 5 = .int .i64 (x : Nat) := hd 5 (by omega)
        have e6 : val 6 = .pointer (some ⟨bl, ol + x, none⟩) := hd 6 (by omega)
        have e7 : val 7 = .pointer (some ⟨bl, ol + x, none⟩) := hd 7 (by omega)
        have e8 : val 8 = .slice Ao (c.clues.getD x []).length co := hd 8 (by omega)
        obtain ⟨A9_, c9_, e9, o9_⟩ := hd 9 (by omega)
        obtain ⟨A10_, c10_, e10, o10_⟩ := hd 10 (by omega)
        obtain ⟨g11_, A11_, c11_, e11, q11_, o11_, h11_⟩ := hd 11 (by omega)
        refine EL.ends (cs := [.pointer (some ⟨ga7_1, 2, none⟩), .slice AO (c.clues.take x).length cO, .slice (some ⟨ga2_5, 0, none⟩) 0 0, .pointer (some ⟨g1, 2, none⟩), .slice (some ⟨bl, ol, none⟩) c.clues.length cl_, .int .i64 (x : Nat), .pointer (some ⟨bl, ol + x, none⟩), .pointer (some ⟨bl, ol + x, none⟩), .slice Ao (c.clues.getD x []).length co, .slice A9_ (c.clues.getD x []).length c9_, .agg #[.slice A10_ (c.clues.getD x []).length c10_], .slice (some ⟨g11_, 0, none⟩) 1 1]) ⟨e0, e1, e2, e3, e4, e5, e6, e7, e8, e9, e10, e11, trivial⟩ rfl ?_
        replace q1x := q1x.below hb q1x.lt
        replace q2x := q2x.below hb q2x.lt
        replace q3x := q3x.below hb q3x.lt
        replace o6_ := own_below o6_ hb (Nat.le_refl _)
        replace hoc := hoc.below hb
        have n1_6 : g1 ≠ ga2_5 := Nat.ne_of_lt (Nat.lt_of_lt_of_le lt_1 hga2_5)
        have n2_6 : g2 ≠ ga2_5 := Nat.ne_of_lt (Nat.lt_of_lt_of_le lt_2 hga2_5)
        have n3_6 : ga7_1 ≠ ga2_5 := Nat.ne_of_lt (Nat.lt_of_lt_of_le lt_3 hga2_5)
        have bhbw_6 := Nat.le_trans hbw.size hga2_5
        replace hbw := Below.on hbw hb hbw.size
        clear hb
        have hnew := o11_
        have hap : ∀ g, (Value.slice A11_ (c.clues.getD x []).length c11_).ownBlock = some g → wx.heap.size ≤ g := fun g h => (o11_.lt g h).1
        have hlen2 : (c.clues.take x).length = x := by rw [List.length_take]; omega
        refine EL.push clue_elem rfl rfl hoc.own (rd_one (l := [.slice A11_ (c.clues.getD x []).length c11_]) q11_ rfl) (by intro u hu; rw [List.mem_singleton.1 hu]; rfl) (by have := hsm.clues; omega) rfl hbw.size rfl ?_
        intro v2 wp ho2 hgr hb2 hat
        have hoc2 := hoc.push hnew hgr ho2 hoc0 hap hsz
        skip
        replace q1x := blk_grown q1x hoc.own rfl hgr
        replace q2x := blk_grown q2x hoc.own rfl hgr
        replace q3x := blk_grown q3x hoc.own rfl hgr
        replace o6_ := own_grown o6_ hoc.own rfl hgr
        replace hbw := hbw.trans hb2
        clear hoc
        obtain ⟨A2, c2, e2, _⟩ := (Rd.of_own hoc2.own).shape
        subst e2
        refine EL.val (fa_25_2 rfl) rfl ?_
        refine EL.store rfl rfl q3x sz_23 rfl rfl rfl rfl ?_
        intro w7 hq7 hg7
        replace q1x := q1x.grown hg7 (fun h => n1_3 (Option.some.inj h))
        replace q2x := q2x.grown hg7 (fun h => n2_3 (Option.some.inj h))
        replace o6_ := own_type o6_ q3x rfl hg7
        replace hoc2 := hoc2.type q3x rfl rfl hg7
        replace hbw := below_store hbw hg7 bhbw_3
        replace q3x := hq7
        clear hg7 hq7
        refine EL.nil ?_
        refine EX.blk ?_
        refine EX.seq ?_
        refine EC.region ?_
        refine EL.val (x_move rfl) rfl ?_
        refine EL.val (x_add rfl rfl (c := ((x + 1 : Nat) : Int)) ((IntWalk.i64_in _ ⟨by have := hsm.clues; omega, by have := hsm.clues; omega⟩).trans (by omega))) rfl ?_
        refine EL.val (x_assign rfl) rfl ?_
        refine EL.nil ?_
        refine EX.roundD (x + 1, _, fs ++ [_]) ⟨rfl, trivial⟩ (by repeat first | with_reducible exact Sub.refl _ | refine sub_past rfl ?_ | exact Sub.refl _ | refine sub_del rfl ?_ | refine sub_insL_nil ?_) ⟨hlt, q1x, q2x, q3x, o6_, by rw [take_get hlt]; exact hoc2, hbw⟩ (by simp only; omega)
    ·
      obtain rfl : x = c.clues.length := by omega
      rw [List.take_length] at hoc q3x
      refine EC.seq ?_
      refine EC.seq ?_
      refine EC.region ?_
      refine EL.val (x_move rfl) rfl ?_
      refine EL.val (fa_25_2 rfl) rfl ?_
      refine EL.val (ld_23 rfl (q1x.at (j := 2) rfl)) rfl ?_
      refine EL.val (ln_23 rfl) rfl ?_
      refine EL.val (x_lss rfl rfl (decide_eq_false (Int.lt_irrefl _))) rfl ?_
      refine EL.nil ?_
      refine EX.seq ?_
      refine EC.no rfl ?_
      refine EC.exit ?_
      refine EX.seq_exit ?_
      refine EX.seq_exit ?_
      refine EX.blk_here ?_
      refine EX.seq ?_
      refine EC.seq ?_
      refine EC.region ?_
      refine EL.val (ld_25 rfl (q3x.at (j := 0) rfl) (q3x.at (j := 1) rfl) (q3x.at (j := 2) rfl)) rfl ?_
      refine EL.store rfl rfl q2x sz_25 rfl rfl rfl rfl ?_
      intro w8 hq8 hg8
      replace q1x := q1x.grown hg8 (fun h => n1_2 (Option.some.inj h))
      replace q3x := q3x.grown hg8 (fun h => n2_3.symm (Option.some.inj h))
      replace o6_ := own_type o6_ q2x rfl hg8
      replace hoc := hoc.type q2x rfl rfl hg8
      replace hbw := below_store hbw hg8 bhbw_2
      replace q2x := hq8
      clear hg8 hq8
      refine EL.nil ?_
      refine EX.seq ?_
      refine EC.ret ?_
      exact EX.done (resc1 rfl rfl (lv_25 (q2x.at (j := 0) rfl) (q2x.at (j := 1) rfl) (q2x.at (j := 2) rfl))) ⟨⟨_, _, _, rfl, ⟨o6_, hoc⟩⟩, hbw⟩
end Go.Proofs.Ytmaiiigijjfjfaa
set_option linter.unusedVariables false
set_option linter.unusedSimpArgs false
namespace Go.Proofs.Ytmaiiigijjfjfaa
open Go Go.RowKit
section
variable {n : Nat} {σ : Sg} {w : World} {dst : Option Tmp} {ty : TypeId} {pos : String} {af : Array Edge} {g : Option (Nat × Bool)} {x y z : Operand} {at' : Array TypeId}
theorem clv_62_0_2_0 {xf x0 x1 : Operand} {v0 v1 : Value} (hf : evS σ xf = some (.func (.func 62) #[] #[])) (h0 : evS σ x0 = some v0) (h1 : evS σ x1 = some v1) (a : Act) (ha : Env n σ a) : (execOp a.eval ⟨dst, .call { callee := .value xf, args := #[x0, x1], argTypes := at' }, ty, pos, af, g⟩).run Try.prog w = .ok (.enter 62 #[v0, v1]) w := by
  simp only [execOp, resolve, List.map_toArray, List.map_cons, List.map_nil, ha.eval hf, ha.eval h0, ha.eval h1]
  simp [go_sem, Deferred.ofValue]
theorem bs_22_2 {x0 x1 : Operand} {v0_0 v0_1 v1_0 v1_1 : Value} (h0 : evS σ x0 = some (.agg #[v0_0, v0_1])) (h1 : evS σ x1 = some (.agg #[v1_0, v1_1]))  (a : Act) (ha : Env n σ a) : (execOp a.eval ⟨dst, .buildSlice 22 2 #[(0, x0), (1, x1)], ty, pos, af, g⟩).run Try.prog w = .ok (.value (.slice (some ⟨w.heap.size, 0, none⟩) 2 2)) (w.alloc (.cells #[v0_0, v0_1, v1_0, v1_1] 54)) := by
  simp only [execOp, List.map_toArray, List.map_cons, List.map_nil, ha.eval h0, ha.eval h1]
  go_simp
theorem bd_71_0_4 {x0 x1 : Operand} {z0 : Int} {v1_0 : Value} {v1_1 : Value} (h0 : evS σ x0 = some (.int .i64 z0)) (h1 : evS σ x1 = some (.agg #[v1_0, v1_1])) : Gives Try.prog n σ w ⟨dst, .build 71 #[(0, x0), (4, x1)], ty, pos, af, g⟩ (.agg #[.int .i64 z0, .int .i64 0, .int .i64 0, .int .i64 0, v1_0, v1_1]) := fun a ha => by
  simp only [execOp, List.map_toArray, List.map_cons, List.map_nil, ha.eval h0, ha.eval h1]
  go_simp
theorem bs_72_1 {x0 : Operand} {v0_0 v0_1 v0_2 v0_3 v0_4 v0_5 : Value} (h0 : evS σ x0 = some (.agg #[v0_0, v0_1, v0_2, v0_3, v0_4, v0_5]))  (a : Act) (ha : Env n σ a) : (execOp a.eval ⟨dst, .buildSlice 72 1 #[(0, x0)], ty, pos, af, g⟩).run Try.prog w = .ok (.value (.slice (some ⟨w.heap.size, 0, none⟩) 1 1)) (w.alloc (.cells #[v0_0, v0_1, v0_2, v0_3, v0_4, v0_5] 71)) := by
  simp only [execOp, List.map_toArray, List.map_cons, List.map_nil, ha.eval h0]
  go_simp
theorem bd_71_0_1_2_4 {x0 x1 x2 x3 : Operand} {z0 : Int} {z1 : Int} {z2 : Int} {v3_0 : Value} {v3_1 : Value} (h0 : evS σ x0 = some (.int .i64 z0)) (h1 : evS σ x1 = some (.int .i64 z1)) (h2 : evS σ x2 = some (.int .i64 z2)) (h3 : evS σ x3 = some (.agg #[v3_0, v3_1])) : Gives Try.prog n σ w ⟨dst, .build 71 #[(0, x0), (1, x1), (2, x2), (4, x3)], ty, pos, af, g⟩ (.agg #[.int .i64 z0, .int .i64 z1, .int .i64 z2, .int .i64 0, v3_0, v3_1]) := fun a ha => by
  simp only [execOp, List.map_toArray, List.map_cons, List.map_nil, ha.eval h0, ha.eval h1, ha.eval h2, ha.eval h3]
  go_simp
theorem bd_71_0_1_4 {x0 x1 x2 : Operand} {z0 : Int} {z1 : Int} {v2_0 : Value} {v2_1 : Value} (h0 : evS σ x0 = some (.int .i64 z0)) (h1 : evS σ x1 = some (.int .i64 z1)) (h2 : evS σ x2 = some (.agg #[v2_0, v2_1])) : Gives Try.prog n σ w ⟨dst, .build 71 #[(0, x0), (1, x1), (4, x2)], ty, pos, af, g⟩ (.agg #[.int .i64 z0, .int .i64 z1, .int .i64 0, .int .i64 0, v2_0, v2_1]) := fun a ha => by
  simp only [execOp, List.map_toArray, List.map_cons, List.map_nil, ha.eval h0, ha.eval h1, ha.eval h2]
  go_simp
theorem bs_72_2 {x0 x1 : Operand} {v0_0 v0_1 v0_2 v0_3 v0_4 v0_5 v1_0 v1_1 v1_2 v1_3 v1_4 v1_5 : Value} (h0 : evS σ x0 = some (.agg #[v0_0, v0_1, v0_2, v0_3, v0_4, v0_5])) (h1 : evS σ x1 = some (.agg #[v1_0, v1_1, v1_2, v1_3, v1_4, v1_5]))  (a : Act) (ha : Env n σ a) : (execOp a.eval ⟨dst, .buildSlice 72 2 #[(0, x0), (1, x1)], ty, pos, af, g⟩).run Try.prog w = .ok (.value (.slice (some ⟨w.heap.size, 0, none⟩) 2 2)) (w.alloc (.cells #[v0_0, v0_1, v0_2, v0_3, v0_4, v0_5, v1_0, v1_1, v1_2, v1_3, v1_4, v1_5] 71)) := by
  simp only [execOp, List.map_toArray, List.map_cons, List.map_nil, ha.eval h0, ha.eval h1]
  go_simp
theorem bs_23_3 {x0 x1 x2 : Operand} {v0_0 v1_0 v2_0 : Value} (h0 : evS σ x0 = some (.agg #[v0_0])) (h1 : evS σ x1 = some (.agg #[v1_0])) (h2 : evS σ x2 = some (.agg #[v2_0]))  (a : Act) (ha : Env n σ a) : (execOp a.eval ⟨dst, .buildSlice 23 3 #[(0, x0), (1, x1), (2, x2)], ty, pos, af, g⟩).run Try.prog w = .ok (.value (.slice (some ⟨w.heap.size, 0, none⟩) 3 3)) (w.alloc (.cells #[v0_0, v1_0, v2_0] 74)) := by
  simp only [execOp, List.map_toArray, List.map_cons, List.map_nil, ha.eval h0, ha.eval h1, ha.eval h2]
  go_simp
theorem bd_25_0_1_2 {x0 x1 x2 : Operand} {z0 : Int} {A1 : Option Addr} {m1 : Nat} {c1 : Nat} {A2 : Option Addr} {m2 : Nat} {c2 : Nat} (h0 : evS σ x0 = some (.int .i64 z0)) (h1 : evS σ x1 = some (.slice A1 m1 c1)) (h2 : evS σ x2 = some (.slice A2 m2 c2)) : Gives Try.prog n σ w ⟨dst, .build 25 #[(0, x0), (1, x1), (2, x2)], ty, pos, af, g⟩ (.agg #[.int .i64 z0, .slice A1 m1 c1, .slice A2 m2 c2]) := fun a ha => by
  simp only [execOp, List.map_toArray, List.map_cons, List.map_nil, ha.eval h0, ha.eval h1, ha.eval h2]
  go_simp
theorem cl_37  (a : Act) (_ : Env n σ a) : (execOp a.eval ⟨dst, .call { callee := .value (.func 37), args := #[], argTypes := at' }, ty, pos, af, g⟩).run Try.prog w = .ok (.enter 37 #[]) w := by
  simp only [execOp, resolve, List.map_toArray, List.map_nil]
  simp [go_sem, Act.eval]
theorem bs_26_3 {x0 x1 x2 : Operand} {z0_0 z1_0 z2_0 : Int} (h0 : evS σ x0 = some (.int .i64 z0_0)) (h1 : evS σ x1 = some (.int .i64 z1_0)) (h2 : evS σ x2 = some (.int .i64 z2_0)) (a : Act) (ha : Env n σ a) : (execOp a.eval ⟨dst, .buildSlice 26 3 #[(0, x0), (1, x1), (2, x2)], ty, pos, af, g⟩).run Try.prog w = .ok (.value (.slice (some ⟨w.heap.size, 0, none⟩) 3 3)) (w.alloc (.cells #[.int .i64 z0_0, .int .i64 z1_0, .int .i64 z2_0] 3)) := by
  simp only [execOp, List.map_toArray, List.map_cons, List.map_nil, ha.eval h0, ha.eval h1, ha.eval h2]
  go_simp
theorem cl_27 {x0 x1 : Operand} {v0 v1 : Value} (h0 : evS σ x0 = some v0) (h1 : evS σ x1 = some v1) (a : Act) (ha : Env n σ a) : (execOp a.eval ⟨dst, .call { callee := .value (.func 27), args := #[x0, x1], argTypes := at' }, ty, pos, af, g⟩).run Try.prog w = .ok (.enter 27 #[v0, v1]) w := by
  simp only [execOp, resolve, List.map_toArray, List.map_cons, List.map_nil, ha.eval h0, ha.eval h1]
  simp [go_sem, Act.eval]
theorem cl_28 {x0 x1 x2 x3 : Operand} {v0 v1 v2 v3 : Value} (h0 : evS σ x0 = some v0) (h1 : evS σ x1 = some v1) (h2 : evS σ x2 = some v2) (h3 : evS σ x3 = some v3) (a : Act) (ha : Env n σ a) : (execOp a.eval ⟨dst, .call { callee := .value (.func 28), args := #[x0, x1, x2, x3], argTypes := at' }, ty, pos, af, g⟩).run Try.prog w = .ok (.enter 28 #[v0, v1, v2, v3]) w := by
  simp only [execOp, resolve, List.map_toArray, List.map_cons, List.map_nil, ha.eval h0, ha.eval h1, ha.eval h2, ha.eval h3]
  simp [go_sem, Act.eval]
theorem cl_21 {x0 : Operand} {v0 : Value} (h0 : evS σ x0 = some v0) (a : Act) (ha : Env n σ a) : (execOp a.eval ⟨dst, .call { callee := .value (.func 21), args := #[x0], argTypes := at' }, ty, pos, af, g⟩).run Try.prog w = .ok (.enter 21 #[v0]) w := by
  simp only [execOp, resolve, List.map_toArray, List.map_cons, List.map_nil, ha.eval h0]
  simp [go_sem, Act.eval]
theorem cl_13 {x0 x1 : Operand} {v0 v1 : Value} (h0 : evS σ x0 = some v0) (h1 : evS σ x1 = some v1) (a : Act) (ha : Env n σ a) : (execOp a.eval ⟨dst, .call { callee := .value (.func 13), args := #[x0, x1], argTypes := at' }, ty, pos, af, g⟩).run Try.prog w = .ok (.enter 13 #[v0, v1]) w := by
  simp only [execOp, resolve, List.map_toArray, List.map_cons, List.map_nil, ha.eval h0, ha.eval h1]
  simp [go_sem, Act.eval]
theorem ln_41 {A : Option Addr} {m c : Nat} (hx : evS σ x = some (.slice A m c)) : Gives Try.prog n σ w ⟨dst, .call { callee := .builtin .len, args := #[x], argTypes := #[41] }, ty, pos, af, g⟩ (.int .i64 (m : Int)) := fun a ha => by
  simp only [execOp, resolve, List.map_toArray, List.map_cons, List.map_nil, ha.eval hx]
  simp [go_sem]
theorem eql_54 {a0 a1 b0 b1 : Int} {r : Bool} (hx : evS σ x = some (.agg #[.int .i64 a0, .int .i64 a1])) (hy : evS σ y = some (.agg #[.int .i64 b0, .int .i64 b1])) (hc : decide (a0 = b0 ∧ a1 = b1) = r) : Gives Try.prog n σ w ⟨dst, .binOp .eql 54 x y 54, ty, pos, af, g⟩ (.bool r) := fun a ha => by
  subst hc
  simp only [execOp, ha.eval hx, ha.eval hy]
  go_simp
  repeat' split
  all_goals simp_all
end
end Go.Proofs.Ytmaiiigijjfjfaa
set_option linter.unusedVariables false
set_option linter.unusedSimpArgs false
namespace Go.Proofs.Ytmaiiigijjfjfaa
open Go Go.RowKit
theorem boats1_any (a b : Int) (w : World) : Calls Try.prog 62 #[.int .i64 a, .int .i64 b] w fun e w' => e = .returned (.agg #[.int .i64 a, .int .i64 b]) ∧ Below w.heap.size w w' := by
  have hbw := Below.refl w.heap.size w
  refine EC.enter 8 Try.func62 rfl rfl rfl ?_
  refine EC.seq ?_
  refine EC.region ?_
  refine EL.newP al_54 rfl ?_
  intro g1 w1 q1 hb1 hg1 hl1
  have bhbw_1 := Nat.le_trans hbw.size hg1
  replace hbw := Below.on hbw hb1 hbw.size
  clear hb1 hg1 hl1
  refine EL.nil ?_
  refine EX.seq ?_
  refine EC.seq ?_
  refine EC.region ?_
  refine EL.val (x_move rfl) rfl ?_
  refine EL.val (x_move rfl) rfl ?_
  refine EL.val (bd_54_0_1 rfl rfl) rfl ?_
  refine EL.store rfl rfl q1 sz_54 rfl rfl rfl rfl ?_
  intro w2 hq2 hg2
  replace hbw := below_store hbw hg2 bhbw_1
  replace q1 := hq2
  clear hg2 hq2
  refine EL.nil ?_
  refine EX.seq ?_
  refine EC.ret ?_
  exact EX.done (resc1 rfl rfl (lv_54 (q1.at (j := 0) rfl) (q1.at (j := 1) rfl))) ⟨rfl, hbw⟩
def boatsC : Case := ⟨2, [⟨0, 3⟩, ⟨-10, -5⟩], [[⟨1, 0, 0, 0, ⟨100, 101⟩⟩], [⟨1, 1, 1, 0, ⟨100, 100⟩⟩, ⟨2, 1, 0, 0, ⟨20, 30⟩⟩], [⟨2, 1, 0, 0, ⟨10, 12⟩⟩]]⟩
set_option maxHeartbeats 2000000 in
set_option maxRecDepth 100000 in
theorem boats_any (w : World) : Calls Try.prog 37 #[] w fun e w' => (∃ va vb vs, e = .returned (.agg #[.int .i64 2, va, vb]) ∧ RdCase w' w'.heap.size va vb boatsC vs) ∧ Below w.heap.size w w' := by
  have hbw := Below.refl w.heap.size w
  refine EC.enter 27 Try.func37 rfl rfl rfl ?_
  refine EC.seq ?_
  refine EC.region ?_
  refine EL.newP al_25 rfl ?_
  intro g1 w1 q1 hb1 hg1 hl1
  have bhbw_1 := Nat.le_trans hbw.size hg1
  replace hbw := Below.on hbw hb1 hbw.size
  clear hb1 hg1 hl1
  refine EL.nil ?_
  refine EX.seq ?_
  refine EC.seq ?_
  refine EC.region ?_
  refine EL.val (x_assign rfl) rfl ?_
  refine EL.nil ?_
  refine EX.seq ?_
  refine EC.seq ?_
  refine EC.region ?_
  refine EL.val (x_move rfl) rfl ?_
  refine EL.call (clv_62_0_2_0 rfl rfl rfl) rfl (boats1_any 0 3 _) ?_
  rintro e w2 ⟨rfl, hc2⟩
  refine ⟨_, rfl, ?_⟩
  replace q1 := q1.below hc2 q1.lt
  replace hbw := Below.on hbw hc2 hbw.size
  clear hc2
  refine EL.val (x_move rfl) rfl ?_
  refine EL.call (clv_62_0_2_0 rfl rfl rfl) rfl (boats1_any (-10) (-5) _) ?_
  rintro e w3 ⟨rfl, hc3⟩
  refine ⟨_, rfl, ?_⟩
  replace q1 := q1.below hc3 q1.lt
  replace hbw := Below.on hbw hc3 hbw.size
  clear hc3
  refine EL.newS (bs_22_2 rfl rfl) rfl ?_
  intro g4 w4 q4 hb4 hg4 hl4
  have n1_4 : g1 ≠ g4 := Nat.ne_of_lt (Nat.lt_of_lt_of_le q1.lt hg4)
  have bhbw_4 := Nat.le_trans hbw.size hg4
  replace q1 := q1.below hb4 q1.lt
  replace hbw := Below.on hbw hb4 hbw.size
  clear hb4 hg4 hl4
  refine EL.val (x_move rfl) rfl ?_
  refine EL.call (clv_62_0_2_0 rfl rfl rfl) rfl (boats1_any 100 101 _) ?_
  rintro e w5 ⟨rfl, hc5⟩
  refine ⟨_, rfl, ?_⟩
  replace q1 := q1.below hc5 q1.lt
  replace q4 := q4.below hc5 q4.lt
  replace hbw := Below.on hbw hc5 hbw.size
  clear hc5
  refine EL.val (bd_71_0_4 rfl rfl) rfl ?_
  refine EL.newS (bs_72_1 rfl) rfl ?_
  intro g6 w6 q6 hb6 hg6 hl6
  have n1_6 : g1 ≠ g6 := Nat.ne_of_lt (Nat.lt_of_lt_of_le q1.lt hg6)
  have n4_6 : g4 ≠ g6 := Nat.ne_of_lt (Nat.lt_of_lt_of_le q4.lt hg6)
  have bhbw_6 := Nat.le_trans hbw.size hg6
  replace q1 := q1.below hb6 q1.lt
  replace q4 := q4.below hb6 q4.lt
  replace hbw := Below.on hbw hb6 hbw.size
  clear hb6 hg6 hl6
  refine EL.val (bd_74_0 rfl) rfl ?_
  refine EL.val (x_move rfl) rfl ?_
  refine EL.call (clv_62_0_2_0 rfl rfl rfl) rfl (boats1_any 100 100 _) ?_
  rintro e w7 ⟨rfl, hc7⟩
  refine ⟨_, rfl, ?_⟩
  replace q1 := q1.below hc7 q1.lt
  replace q4 := q4.below hc7 q4.lt
  replace q6 := q6.below hc7 q6.lt
  replace hbw := Below.on hbw hc7 hbw.size
  clear hc7
  refine EL.val (bd_71_0_1_2_4 rfl rfl rfl rfl) rfl ?_
  refine EL.val (x_move rfl) rfl ?_
  refine EL.call (clv_62_0_2_0 rfl rfl rfl) rfl (boats1_any 20 30 _) ?_
  rintro e w8 ⟨rfl, hc8⟩
  refine ⟨_, rfl, ?_⟩
  replace q1 := q1.below hc8 q1.lt
  replace q4 := q4.below hc8 q4.lt
  replace q6 := q6.below hc8 q6.lt
  replace hbw := Below.on hbw hc8 hbw.size
  clear hc8
  refine EL.val (bd_71_0_1_4 rfl rfl rfl) rfl ?_
  refine EL.newS (bs_72_2 rfl rfl) rfl ?_
  intro g9 w9 q9 hb9 hg9 hl9
  have n1_9 : g1 ≠ g9 := Nat.ne_of_lt (Nat.lt_of_lt_of_le q1.lt hg9)
  have n4_9 : g4 ≠ g9 := Nat.ne_of_lt (Nat.lt_of_lt_of_le q4.lt hg9)
  have n6_9 : g6 ≠ g9 := Nat.ne_of_lt (Nat.lt_of_lt_of_le q6.lt hg9)
  have bhbw_9 := Nat.le_trans hbw.size hg9
  replace q1 := q1.below hb9 q1.lt
  replace q4 := q4.below hb9 q4.lt
  replace q6 := q6.below hb9 q6.lt
  replace hbw := Below.on hbw hb9 hbw.size
  clear hb9 hg9 hl9
  refine EL.val (bd_74_0 rfl) rfl ?_
  refine EL.val (x_move rfl) rfl ?_
  refine EL.call (clv_62_0_2_0 rfl rfl rfl) rfl (boats1_any 10 12 _) ?_
  rintro e w10 ⟨rfl, hc10⟩
  refine ⟨_, rfl, ?_⟩
  replace q1 := q1.below hc10 q1.lt
  replace q4 := q4.below hc10 q4.lt
  replace q6 := q6.below hc10 q6.lt
  replace q9 := q9.below hc10 q9.lt
  replace hbw := Below.on hbw hc10 hbw.size
  clear hc10
  refine EL.val (bd_71_0_1_4 rfl rfl rfl) rfl ?_
  refine EL.newS (bs_72_1 rfl) rfl ?_
  intro g11 w11 q11 hb11 hg11 hl11
  have n1_11 : g1 ≠ g11 := Nat.ne_of_lt (Nat.lt_of_lt_of_le q1.lt hg11)
  have n4_11 : g4 ≠ g11 := Nat.ne_of_lt (Nat.lt_of_lt_of_le q4.lt hg11)
  have n6_11 : g6 ≠ g11 := Nat.ne_of_lt (Nat.lt_of_lt_of_le q6.lt hg11)
  have n9_11 : g9 ≠ g11 := Nat.ne_of_lt (Nat.lt_of_lt_of_le q9.lt hg11)
  have bhbw_11 := Nat.le_trans hbw.size hg11
  replace q1 := q1.below hb11 q1.lt
  replace q4 := q4.below hb11 q4.lt
  replace q6 := q6.below hb11 q6.lt
  replace q9 := q9.below hb11 q9.lt
  replace hbw := Below.on hbw hb11 hbw.size
  clear hb11 hg11 hl11
  refine EL.val (bd_74_0 rfl) rfl ?_
  refine EL.newS (bs_23_3 rfl rfl rfl) rfl ?_
  intro g12 w12 q12 hb12 hg12 hl12
  have n1_12 : g1 ≠ g12 := Nat.ne_of_lt (Nat.lt_of_lt_of_le q1.lt hg12)
  have n4_12 : g4 ≠ g12 := Nat.ne_of_lt (Nat.lt_of_lt_of_le q4.lt hg12)
  have n6_12 : g6 ≠ g12 := Nat.ne_of_lt (Nat.lt_of_lt_of_le q6.lt hg12)
  have n9_12 : g9 ≠ g12 := Nat.ne_of_lt (Nat.lt_of_lt_of_le q9.lt hg12)
  have n11_12 : g11 ≠ g12 := Nat.ne_of_lt (Nat.lt_of_lt_of_le q11.lt hg12)
  have bhbw_12 := Nat.le_trans hbw.size hg12
  replace q1 := q1.below hb12 q1.lt
  replace q4 := q4.below hb12 q4.lt
  replace q6 := q6.below hb12 q6.lt
  replace q9 := q9.below hb12 q9.lt
  replace q11 := q11.below hb12 q11.lt
  replace hbw := Below.on hbw hb12 hbw.size
  clear hb12 hg12 hl12
  refine EL.val (bd_25_0_1_2 rfl rfl rfl) rfl ?_
  refine EL.store rfl rfl q1 sz_25 rfl rfl rfl rfl ?_
  intro w13 hq13 hg13
  replace q4 := q4.grown hg13 (fun h => n1_4.symm (Option.some.inj h))
  replace q6 := q6.grown hg13 (fun h => n1_6.symm (Option.some.inj h))
  replace q9 := q9.grown hg13 (fun h => n1_9.symm (Option.some.inj h))
  replace q11 := q11.grown hg13 (fun h => n1_11.symm (Option.some.inj h))
  replace q12 := q12.grown hg13 (fun h => n1_12.symm (Option.some.inj h))
  replace hbw := below_store hbw hg13 bhbw_1
  replace q1 := hq13
  clear hg13 hq13
  refine EL.nil ?_
  refine EX.seq ?_
  refine EC.ret ?_
  exact EX.done (resc1 rfl rfl (lv_25 (q1.at (j := 0) rfl) (q1.at (j := 1) rfl) (q1.at (j := 2) rfl))) ⟨⟨_, _, _, rfl, ⟨rd_blk (k := 2) (l := bdsC boatsC.clocks) q4 rfl, ⟨rfl, rd_blk (k := 3) q12 rfl, fun i hi => match i, hi with | 0, _ => rd_blk (k := 1) (l := optsC (boatsC.clues.getD 0 [])) q6 rfl | 1, _ => rd_blk (k := 2) (l := optsC (boatsC.clues.getD 1 [])) q9 rfl | 2, _ => rd_blk (k := 1) (l := optsC (boatsC.clues.getD 2 [])) q11 rfl | k + 3, h => absurd h (by simp [boatsC])⟩⟩⟩, hbw⟩
theorem boats_start : startErr boatsC [0, 0, 0] = 0 := by kernel_rfl
theorem boats_fits : fitsS boatsC [0, 0, 0] = true := by kernel_rfl
theorem boats_times : timesErr boatsC [0, 0, 0] = 0 ∧ timesL boatsC [0, 0, 0] = [⟨97, 100⟩, ⟨107, 110⟩] := by
  obtain ⟨h1, h2⟩ := times_ok boats_start boats_fits
  exact ⟨h1, h2.trans (by kernel_rfl)⟩
theorem boats_between : btwErr boatsC [0, 0, 0] 0 1 = 0 ∧ btwS boatsC [0, 0, 0] 0 1 = ⟨10, 12⟩ := ⟨by kernel_rfl, by kernel_rfl⟩
theorem boats_courses : coursesErr boatsC = 0 ∧ crsRes boatsC = [[0, 0, 0]] := ⟨by kernel_rfl, by kernel_rfl⟩
theorem boats_proof : proofErr boatsC [0, 1, 0] = 0 := by kernel_rfl
theorem times_boats (va vb vi : Value) (vs : List Value) (w : World) (B : Nat) (hr : RdCase w B va vb boatsC vs) (hB : B ≤ w.heap.size) (hl : Rd w w.heap.size 1 vi 3 (ints [0, 0, 0])) :
    Calls Try.prog 27 #[.agg #[.int .i64 2, va, vb], vi] w fun e w' => (∃ b o c, e = .returned (.tuple #[.slice (some ⟨b, o, none⟩) 2 c, .int .i64 0]) ∧ w'.cell? ⟨b, o, none⟩ = some (.int .i64 97) ∧ w'.cell? ⟨b, o + 1, none⟩ = some (.int .i64 100) ∧ w'.cell? ⟨b, o + 2, none⟩ = some (.int .i64 107) ∧ w'.cell? ⟨b, o + 2 + 1, none⟩ = some (.int .i64 110)) ∧ Below w.heap.size w w' := by
  refine (times_any boatsC va vb vs w w.heap.size (hr.more hB) (Nat.le_refl _) (by decide) (by decide) [0, 0, 0] vi hl (by decide)).mono fun e w' h => ?_
  rw [boats_times.1, boats_times.2] at h
  obtain ⟨⟨v, rfl, hrd⟩, hb⟩ := h
  obtain ⟨A, cT, rfl, _⟩ := hrd.shape
  obtain ⟨b, o, rfl, _, c0, c1⟩ := bds_cells [⟨97, 100⟩, ⟨107, 110⟩] 0 (by decide) _ _ _ _ _ hrd
  obtain ⟨b', o', e', _, c2, c3⟩ := bds_cells [⟨97, 100⟩, ⟨107, 110⟩] 1 (by decide) _ _ _ _ _ hrd
  injection e' with e'
  injection e' with e1 e2 _
  subst e1
  subst e2
  exact ⟨⟨_, _, _, rfl, c0, c1, c2, c3⟩, hb⟩
theorem between_boats (va vb vi : Value) (vs : List Value) (w : World) (B : Nat) (hr : RdCase w B va vb boatsC vs) (hB : B ≤ w.heap.size) (hl : Rd w w.heap.size 1 vi 3 (ints [0, 0, 0])) :
    Calls Try.prog 28 #[.agg #[.int .i64 2, va, vb], vi, .int .i64 0, .int .i64 1] w fun e w' => e = .returned (.tuple #[.agg #[.int .i64 10, .int .i64 12], .int .i64 0]) ∧ Below w.heap.size w w' := by
  refine (between_any boatsC va vb vs w w.heap.size (hr.more hB) (Nat.le_refl _) (by decide) (by decide) [0, 0, 0] vi hl (by decide) 0 1).mono fun e w' h => ?_
  rw [boats_between.1, boats_between.2] at h
  exact h
theorem courses_boats (va vb : Value) (vs : List Value) (w : World) (B : Nat) (hr : RdCase w B va vb boatsC vs) (hB : B ≤ w.heap.size) :
    Calls Try.prog 21 #[.agg #[.int .i64 2, va, vb]] w fun e w' => (∃ b o c b2 o2 c2, e = .returned (.tuple #[.slice (some ⟨b, o, none⟩) 1 c, .int .i64 0]) ∧ w'.cell? ⟨b, o, none⟩ = some (.slice (some ⟨b2, o2, none⟩) 3 c2) ∧ w'.cell? ⟨b2, o2 + 1, none⟩ = some (.int .i64 0)) ∧ Below w.heap.size w w' := by
  refine (courses_any boatsC va vb vs w w.heap.size (hr.more hB) (Nat.le_refl _) (by decide) (by decide)).mono fun e w' h => ?_
  rw [boats_courses.1, boats_courses.2] at h
  obtain ⟨⟨v, us, rfl, hrd⟩, hb⟩ := h
  obtain ⟨A, cT, rfl, _⟩ := hrd.rd.shape
  obtain ⟨b, o, rfl, _, c0⟩ := rdll_cell hrd 0 (by decide)
  have h0 := hrd.row 0 (by decide)
  obtain ⟨A2, c2, e2, _⟩ := h0.shape
  rw [e2] at h0 c0
  obtain ⟨b2, o2, rfl, _, c1⟩ := ints_cells [0, 0, 0] 1 (by decide) _ _ _ _ _ h0
  exact ⟨⟨_, _, _, _, _, _, rfl, c0, c1⟩, hb⟩
def boatsR : St := rch boatsC [0, 1, 0] (-1)
def boatsLs : List Lnk := linksOf boatsC [0, 1, 0]
theorem boats_r : boatsR.ring = 2 := by kernel_rfl
theorem boats_n : nOf boatsC = 5 := by kernel_rfl
theorem boats_z : back boatsLs boatsR 2 5 = 1 := by kernel_rfl
theorem boats_z1 : back boatsLs boatsR 1 1 = 2 := by kernel_rfl
theorem boats_z2 : back boatsLs boatsR 1 2 = 1 := by kernel_rfl
theorem boats_m : (lk boatsLs boatsR 2).most + (lk boatsLs boatsR 1).most = -8 := by kernel_rfl
theorem boats_ring {v z K : Nat} (h : Rg boatsLs 5 boatsR v z K) : z = 1 ∧ K = 2 := by
  have hv := h.ring
  rw [boats_r] at hv
  obtain rfl : v = 2 := by omega
  have hz := h.ez
  rw [boats_z] at hz
  subst hz
  have hp := h.pos
  have hK := h.hK
  refine ⟨rfl, ?_⟩
  by_cases e1 : K = 1
  · rw [e1, boats_z1] at hK; omega
  · by_cases e2 : 2 < K
    · exact absurd boats_z2 (h.least 2 (by omega) e2)
    · omega
theorem proof_boats (va vb vi : Value) (vs : List Value) (w : World) (B : Nat) (hr : RdCase w B va vb boatsC vs) (hB : B ≤ w.heap.size) (hl : Rd w w.heap.size 1 vi 3 (ints [0, 1, 0])) :
    Calls Try.prog 13 #[.agg #[.int .i64 2, va, vb], vi] w fun e w' => (∃ b o c m0 m1, e = .returned (.tuple #[.slice (some ⟨b, o, none⟩) 2 c, .int .i64 0]) ∧ w'.cell? ⟨b, o + 2, none⟩ = some (.int .i64 m0) ∧ w'.cell? ⟨b, o + 3 + 2, none⟩ = some (.int .i64 m1) ∧ m0 + m1 = -8) ∧ Below w.heap.size w w' := by
  refine (proof_any boatsC va vb vs w w.heap.size (hr.more hB) (Nat.le_refl _) (by decide) (by decide) [0, 1, 0] vi hl (by decide)).mono fun e w' h => ?_
  rw [boats_proof] at h
  obtain ⟨⟨v, r, rfl, hrd, _, h0⟩, hb⟩ := h
  obtain ⟨hn, hans⟩ := h0 rfl
  rcases hans with ⟨h1, _⟩ | ⟨_, v', z, K, hR, rfl⟩
  · exact absurd h1 hn
  rw [boats_n] at hR
  obtain ⟨rfl, rfl⟩ := boats_ring hR
  rw [rgL_len] at hrd
  change Rd _ _ _ _ _ (lnksC (rgL boatsLs boatsR _ _)) at hrd
  clear h0
  obtain ⟨A, cT, rfl, _⟩ := hrd.shape
  obtain ⟨b, o, rfl, _, _, _, c0⟩ := lnks_cells _ 0 (by rw [rgL_len]; decide) _ _ _ _ _ hrd
  obtain ⟨b', o', e', _, _, _, c1⟩ := lnks_cells _ 1 (by rw [rgL_len]; decide) _ _ _ _ _ hrd
  injection e' with e'
  injection e' with e1 e2 _
  subst e1
  subst e2
  rw [rgL_get _ _ _ (by decide)] at c0 c1
  have hsum : (lk boatsLs boatsR (back boatsLs boatsR 1 (2 - 1 - 0))).most + (lk boatsLs boatsR (back boatsLs boatsR 1 (2 - 1 - 1))).most = -8 := by
    show (lk boatsLs boatsR (back boatsLs boatsR 1 1)).most + (lk boatsLs boatsR 1).most = -8
    rw [boats_z1]
    exact boats_m
  rw [Nat.zero_mul, Nat.add_zero] at c0
  rw [Nat.one_mul] at c1
  generalize (lk boatsLs boatsR (back boatsLs boatsR 1 (2 - 1 - 0))).most = m0 at c0 hsum
  generalize (lk boatsLs boatsR (back boatsLs boatsR 1 (2 - 1 - 1))).most = m1 at c1 hsum
  exact ⟨⟨_, _, _, m0, m1, rfl, c0, c1, hsum⟩, hb⟩
set_option maxHeartbeats 2000000 in
set_option maxRecDepth 100000 in
theorem known_any (w : World) : Calls Try.prog 12 #[] w fun e w' => e = .returned (.bool true) ∧ Below w.heap.size w w' := by
  have hbw := Below.refl w.heap.size w
  refine EC.enter 105 Try.func12 rfl rfl rfl ?_
  refine EC.seq ?_
  refine EC.region ?_
  refine EL.val (x_assign rfl) rfl ?_
  refine EL.nil ?_
  refine EX.seq ?_
  refine EC.seq ?_
  refine EC.region ?_
  refine EL.call cl_37 rfl (boats_any _) ?_
  rintro e w1 ⟨⟨va1, vb1, vs1, rfl, hr1⟩, hc1⟩
  refine ⟨_, rfl, ?_⟩
  replace hbw := Below.on hbw hc1 hbw.size
  clear hc1
  refine EL.newS (bs_26_3 rfl rfl rfl) rfl ?_
  intro g2 w2 q2 hb2 hg2 hl2
  have bhbw_2 := Nat.le_trans hbw.size hg2
  replace hr1 := hr1.go hb2
  replace hbw := Below.on hbw hb2 hbw.size
  clear hb2 hg2 hl2
  refine EL.call (cl_27 rfl rfl) rfl (times_boats _ _ _ _ _ _ hr1 (Nat.le_refl _) (rd_blk (k := 3) (l := ints [0, 0, 0]) q2 rfl)) ?_
  rintro e w3 ⟨⟨bT, oT, cT, rfl, t0, t1, t2, t3⟩, hc3⟩
  refine ⟨_, rfl, ?_⟩
  replace q2 := q2.below hc3 q2.lt
  replace hbw := Below.on hbw hc3 hbw.size
  clear hc3
  have hT := Below.refl w3.heap.size w3
  refine EL.val (x_move rfl) rfl ?_
  refine EL.val (x_extract rfl rfl) rfl ?_
  refine EL.val (x_extract rfl rfl) rfl ?_
  refine EL.val (x_assign rfl) rfl ?_
  refine EL.val (x_assign rfl) rfl ?_
  refine EL.nil ?_
  refine EX.seq ?_
  refine EC.seq ?_
  refine EC.region ?_
  refine EL.call cl_37 rfl (boats_any _) ?_
  rintro e w4 ⟨⟨va4, vb4, vs4, rfl, hr4⟩, hc4⟩
  refine ⟨_, rfl, ?_⟩
  replace q2 := q2.below hc4 q2.lt
  replace hbw := Below.on hbw hc4 hbw.size
  replace hT := Below.on hT hc4 hT.size
  clear hc4
  refine EL.newS (bs_26_3 rfl rfl rfl) rfl ?_
  intro g5 w5 q5 hb5 hg5 hl5
  have n2_5 : g2 ≠ g5 := Nat.ne_of_lt (Nat.lt_of_lt_of_le q2.lt hg5)
  have bhbw_5 := Nat.le_trans hbw.size hg5
  have bhT_5 := Nat.le_trans hT.size hg5
  replace q2 := q2.below hb5 q2.lt
  replace hr4 := hr4.go hb5
  replace hbw := Below.on hbw hb5 hbw.size
  replace hT := Below.on hT hb5 hT.size
  clear hb5 hg5 hl5
  refine EL.call (cl_28 rfl rfl rfl rfl) rfl (between_boats _ _ _ _ _ _ hr4 (Nat.le_refl _) (rd_blk (k := 3) (l := ints [0, 0, 0]) q5 rfl)) ?_
  rintro e w6 ⟨rfl, hc6⟩
  refine ⟨_, rfl, ?_⟩
  replace q2 := q2.below hc6 q2.lt
  replace q5 := q5.below hc6 q5.lt
  replace hbw := Below.on hbw hc6 hbw.size
  replace hT := Below.on hT hc6 hT.size
  clear hc6
  refine EL.val (x_move rfl) rfl ?_
  refine EL.val (x_extract rfl rfl) rfl ?_
  refine EL.val (x_extract rfl rfl) rfl ?_
  refine EL.newP al_54 rfl ?_
  intro g7 w7 q7 hb7 hg7 hl7
  have n2_7 : g2 ≠ g7 := Nat.ne_of_lt (Nat.lt_of_lt_of_le q2.lt hg7)
  have n5_7 : g5 ≠ g7 := Nat.ne_of_lt (Nat.lt_of_lt_of_le q5.lt hg7)
  have bhbw_7 := Nat.le_trans hbw.size hg7
  have bhT_7 := Nat.le_trans hT.size hg7
  replace q2 := q2.below hb7 q2.lt
  replace q5 := q5.below hb7 q5.lt
  replace hbw := Below.on hbw hb7 hbw.size
  replace hT := Below.on hT hb7 hT.size
  clear hb7 hg7 hl7
  refine EL.store rfl rfl q7 sz_54 rfl rfl rfl rfl ?_
  intro w8 hq8 hg8
  replace q2 := q2.grown hg8 (fun h => n2_7 (Option.some.inj h))
  replace q5 := q5.grown hg8 (fun h => n5_7 (Option.some.inj h))
  replace hbw := below_store hbw hg8 bhbw_7
  replace hT := below_store hT hg8 bhT_7
  replace q7 := hq8
  clear hg8 hq8
  refine EL.val (x_assign rfl) rfl ?_
  refine EL.nil ?_
  refine EX.seq ?_
  refine EC.seq ?_
  refine EC.region ?_
  refine EL.call cl_37 rfl (boats_any _) ?_
  rintro e w9 ⟨⟨va9, vb9, vs9, rfl, hr9⟩, hc9⟩
  refine ⟨_, rfl, ?_⟩
  replace q2 := q2.below hc9 q2.lt
  replace q5 := q5.below hc9 q5.lt
  replace q7 := q7.below hc9 q7.lt
  replace hbw := Below.on hbw hc9 hbw.size
  replace hT := Below.on hT hc9 hT.size
  clear hc9
  refine EL.call (cl_21 rfl) rfl (courses_boats _ _ _ _ _ hr9 (Nat.le_refl _)) ?_
  rintro e w10 ⟨⟨bC, oC, cC, bD, oD, cD, rfl, d0, d1⟩, hc10⟩
  refine ⟨_, rfl, ?_⟩
  replace q2 := q2.below hc10 q2.lt
  replace q5 := q5.below hc10 q5.lt
  replace q7 := q7.below hc10 q7.lt
  replace hbw := Below.on hbw hc10 hbw.size
  replace hT := Below.on hT hc10 hT.size
  clear hc10
  have hC := Below.refl w10.heap.size w10
  refine EL.val (x_move rfl) rfl ?_
  refine EL.val (x_extract rfl rfl) rfl ?_
  refine EL.val (x_extract rfl rfl) rfl ?_
  refine EL.val (x_assign rfl) rfl ?_
  refine EL.val (x_assign rfl) rfl ?_
  refine EL.nil ?_
  refine EX.seq ?_
  refine EC.seq ?_
  refine EC.region ?_
  refine EL.call cl_37 rfl (boats_any _) ?_
  rintro e w11 ⟨⟨va11, vb11, vs11, rfl, hr11⟩, hc11⟩
  refine ⟨_, rfl, ?_⟩
  replace q2 := q2.below hc11 q2.lt
  replace q5 := q5.below hc11 q5.lt
  replace q7 := q7.below hc11 q7.lt
  replace hbw := Below.on hbw hc11 hbw.size
  replace hT := Below.on hT hc11 hT.size
  replace hC := Below.on hC hc11 hC.size
  clear hc11
  refine EL.newS (bs_26_3 rfl rfl rfl) rfl ?_
  intro g12 w12 q12 hb12 hg12 hl12
  have n2_12 : g2 ≠ g12 := Nat.ne_of_lt (Nat.lt_of_lt_of_le q2.lt hg12)
  have n5_12 : g5 ≠ g12 := Nat.ne_of_lt (Nat.lt_of_lt_of_le q5.lt hg12)
  have n7_12 : g7 ≠ g12 := Nat.ne_of_lt (Nat.lt_of_lt_of_le q7.lt hg12)
  have bhbw_12 := Nat.le_trans hbw.size hg12
  have bhT_12 := Nat.le_trans hT.size hg12
  have bhC_12 := Nat.le_trans hC.size hg12
  replace q2 := q2.below hb12 q2.lt
  replace q5 := q5.below hb12 q5.lt
  replace q7 := q7.below hb12 q7.lt
  replace hr11 := hr11.go hb12
  replace hbw := Below.on hbw hb12 hbw.size
  replace hT := Below.on hT hb12 hT.size
  replace hC := Below.on hC hb12 hC.size
  clear hb12 hg12 hl12
  refine EL.call (cl_13 rfl rfl) rfl (proof_boats _ _ _ _ _ _ hr11 (Nat.le_refl _) (rd_blk (k := 3) (l := ints [0, 1, 0]) q12 rfl)) ?_
  rintro e w13 ⟨⟨bP, oP, cP, m0, m1, rfl, p0, p1, hsum⟩, hc13⟩
  refine ⟨_, rfl, ?_⟩
  replace q2 := q2.below hc13 q2.lt
  replace q5 := q5.below hc13 q5.lt
  replace q7 := q7.below hc13 q7.lt
  replace q12 := q12.below hc13 q12.lt
  replace hbw := Below.on hbw hc13 hbw.size
  replace hT := Below.on hT hc13 hT.size
  replace hC := Below.on hC hc13 hC.size
  clear hc13
  have hP := Below.refl w13.heap.size w13
  refine EL.val (x_move rfl) rfl ?_
  refine EL.val (x_extract rfl rfl) rfl ?_
  refine EL.val (x_extract rfl rfl) rfl ?_
  refine EL.val (x_assign rfl) rfl ?_
  refine EL.val (x_assign rfl) rfl ?_
  refine EL.nil ?_
  refine EX.seq ?_
  refine EC.seq ?_
  refine EC.seq ?_
  refine EC.region ?_
  refine EL.val (x_move rfl) rfl ?_
  refine EL.val (x_neq (r := false) rfl rfl (by decide)) rfl ?_
  refine EL.val (x_move rfl) rfl ?_
  refine EL.valg rfl rfl (x_move rfl) rfl ?_
  refine EL.valg rfl rfl (x_neq (r := false) rfl rfl (by decide)) rfl ?_
  refine EL.val (x_pick_f rfl rfl) rfl ?_
  refine EL.val (x_move rfl) rfl ?_
  refine EL.valg rfl rfl (x_move rfl) rfl ?_
  refine EL.valg rfl rfl (x_neq (r := false) rfl rfl (by decide)) rfl ?_
  refine EL.val (x_pick_f rfl rfl) rfl ?_
  refine EL.val (x_move rfl) rfl ?_
  refine EL.valg rfl rfl (x_move rfl) rfl ?_
  refine EL.valg rfl rfl (x_neq (r := false) rfl rfl (by decide)) rfl ?_
  refine EL.val (x_pick_f rfl rfl) rfl ?_
  refine EL.val (x_move rfl) rfl ?_
  refine EL.valg rfl rfl (x_move rfl) rfl ?_
  refine EL.valg rfl rfl (ln_22 rfl) rfl ?_
  refine EL.valg rfl rfl (x_neq (r := false) rfl rfl (by decide)) rfl ?_
  refine EL.val (x_pick_f rfl rfl) rfl ?_
  refine EL.val (x_move rfl) rfl ?_
  refine EL.valg rfl rfl (x_move rfl) rfl ?_
  refine EL.valg rfl rfl (ln_41 rfl) rfl ?_
  refine EL.valg rfl rfl (x_neq (r := false) rfl rfl (by decide)) rfl ?_
  refine EL.val (x_pick_f rfl rfl) rfl ?_
  refine EL.val (x_move rfl) rfl ?_
  refine EL.valg rfl rfl (x_move rfl) rfl ?_
  refine EL.valg rfl rfl (ix_41 (k := 0) rfl rfl (by decide)) rfl ?_
  refine EL.valg rfl rfl (ld_26 rfl (below_load hC d0)) rfl ?_
  refine EL.valg rfl rfl (ln_26 rfl) rfl ?_
  refine EL.valg rfl rfl (x_neq (r := false) rfl rfl (by decide)) rfl ?_
  refine EL.val (x_pick_f rfl rfl) rfl ?_
  refine EL.val (x_move rfl) rfl ?_
  refine EL.valg rfl rfl (x_move rfl) rfl ?_
  refine EL.valg rfl rfl (ln_29 rfl) rfl ?_
  refine EL.valg rfl rfl (x_neq (r := false) rfl rfl (by decide)) rfl ?_
  refine EL.val (x_pick_f rfl rfl) rfl ?_
  refine EL.nil ?_
  refine EX.seq ?_
  refine EC.no rfl ?_
  refine EC.skip ?_
  refine EX.seq ?_
  refine EC.seq ?_
  refine EC.regionQ (by kernel_rfl) (by kernel_rfl) ?_
  refine EQ.val (fun _ hw => (x_move rfl)) rfl ?_
  refine EQ.val (fun _ hw => (ix_22 (k := 0) rfl rfl (by decide))) rfl ?_
  refine EQ.val (fun _ hw => (ld_54 rfl (below_load hw (below_load hT t0)) (below_load hw (below_load hT t1)))) rfl ?_
  refine EQ.val (fun _ hw => (bd_54_0_1 rfl rfl)) rfl ?_
  refine EQ.val (fun _ hw => (eql_54 (r := true) rfl rfl (by decide))) rfl ?_
  refine EQ.val (fun _ hw => (x_move rfl)) rfl ?_
  refine EQ.valg rfl rfl (fun _ hw => (x_move rfl)) rfl ?_
  refine EQ.valg rfl rfl (fun _ hw => (ix_22 (k := 1) rfl rfl (by decide))) rfl ?_
  refine EQ.valg rfl rfl (fun _ hw => (ld_54 rfl (below_load hw (below_load hT t2)) (below_load hw (below_load hT t3)))) rfl ?_
  refine EQ.valg rfl rfl (fun _ hw => (bd_54_0_1 rfl rfl)) rfl ?_
  refine EQ.valg rfl rfl (fun _ hw => (eql_54 (r := true) rfl rfl (by decide))) rfl ?_
  refine EQ.val (fun _ hw => (x_pick_t rfl rfl)) rfl ?_
  refine EQ.val (fun _ hw => (x_move rfl)) rfl ?_
  refine EQ.valg rfl rfl (fun _ hw => (ld_54 rfl (below_load hw (q7.at (j := 0) rfl)) (below_load hw (q7.at (j := 1) rfl)))) rfl ?_
  refine EQ.valg rfl rfl (fun _ hw => (bd_54_0_1 rfl rfl)) rfl ?_
  refine EQ.valg rfl rfl (fun _ hw => (eql_54 (r := true) rfl rfl (by decide))) rfl ?_
  refine EQ.val (fun _ hw => (x_pick_t rfl rfl)) rfl ?_
  refine EQ.val (fun _ hw => (x_move rfl)) rfl ?_
  refine EQ.valg rfl rfl (fun _ hw => (x_move rfl)) rfl ?_
  refine EQ.valg rfl rfl (fun _ hw => (ix_41 (k := 0) rfl rfl (by decide))) rfl ?_
  refine EQ.valg rfl rfl (fun _ hw => (ld_26 rfl (below_load hw (below_load hC d0)))) rfl ?_
  refine EQ.valg rfl rfl (fun _ hw => (ix_26 (k := 1) rfl rfl (by decide))) rfl ?_
  refine EQ.valg rfl rfl (fun _ hw => (ld_3 rfl (below_load hw (below_load hC d1)))) rfl ?_
  refine EQ.valg rfl rfl (fun _ hw => (x_eql rfl rfl (decide_eq_true rfl))) rfl ?_
  refine EQ.val (fun _ hw => (x_pick_t rfl rfl)) rfl ?_
  refine EQ.val (fun _ hw => (x_move rfl)) rfl ?_
  refine EQ.valg rfl rfl (fun _ hw => (x_move rfl)) rfl ?_
  refine EQ.valg rfl rfl (fun _ hw => (ix_29 (k := 0) rfl rfl (by decide))) rfl ?_
  refine EQ.valg rfl rfl (fun _ hw => (fa_39_2 rfl)) rfl ?_
  refine EQ.valg rfl rfl (fun _ hw => (ld_3 rfl (below_load hw (below_load hP p0)))) rfl ?_
  refine EQ.valg rfl rfl (fun _ hw => (x_move rfl)) rfl ?_
  refine EQ.valg rfl rfl (fun _ hw => (ix_29 (k := 1) rfl rfl (by decide))) rfl ?_
  refine EQ.valg rfl rfl (fun _ hw => (fa_39_2 rfl)) rfl ?_
  refine EQ.valg rfl rfl (fun _ hw => (ld_3 rfl (below_load hw (below_load hP p1)))) rfl ?_
  refine EQ.valg rfl rfl (fun _ hw => (x_add rfl rfl (c := -8) (by rw [hsum]; rfl))) rfl ?_
  refine EQ.valg rfl rfl (fun _ hw => (x_eql rfl rfl (decide_eq_true rfl))) rfl ?_
  refine EQ.val (fun _ hw => (x_pick_t rfl rfl)) rfl ?_
  refine EQ.val (fun _ hw => (x_assign rfl)) rfl ?_
  refine EQ.fin (fun w14 hw_ => ?_)
  replace q2 := q2.below hw_ q2.lt
  replace q5 := q5.below hw_ q5.lt
  replace q7 := q7.below hw_ q7.lt
  replace q12 := q12.below hw_ q12.lt
  replace hbw := Below.on hbw hw_ hbw.size
  replace hT := Below.on hT hw_ hT.size
  replace hC := Below.on hC hw_ hC.size
  replace hP := Below.on hP hw_ hP.size
  clear hw_
  refine EX.seq ?_
  refine EC.ret ?_
  exact EX.done (res1 rfl rfl) ⟨rfl, hbw⟩
end Go.Proofs.Ytmaiiigijjfjfaa
namespace Go.Proofs.Ytmaiiigijjfjfaa
open Go Go.ChangeShapes Go.WideShapes Go.Deep Go.RowKit Go.Joins
theorem cell_spot {w : World} {x : Addr} {u : Value} (h : w.cell? x = some u) : x.spot = none ∧ x.block < w.heap.size := by
  unfold World.cell? at h
  split at h
  · rename_i c e f hg
    split at h
    · cases h
    · rename_i hs
      refine ⟨by simpa using hs, ?_⟩
      rcases Nat.lt_or_ge x.block w.heap.size with hlt | hge
      · exact hlt
      · rw [Array.getElem?_eq_none hge] at hg; cases hg
  · cases h
section
variable {H : Type} {enc : TypeId × Value → H} {P : Program} {w : World} {base : Nat} {spare : Nat → Bool} {held : Bool}
/-- rows of cells, one behind the other -/
theorem rd_of_cells {b off n c s : Nat} {B : Nat} (row : Nat → List Value) (hlen : ∀ i, (row i).length = s) (hs : 0 < s) (hB : b < B) (hnc : n ≤ c)
    (hcell : ∀ i, i < n → ∀ j u, (row i)[j]? = some u → w.cell? ⟨b, off + (i * s + j), none⟩ = some u) :
    Rd w B s (.slice (some ⟨b, off, none⟩) n c) n ((List.range n).flatMap row) := by
  refine ⟨by rw [flat_len hlen, List.length_range], _, _, rfl, hnc, fun _ => ⟨b, off, rfl, hB, fun q u hu => ?_⟩⟩
  have hq : q < n * s := by
    have := (List.getElem?_eq_some_iff.1 hu).1
    rwa [flat_len hlen, List.length_range] at this
  have hk : q / s < n := by
    rw [Nat.div_lt_iff_lt_mul hs]
    exact hq
  have e : q = q / s * s + q % s := by rw [Nat.mul_comm]; exact (Nat.div_add_mod q s).symm
  have hg := flat_get hlen (List.range n) (q / s) (by simpa using hk) (q % s) (Nat.mod_lt _ hs)
  rw [← e, List.getElem_range] at hg
  rw [hg] at hu
  have := hcell (q / s) hk (q % s) u hu
  rwa [← e] at this
theorem add_lit_more (x : Addr) (n : Nat) (h : x.spot = none) : x.add n = ⟨x.block, x.off + n, none⟩ := by
  obtain ⟨b, o, s⟩ := x
  subst h
  rw [Addr.add_lit]
/-- a slice, opened to its elements -/
theorem rd_list {α : Type} [Inhabited α] {f : α → List Value} {s : Nat} {Good : α → Prop} (hf : ∀ x, (f x).length = s) (hs : 0 < s) {t e : TypeId} {fuel : Nat} {v : Value} {x : DataW H × List MemPlace} (ht : P.underlying t = some (.slice e)) (hC : P.cellsOf e = s)
    (hE : ∀ (fuel : Nat) (cs : List Value) (x : DataW H × List MemPlace), cs.length = s → DataW.trod enc P w base spare held fuel e cs = some x → ∃ y : α, cs = f y ∧ Good y) (h : DataW.trod enc P w base spare held fuel t [v] = some x) :
    ∃ l : List α, Rd w w.heap.size s v l.length (l.flatMap f) ∧ (∀ y ∈ l, Good y) ∧ l.length ≤ maxLen := by
  rcases open_slice ht h with ⟨hcs, _⟩ | ⟨a, len, cap, m, n, D, Pl, hcs, _, hl, hcap, hm, _, hi⟩
  · injection hcs with hcs
    subst hcs
    exact ⟨[], Rd.nil_ _ _ _, by simp, Nat.zero_le _⟩
  · injection hcs with hcs
    subst hcs
    have hcell : ∀ i, i < len → ∃ y : α, (∀ j u, (f y)[j]? = some u → w.cell? (a.add (i * s + j)) = some u) ∧ Good y := by
      intro i hi'
      obtain ⟨cs', hc, ht'⟩ := hi i (by rw [hm]; split <;> omega)
      rw [hC] at hc
      obtain ⟨_, hcl, hat⟩ := World.cells?_some hc
      obtain ⟨y, hy, hg⟩ := hE _ cs' _ hcl ht'
      subst hy
      refine ⟨y, fun j u hu => ?_, hg⟩
      have hj : j < s := by
        have := (List.getElem?_eq_some_iff.1 hu).1
        rwa [hf] at this
      have h1 := hat j hj
      rw [Go.Deep.add_add] at h1
      rw [h1, hu]
    let pick : Nat → α := fun i => if h : i < len then Classical.choose (hcell i h) else default
    have hpick : ∀ i, (h : i < len) → (∀ j u, (f (pick i))[j]? = some u → w.cell? (a.add (i * s + j)) = some u) ∧ Good (pick i) := fun i h => by
      have := Classical.choose_spec (hcell i h)
      simp only [pick, dif_pos h]
      exact this
    refine ⟨(List.range len).map pick, ?_, ?_, by simp; omega⟩
    · rw [List.length_map, List.length_range]
      rcases Nat.eq_zero_or_pos len with hz | hz
      · subst hz
        exact ⟨by simp, _, _, rfl, hl, fun h => absurd h (by omega)⟩
      · have h0 := (hpick 0 hz).1 0 _ (List.getElem?_eq_getElem (by rw [hf]; exact hs))
        obtain ⟨hsp, hb⟩ := cell_spot h0
        have e0 : a.add (0 * s + 0) = a := by simp [Addr.add]
        rw [e0] at hsp hb
        have hx : a = ⟨a.block, a.off, none⟩ := by obtain ⟨b, o, s⟩ := a; subst hsp; rfl
        rw [hx, List.flatMap_map]
        refine rd_of_cells _ (fun i => hf _) hs hb hl fun i hi' j u hu => ?_
        have h1 := (hpick i hi').1 j u hu
        rw [add_lit_more a _ hsp] at h1
        exact h1
    · intro y hy
      obtain ⟨i, hi', rfl⟩ := List.mem_map.1 hy
      exact (hpick i (by simpa using hi')).2
theorem fld_of {fs : Array Field} {n : Nat} {cs : List Value} {ys : List (DataW H × List MemPlace)} (hf : ∀ (i : Nat) (f : Field), fs[i]? = some f → DataW.trod enc P w base spare held n f.type ((cs.drop f.offset).take (P.cellsOf f.type)) = ys[i]?)
    {j ft off z : Nat} {f : Field} (hj : fs[j]? = some f) (h1 : f.type = ft) (h2 : f.offset = off) (h3 : P.cellsOf ft = z) : DataW.trod enc P w base spare held n ft ((cs.drop off).take z) = ys[j]? := by
  subst h1 h2 h3
  exact hf j f hj
end
section
variable {H : Type} {enc : TypeId × Value → H} {w : World} {base : Nat} {spare : Nat → Bool} {held : Bool}
theorem co_3 : Try.prog.cellsOf 3 = 1 := by kernel_rfl
set_option maxRecDepth 100000 in
theorem cells_54 {fuel : Nat} {cs : List Value} {x : DataW H × List MemPlace} (hl : cs.length = 2) (h : DataW.trod enc Try.prog w base spare held fuel 54 cs = some x) : ∃ (z0 : Int) (z1 : Int), cs = [.int .i64 z0, .int .i64 z1] := by
  obtain ⟨ys, n, _, _, _, hyl, hf⟩ := DataW.trod_struct Try.underlying54 h
  match cs, hl with
  | [u0, u1], _ =>
    match ys, hyl with
    | [y0, y1], _ =>
      have q0 : DataW.trod enc Try.prog w base spare held n 3 [u0] = some y0 := fld_of hf (j := 0) rfl rfl rfl co_3
      obtain ⟨z0, hz0, _, _⟩ := DataW.trod_int Try.underlying3 q0
      injection hz0 with hz0
      subst hz0
      have q1 : DataW.trod enc Try.prog w base spare held n 3 [u1] = some y1 := fld_of hf (j := 1) rfl rfl rfl co_3
      obtain ⟨z1, hz1, _, _⟩ := DataW.trod_int Try.underlying3 q1
      injection hz1 with hz1
      subst hz1
      exact ⟨z0, z1, rfl⟩
theorem co_54 : Try.prog.cellsOf 54 = 2 := by kernel_rfl
theorem co_69 : Try.prog.cellsOf 69 = 1 := by kernel_rfl
set_option maxRecDepth 100000 in
theorem cells_71 {fuel : Nat} {cs : List Value} {x : DataW H × List MemPlace} (hl : cs.length = 6) (h : DataW.trod enc Try.prog w base spare held fuel 71 cs = some x) : ∃ (z0 : Int) (z1 : Int) (z2 : Int) (z3 : Int) (z4 : Int) (z5 : Int), cs = [.int .i64 z0, .int .i64 z1, .int .i64 z2, .int .i64 z3, .int .i64 z4, .int .i64 z5] := by
  obtain ⟨ys, n, _, _, _, hyl, hf⟩ := DataW.trod_struct Try.underlying71 h
  match cs, hl with
  | [u0, u1, u2, u3, u4, u5], _ =>
    match ys, hyl with
    | [y0, y1, y2, y3, y4], _ =>
      have q0 : DataW.trod enc Try.prog w base spare held n 69 [u0] = some y0 := fld_of hf (j := 0) rfl rfl rfl co_69
      obtain ⟨z0, hz0, _, _⟩ := DataW.trod_int Try.underlying69 q0
      injection hz0 with hz0
      subst hz0
      have q1 : DataW.trod enc Try.prog w base spare held n 3 [u1] = some y1 := fld_of hf (j := 1) rfl rfl rfl co_3
      obtain ⟨z1, hz1, _, _⟩ := DataW.trod_int Try.underlying3 q1
      injection hz1 with hz1
      subst hz1
      have q2 : DataW.trod enc Try.prog w base spare held n 3 [u2] = some y2 := fld_of hf (j := 2) rfl rfl rfl co_3
      obtain ⟨z2, hz2, _, _⟩ := DataW.trod_int Try.underlying3 q2
      injection hz2 with hz2
      subst hz2
      have q3 : DataW.trod enc Try.prog w base spare held n 3 [u3] = some y3 := fld_of hf (j := 3) rfl rfl rfl co_3
      obtain ⟨z3, hz3, _, _⟩ := DataW.trod_int Try.underlying3 q3
      injection hz3 with hz3
      subst hz3
      have q4 : DataW.trod enc Try.prog w base spare held n 54 [u4, u5] = some y4 := fld_of hf (j := 4) rfl rfl rfl co_54
      obtain ⟨a4, a5, e4⟩ := cells_54 rfl q4
      simp only [List.cons.injEq, and_true] at e4
      obtain ⟨rfl, rfl⟩ := e4
      exact ⟨z0, z1, z2, z3, a4, a5, rfl⟩
theorem co_71 : Try.prog.cellsOf 71 = 6 := by kernel_rfl
theorem co_72 : Try.prog.cellsOf 72 = 1 := by kernel_rfl
set_option maxRecDepth 100000 in
theorem cells_74 {fuel : Nat} {cs : List Value} {x : DataW H × List MemPlace} (hl : cs.length = 1) (h : DataW.trod enc Try.prog w base spare held fuel 74 cs = some x) : ∃ (v0 : Value), cs = [v0] ∧ (∃ n x, DataW.trod enc Try.prog w base spare held n 72 [v0] = some x) := by
  obtain ⟨ys, n, _, _, _, hyl, hf⟩ := DataW.trod_struct Try.underlying74 h
  match cs, hl with
  | [u0], _ =>
    match ys, hyl with
    | [y0], _ =>
      have q0 : DataW.trod enc Try.prog w base spare held n 72 [u0] = some y0 := fld_of hf (j := 0) rfl rfl rfl co_72
      exact ⟨u0, rfl, ⟨_, _, q0⟩⟩
theorem co_74 : Try.prog.cellsOf 74 = 1 := by kernel_rfl
theorem co_22 : Try.prog.cellsOf 22 = 1 := by kernel_rfl
theorem co_23 : Try.prog.cellsOf 23 = 1 := by kernel_rfl
set_option maxRecDepth 100000 in
theorem cells_25 {fuel : Nat} {cs : List Value} {x : DataW H × List MemPlace} (hl : cs.length = 3) (h : DataW.trod enc Try.prog w base spare held fuel 25 cs = some x) : ∃ (z0 : Int) (v1 : Value) (v2 : Value), cs = [.int .i64 z0, v1, v2] ∧ (∃ n x, DataW.trod enc Try.prog w base spare held n 22 [v1] = some x) ∧ (∃ n x, DataW.trod enc Try.prog w base spare held n 23 [v2] = some x) := by
  obtain ⟨ys, n, _, _, _, hyl, hf⟩ := DataW.trod_struct Try.underlying25 h
  match cs, hl with
  | [u0, u1, u2], _ =>
    match ys, hyl with
    | [y0, y1, y2], _ =>
      have q0 : DataW.trod enc Try.prog w base spare held n 3 [u0] = some y0 := fld_of hf (j := 0) rfl rfl rfl co_3
      obtain ⟨z0, hz0, _, _⟩ := DataW.trod_int Try.underlying3 q0
      injection hz0 with hz0
      subst hz0
      have q1 : DataW.trod enc Try.prog w base spare held n 22 [u1] = some y1 := fld_of hf (j := 1) rfl rfl rfl co_22
      have q2 : DataW.trod enc Try.prog w base spare held n 23 [u2] = some y2 := fld_of hf (j := 2) rfl rfl rfl co_23
      exact ⟨z0, u1, u2, rfl, ⟨_, _, q1⟩, ⟨_, _, q2⟩⟩
theorem co_25 : Try.prog.cellsOf 25 = 3 := by kernel_rfl
theorem cells_len_25 {fuel : Nat} {v : Value} {x : DataW H × List MemPlace} (h : DataW.trod enc Try.prog w base spare held fuel 25 v.cells.toList = some x) : v.cells.toList.length = 3 := by
  obtain ⟨_, _, _, _, hlen, _, _⟩ := DataW.trod_struct Try.underlying25 h
  rw [hlen]
  exact co_25
instance : Inhabited Bd := ⟨bd0⟩
instance : Inhabited Opt := ⟨opt0⟩
instance : Inhabited (List Opt × Value) := ⟨([], .slice none 0 0)⟩
theorem rd_bds {fuel : Nat} {v : Value} {x : DataW H × List MemPlace} (h : DataW.trod enc Try.prog w base spare held fuel 22 [v] = some x) : ∃ l : List Bd, Rd w w.heap.size 2 v l.length (bdsC l) ∧ l.length ≤ maxLen := by
  obtain ⟨l, h1, _, h2⟩ := rd_list (f := bdC) (Good := fun _ => True) bdC_len (by omega) Try.underlying22 co_54 (fun _ cs _ hl ht => by
    obtain ⟨a, b, rfl⟩ := cells_54 hl ht
    exact ⟨⟨a, b⟩, rfl, trivial⟩) h
  exact ⟨l, h1, h2⟩
theorem rd_opts {fuel : Nat} {v : Value} {x : DataW H × List MemPlace} (h : DataW.trod enc Try.prog w base spare held fuel 72 [v] = some x) : ∃ l : List Opt, Rd w w.heap.size 6 v l.length (optsC l) ∧ l.length ≤ maxLen := by
  obtain ⟨l, h1, _, h2⟩ := rd_list (f := optC) (Good := fun _ => True) optC_len (by omega) Try.underlying72 co_71 (fun _ cs _ hl ht => by
    obtain ⟨a, b, c, d, e, f, rfl⟩ := cells_71 hl ht
    exact ⟨⟨a, b, c, d, ⟨e, f⟩⟩, rfl, trivial⟩) h
  exact ⟨l, h1, h2⟩
theorem flat_snd {α β : Type} : ∀ l : List (α × β), l.flatMap (fun p => [p.2]) = l.map Prod.snd
  | [] => rfl
  | (a, b) :: l => by simp [flat_snd l]
theorem rd_clues {fuel : Nat} {v : Value} {x : DataW H × List MemPlace} (h : DataW.trod enc Try.prog w base spare held fuel 23 [v] = some x) : ∃ (l : List (List Opt)) (vs : List Value), RdLL optC 6 w w.heap.size v l vs ∧ l.length ≤ maxLen := by
  obtain ⟨l, h1, h3, h2⟩ := rd_list (α := List Opt × Value) (s := 1) (f := fun p => [p.2]) (Good := fun p => Rd w w.heap.size 6 p.2 p.1.length (optsC p.1) ∧ p.1.length ≤ maxLen) (fun _ => rfl) (by omega) Try.underlying23 co_74 (fun _ cs _ hl ht => by
    obtain ⟨u, rfl, _, _, hq⟩ := cells_74 hl ht
    obtain ⟨l, h1, h2⟩ := rd_opts hq
    exact ⟨(l, u), rfl, h1, h2⟩) h
  rw [flat_snd] at h1
  refine ⟨l.map Prod.fst, l.map Prod.snd, ⟨by simp, by simpa using h1, fun i hi => ?_⟩, by simpa using h2⟩
  have hi' : i < l.length := by simpa using hi
  have e1 : (l.map Prod.fst).getD i [] = l[i].1 := by simp [hi']
  have e2 : (l.map Prod.snd).getD i undef = l[i].2 := by simp [hi']
  rw [e1, e2]
  exact (h3 _ (List.getElem_mem hi')).1
theorem case_of {v : Value} {d : DataW H} {p : List MemPlace} (h : DataW.Trod enc Try.prog w base spare held 25 v d p) : ∃ (c : Case) (vc vl : Value) (vs : List Value), v = .agg #[.int .i64 c.events, vc, vl] ∧ RdCase w w.heap.size vc vl c vs ∧ c.clocks.length ≤ maxLen ∧ c.clues.length ≤ maxLen := by
  obtain ⟨fuel, hf⟩ := h
  obtain ⟨ev, a, b, he, ⟨_, _, ha⟩, ⟨_, _, hb⟩⟩ := cells_25 (cells_len_25 hf) hf
  obtain ⟨l, h1, h2⟩ := rd_bds ha
  obtain ⟨m, vs, h3, h4⟩ := rd_clues hb
  refine ⟨⟨ev, l, m⟩, a, b, vs, ?_, ⟨h1, h3⟩, h2, h4⟩
  cases v with
    | agg cs =>
      have : cs = #[.int .i64 ev, a, b] := by
        apply Array.ext'
        simpa [Value.cells] using he
      rw [this]
    | _ => simp [Value.cells] at he
end
section
variable {H : Type} {enc : TypeId × Value → H} {P : Program} {w : World} {base : Nat} {spare : Nat → Bool} {held : Bool}
theorem wf_u8 {n : Int} (h : (Lit.int .u8 n).wf = true) : 0 ≤ n ∧ n ≤ 255 := by
  simp [Lit.wf, IntKind.min, IntKind.max, IntKind.signed, IntKind.bits] at h
  omega
end
end Go.Proofs.Ytmaiiigijjfjfaa
set_option linter.unusedVariables false
set_option linter.unusedSimpArgs false
namespace Go.Proofs.Ytmaiiigijjfjfaa
open Go Go.RowKit
section
variable {n : Nat} {σ : Sg} {w : World} {dst : Option Tmp} {ty : TypeId} {pos : String} {af : Array Edge} {g : Option (Nat × Bool)} {x y z : Operand} {at' : Array TypeId}
theorem cl_11 {x0 : Operand} {v0 : Value} (h0 : evS σ x0 = some v0) (a : Act) (ha : Env n σ a) : (execOp a.eval ⟨dst, .call { callee := .value (.func 11), args := #[x0], argTypes := at' }, ty, pos, af, g⟩).run Try.prog w = .ok (.enter 11 #[v0]) w := by
  simp only [execOp, resolve, List.map_toArray, List.map_cons, List.map_nil, ha.eval h0]
  simp [go_sem, Act.eval]
theorem cl_12  (a : Act) (_ : Env n σ a) : (execOp a.eval ⟨dst, .call { callee := .value (.func 12), args := #[], argTypes := at' }, ty, pos, af, g⟩).run Try.prog w = .ok (.enter 12 #[]) w := by
  simp only [execOp, resolve, List.map_toArray, List.map_nil]
  simp [go_sem, Act.eval]
theorem cl_14 {x0 : Operand} {v0 : Value} (h0 : evS σ x0 = some v0) (a : Act) (ha : Env n σ a) : (execOp a.eval ⟨dst, .call { callee := .value (.func 14), args := #[x0], argTypes := at' }, ty, pos, af, g⟩).run Try.prog w = .ok (.enter 14 #[v0]) w := by
  simp only [execOp, resolve, List.map_toArray, List.map_cons, List.map_nil, ha.eval h0]
  simp [go_sem, Act.eval]
end
end Go.Proofs.Ytmaiiigijjfjfaa
set_option linter.unusedVariables false
set_option linter.unusedSimpArgs false
namespace Go.Proofs.Ytmaiiigijjfjfaa
open Go Go.RowKit
section
variable {n : Nat} {σ : Sg} {w : World} {dst : Option Tmp} {ty : TypeId} {t' : TypeId} {pos : String} {af : Array Edge} {g : Option (Nat × Bool)} {x y z : Operand}
end
theorem check_ok {c : Case} (hc : caseB c = true) (vc vl : Value) (vs : List Value) (w : World) (B : Nat) (hr : RdCase w B vc vl c vs) (hB : B ≤ w.heap.size) (hn1 : c.clocks.length ≤ 1073741824) (hn2 : c.clues.length ≤ 1073741824) :
    Calls Try.prog 25 #[.agg #[.int .i64 c.events, vc, vl]] w fun e w' => e = .returned (.int .i64 0) ∧ Below w.heap.size w w' := by
  have h := check_any c vc vl vs w B hr hB hn1 hn2
  rw [if_pos hc] at h
  exact h
theorem check_bad {c : Case} (hc : ¬caseB c = true) (vc vl : Value) (vs : List Value) (w : World) (B : Nat) (hr : RdCase w B vc vl c vs) (hB : B ≤ w.heap.size) (hn1 : c.clocks.length ≤ 1073741824) (hn2 : c.clues.length ≤ 1073741824) :
    Calls Try.prog 25 #[.agg #[.int .i64 c.events, vc, vl]] w fun e w' => e = .returned (.int .i64 2) ∧ Below w.heap.size w w' := by
  have h := check_any c vc vl vs w B hr hB hn1 hn2
  rw [if_neg hc] at h
  exact h
end Go.Proofs.Ytmaiiigijjfjfaa
set_option linter.unusedVariables false
set_option linter.unusedSimpArgs false
namespace Go.Proofs.Ytmaiiigijjfjfaa
open Go Go.RowKit
theorem mem_getD {α : Type} {l : List α} {x d : α} (h : x ∈ l) : ∃ j, j < l.length ∧ l.getD j d = x := by
  obtain ⟨j, hj, e⟩ := List.mem_iff_getElem.1 h
  exact ⟨j, hj, by simp [List.getD, hj, e]⟩
theorem lnk_iff {x y : Lnk} : x = y ↔ (((x.fr : Nat) : Int) = (y.fr : Nat) ∧ ((x.to : Nat) : Int) = (y.to : Nat) ∧ x.most = y.most) := by
  obtain ⟨a, b, m⟩ := x
  obtain ⟨p, q, n⟩ := y
  simp only [Lnk.mk.injEq]
  omega
instance (x y : Lnk) : Decidable (x = y) := decidable_of_iff' _ lnk_iff
end Go.Proofs.Ytmaiiigijjfjfaa
set_option linter.unusedVariables false
set_option linter.unusedSimpArgs false
namespace Go.Proofs.Ytmaiiigijjfjfaa
open Go Go.RowKit
/-- all links hold with these numbers -/
def FeasM (ls : List Lnk) (π : Nat → Int) : Prop := ∀ x ∈ ls, π x.to ≤ π x.fr + x.most
theorem feas_iff {ls : List Lnk} {π : Nat → Int} : Feas ls π ↔ FeasM ls π := by
  constructor
  · intro h x hx
    obtain ⟨j, hj, e⟩ := List.mem_iff_getElem.1 hx
    have := h j hj
    rw [show ls.getD j lnk0 = x by simp [List.getD, hj, e]] at this
    exact this
  · intro h k hk
    exact h _ (by rw [show ls.getD k lnk0 = ls[k] by simp [List.getD, hk]]; exact List.getElem_mem hk)
theorem ok_iff {c : Case} (hc : caseB c = true) {l : List Int} (hl : inCourseN c l) : okC c l = true ↔ ∃ π, FeasM (linksOf c l) π := by
  have hub := hub_of hc hl
  have hn : 0 < nOf c := by unfold nOf; omega
  constructor
  · intro h
    exact ⟨_, feas_iff.1 (feas_dist hub h hn)⟩
  · rintro ⟨π, h⟩
    exact ok_of_feas hub (feas_iff.2 h)
theorem ok_sub {c c' : Case} (hc : caseB c = true) (hc' : caseB c' = true) {l l' : List Int} (hl : inCourseN c l) (hl' : inCourseN c' l') (hs : ∀ x ∈ linksOf c' l', x ∈ linksOf c l) (h : okC c l = true) : okC c' l' = true := by
  obtain ⟨π, hp⟩ := (ok_iff hc hl).1 h
  exact (ok_iff hc' hl').2 ⟨π, fun x hx => hp x (hs x hx)⟩
theorem crsL_app {c : Case} {l : List Int} {y : Int} {i : Nat} (hi : i < l.length) : crsL c (l ++ [y]) i = crsL c l i := by
  unfold crsL
  rw [show (l ++ [y]).getD i 0 = l.getD i 0 by simp [List.getElem?_append, hi]]
theorem crsLinks_app {c : Case} {l : List Int} {y : Int} : crsLinks c (l ++ [y]) (l.length + 1) = crsLinks c l l.length ++ (if y < 0 then [] else optL c (optAt c l.length y)) := by
  unfold crsLinks
  rw [range_flat]
  congr 1
  · rw [List.flatMap_def, List.flatMap_def]
    congr 1
    exact List.map_congr_left fun i hi => crsL_app (List.mem_range.1 hi)
  · unfold crsL
    rw [show (l ++ [y]).getD l.length 0 = y by simp]
theorem linksOf_app {c : Case} {l : List Int} {y : Int} : linksOf c (l ++ [y]) = linksOf c l ++ (if y < 0 then [] else optL c (optAt c l.length y)) := by
  unfold linksOf
  rw [List.length_append, List.length_singleton, crsLinks_app, List.append_assoc, List.append_assoc, List.append_assoc]
theorem inCourseN_app {c : Case} {l : List Int} (h : inCourseN c l) {y : Int} (hp : l.length < c.clues.length) (hy : y < ((c.clues.getD l.length []).length : Nat)) : inCourseN c (l ++ [y]) := by
  refine ⟨by simp; omega, fun i hi => ?_⟩
  simp only [List.length_append, List.length_cons, List.length_nil] at hi
  by_cases e : i < l.length
  · rw [show (l ++ [y]).getD i 0 = l.getD i 0 by simp [List.getElem?_append, e]]
    exact h.2 i e
  · obtain rfl : i = l.length := by omega
    rw [show (l ++ [y]).getD l.length 0 = y by simp]
    exact hy
theorem inCourseN_nil (c : Case) : inCourseN c [] := ⟨Nat.zero_le _, fun i hi => absurd hi (by simp)⟩
theorem ok_less {c : Case} (hc : caseB c = true) {l : List Int} {y : Int} (hl : inCourseN c l) (hl' : inCourseN c (l ++ [y])) (h : okC c (l ++ [y]) = true) : okC c l = true :=
  ok_sub hc hc hl' hl (fun x hx => by rw [linksOf_app]; exact List.mem_append_left _ hx) h
/-! ### The reference's courses -/
/-- all possible courses that begin with some numbers, the clues of a set left out -/
def rcrs (c : Case) (s : Nat) : Nat → List Int → List (List Int)
  | 0, pre => if okC c pre = true then [pre] else []
  | d + 1, pre => if bitN s pre.length = true then rcrs c s d (pre ++ [-1]) else (List.range (optN c pre)).flatMap fun k => rcrs c s d (pre ++ [((k : Nat) : Int)])
theorem rcrs_last_no {c : Case} {s : Nat} {pre : List Int} (h : okC c pre = false) : rcrs c s 0 pre = [] := by simp [rcrs, h]
theorem rcrs_out {c : Case} {s d : Nat} {pre : List Int} (h : bitN s pre.length = true) : rcrs c s (d + 1) pre = rcrs c s d (pre ++ [-1]) := by simp [rcrs, h]
theorem rcrs_in {c : Case} {s d : Nat} {pre : List Int} (h : bitN s pre.length = false) : rcrs c s (d + 1) pre = (List.range (optN c pre)).flatMap fun k => rcrs c s d (pre ++ [((k : Nat) : Int)]) := by simp [rcrs, h]
theorem flat_nil {α : Type} {f : Nat → List α} : ∀ n, (∀ k, k < n → f k = []) → (List.range n).flatMap f = []
  | 0, _ => rfl
  | n + 1, h => by rw [range_flat, flat_nil n (fun k hk => h k (by omega)), h n (by omega)]; rfl
theorem flat_congr {α : Type} {f g : Nat → List α} : ∀ n, (∀ k, k < n → f k = g k) → (List.range n).flatMap f = (List.range n).flatMap g
  | 0, _ => rfl
  | n + 1, h => by rw [range_flat, range_flat, flat_congr n (fun k hk => h k (by omega)), h n (by omega)]
theorem rcrs_none {c : Case} (hc : caseB c = true) {s : Nat} : ∀ (d : Nat) (pre : List Int), pre.length + d = c.clues.length → inCourseN c pre → okC c pre = false → rcrs c s d pre = []
  | 0, pre, _, _, h => rcrs_last_no h
  | d + 1, pre, hl, hi, h => by
    have hp : pre.length < c.clues.length := by omega
    have key : ∀ y : Int, y < ((c.clues.getD pre.length []).length : Nat) → rcrs c s d (pre ++ [y]) = [] := fun y hy => by
      have h2 := inCourseN_app hi hp hy
      refine rcrs_none hc d _ (by simp; omega) h2 ?_
      cases e : okC c (pre ++ [y])
      · rfl
      · rw [ok_less hc hi h2 e] at h; cases h
    cases hb : bitN s pre.length
    · rw [rcrs_in hb]
      exact flat_nil _ fun k hk => key _ (by unfold optN at hk; omega)
    · rw [rcrs_out hb]
      exact key _ (by omega)
theorem rcrs_crs {c : Case} (hc : caseB c = true) : ∀ (d : Nat) (pre : List Int), pre.length + d = c.clues.length → inCourse c pre → rcrs c 0 d pre = crsP c d pre
  | 0, pre, _, hi => by
    unfold rcrs crsP
    rw [fits_okC hc hi.neg]
  | d + 1, pre, hl, hi => by
    cases hf : fitsS c pre
    · rw [crsP_bad hf]
      exact rcrs_none hc _ _ hl hi.neg (by rw [← fits_okC hc hi.neg]; exact hf)
    · rw [crsP_more hf, rcrs_in (bitN_zero _)]
      exact flat_congr _ fun k hk => rcrs_crs hc d _ (by simp; omega) (inCourse_more hi (by omega) hk)
theorem rcrs_courses {c : Case} (hc : caseB c = true) : rcrs c 0 c.clues.length [] = coursesL c := rcrs_crs hc _ _ (by simp) (inCourse_nil c)
end Go.Proofs.Ytmaiiigijjfjfaa
set_option linter.unusedVariables false
set_option linter.unusedSimpArgs false
namespace Go.Proofs.Ytmaiiigijjfjfaa
open Go Go.RowKit
/-- lists of integers in a list of one's own -/
structure OwnLL (W : World) (base : Nat) (v : Value) (L : List (List Int)) (fs : List Value) : Prop where
  len : fs.length = L.length
  own : W.ownsRow base 26 1 v L.length fs
  row : ∀ i, i < L.length → W.ownsRow 0 3 1 (fs.getD i undef) (L.getD i []).length (ints (L.getD i []))
section
variable {W W' : World} {base : Nat} {v : Value} {L : List (List Int)} {fs : List Value}
theorem OwnLL.nil {g : Nat} (hq : Blk W g 26 #[]) (hb : base ≤ g) : OwnLL W base (.slice (some ⟨g, 0, none⟩) 0 0) [] [] := ⟨rfl, own_empty 1 hq hb, fun i hi => absurd hi (by simp)⟩
theorem OwnLL.below (h : OwnLL W base v L fs) (hb : Below W.heap.size W W') : OwnLL W' base v L fs := ⟨h.len, own_below h.own hb (Nat.le_refl _), fun i hi => own_below (h.row i hi) hb (Nat.le_refl _)⟩
theorem OwnLL.rd (h : OwnLL W base v L fs) : RdLL iC 1 W W.heap.size v L fs := ⟨h.len, Rd.of_own h.own, fun i hi => by rw [← ints_flat]; exact Rd.of_own (h.row i hi)⟩
end
end Go.Proofs.Ytmaiiigijjfjfaa
set_option linter.unusedVariables false
set_option linter.unusedSimpArgs false
namespace Go.Proofs.Ytmaiiigijjfjfaa
open Go Go.RowKit
theorem courses_to {c : Case} {E : Int} {L : List (List Int)} (he : coursesErr c = E) (hL : crsRes c = L) (vc vl : Value) (vs : List Value) (w : World) (B : Nat) (hr : RdCase w B vc vl c vs) (hB : B ≤ w.heap.size) (hn1 : c.clocks.length ≤ 1073741824) (hn2 : c.clues.length ≤ 1073741824) :
    Calls Try.prog 21 #[.agg #[.int .i64 c.events, vc, vl]] w fun e w' => (∃ v vs', e = .returned (.tuple #[v, .int .i64 E]) ∧ RdLL iC 1 w' w'.heap.size v L vs') ∧ Below w.heap.size w w' := he ▸ hL ▸ courses_any c vc vl vs w B hr hB hn1 hn2
theorem crsRes_ok {c : Case} (h : coursesErr c = 0) : crsRes c = coursesL c := if_pos h
end Go.Proofs.Ytmaiiigijjfjfaa
set_option linter.unusedVariables false
set_option linter.unusedSimpArgs false
namespace Go.Proofs.Ytmaiiigijjfjfaa
open Go Go.RowKit
/-! ### One option for each clue -/
def partI (l : List Int) (i : Nat) : Int := if l.length = 0 then 0 else l.getD (i % l.length) 0
section
variable {c : Case} {b : List Int} {n : Nat}
end
section
variable {c : Case} {b : List Int} {r : List Lnk}
end
end Go.Proofs.Ytmaiiigijjfjfaa
set_option linter.unusedVariables false
set_option linter.unusedSimpArgs false
namespace Go.Proofs.Ytmaiiigijjfjfaa
open Go Go.RowKit
section
variable {n : Nat} {σ : Sg} {w : World} {dst : Option Tmp} {ty : TypeId} {pos : String} {af : Array Edge} {g : Option (Nat × Bool)} {x y z : Operand} {at' : Array TypeId}
theorem ln_63 {A : Option Addr} {m c : Nat} (hx : evS σ x = some (.slice A m c)) : Gives Try.prog n σ w ⟨dst, .call { callee := .builtin .len, args := #[x], argTypes := #[63] }, ty, pos, af, g⟩ (.int .i64 (m : Int)) := fun a ha => by
  simp only [execOp, resolve, List.map_toArray, List.map_cons, List.map_nil, ha.eval hx]
  simp [go_sem]
theorem ix_63 {b o m c k : Nat} (hx : evS σ x = some (.slice (some ⟨b, o, none⟩) m c)) (hy : evS σ y = some (.int .i64 (k : Int))) (hk : k < m) : Gives Try.prog n σ w ⟨dst, .indexAddr 63 x y, ty, pos, af, g⟩ (.pointer (some ⟨b, o + k, none⟩)) := fun a ha => by
  have k0 : (0 : Int) ≤ (k : Int) := Int.natCast_nonneg _
  have k1 : (k : Int) < (m : Int) := by omega
  simp only [execOp, ha.eval hx, ha.eval hy]
  simp [go_sem, k0, k1]
theorem ld_5 {b o : Nat} {v0 : Value} (hx : evS σ x = some (.pointer (some ⟨b, o, none⟩))) (c0 : w.cell? ⟨b, o, none⟩ = some v0) : Gives Try.prog n σ w ⟨dst, .load 5 x, ty, pos, af, g⟩ (v0) := fun a ha => by
  simp only [execOp, ha.eval hx]
  simp [go_sem, c0]
theorem cl_34 {x0 x1 : Operand} {v0 v1 : Value} (h0 : evS σ x0 = some v0) (h1 : evS σ x1 = some v1) (a : Act) (ha : Env n σ a) : (execOp a.eval ⟨dst, .call { callee := .value (.func 34), args := #[x0, x1], argTypes := at' }, ty, pos, af, g⟩).run Try.prog w = .ok (.enter 34 #[v0, v1]) w := by
  simp only [execOp, resolve, List.map_toArray, List.map_cons, List.map_nil, ha.eval h0, ha.eval h1]
  simp [go_sem, Act.eval]
theorem cv_5_3 {m : Int} (hx : evS σ x = some (.int .u8 m)) (hm : IntKind.i64.wrap m = m) : Gives Try.prog n σ w ⟨dst, .convert 5 3 x, ty, pos, af, g⟩ (.int .i64 m) := fun a ha => by
  simp only [execOp, ha.eval hx]
  simp [go_sem, hm]
end
end Go.Proofs.Ytmaiiigijjfjfaa
set_option linter.unusedVariables false
set_option linter.unusedSimpArgs false
namespace Go.Proofs.Ytmaiiigijjfjfaa
open Go Go.RowKit
def u8s (l : List Int) : List Value := l.map fun x => .int .u8 x
theorem part_any (l : List Int) (v : Value) (i : Nat) (w : World) (B : Nat) (hr : Rd w B 1 v l.length (u8s l)) (hn : l.length ≤ 9223372036854775807) :
    Calls Try.prog 34 #[v, .int .i64 (i : Nat)] w fun e w' => e = .returned (.int .u8 (partI l i)) ∧ Below w.heap.size w w' := by
  obtain ⟨A, c, rfl, _⟩ := hr.shape
  have hbw := Below.refl w.heap.size w
  refine EC.enter 15 Try.func34 rfl rfl rfl ?_
  refine EC.seq ?_
  refine EC.region ?_
  refine EL.val (x_assign rfl) rfl ?_
  refine EL.nil ?_
  refine EX.seq ?_
  refine EC.seq ?_
  refine EC.seq ?_
  refine EC.region ?_
  refine EL.val (x_move rfl) rfl ?_
  refine EL.val (ln_63 rfl) rfl ?_
  by_cases h0 : l.length = 0
  ·
    have hp : partI l i = 0 := by rw [partI, if_pos h0]
    refine EL.val (x_eql rfl rfl (by first | assumption | exact decide_eq_true (by omega))) rfl ?_
    refine EL.nil ?_
    refine EX.seq ?_
    refine EC.yes rfl ?_
    refine EC.seq ?_
    refine EC.region ?_
    refine EL.val (x_assign rfl) rfl ?_
    refine EL.nil ?_
    refine EX.seq ?_
    refine EC.ret ?_
    refine EX.seq_ret ?_
    exact EX.done (res1 rfl rfl) ⟨by rw [hp], hbw⟩
  ·
    have hk : i % l.length < l.length := Nat.mod_lt _ (by omega)
    have hp : partI l i = l.getD (i % l.length) 0 := by rw [partI, if_neg h0]
    obtain ⟨b, o, rfl, _, hc⟩ := hr.at_ (by omega)
    have c0 := hc (i % l.length) (.int .u8 (partI l i)) (by rw [hp]; simp [u8s, hk])
    refine EL.val (x_eql rfl rfl (by first | assumption | exact decide_eq_false (by omega))) rfl ?_
    refine EL.nil ?_
    refine EX.seq ?_
    refine EC.no rfl ?_
    refine EC.skip ?_
    refine EX.seq ?_
    refine EC.seq ?_
    refine EC.region ?_
    refine EL.val (x_move rfl) rfl ?_
    refine EL.val (x_move rfl) rfl ?_
    refine EL.val (x_move rfl) rfl ?_
    refine EL.val (ln_63 rfl) rfl ?_
    refine EL.val (x_rem rfl rfl (c := ((i % l.length : Nat) : Int)) (by omega) rfl) rfl ?_
    refine EL.val (ix_63 rfl rfl hk) rfl ?_
    refine EL.val (ld_5 rfl c0) rfl ?_
    refine EL.val (x_assign rfl) rfl ?_
    refine EL.nil ?_
    refine EX.seq ?_
    refine EC.ret ?_
    exact EX.done (res1 rfl rfl) ⟨rfl, hbw⟩
section
variable {P : Program} {n : Nat} {L : List Oper} {Q : Exit → Act → World → Prop} {rest : List Oper} {σ : Sg} {w : World}
end
theorem blk_type {w w' : World} {g k T T' : Nat} {cs cs' : Array Value} (h : Blk w g T cs) (hq : Blk w k T' cs') (hT : Nat.beq T' T = false) (hg : w.grownBy w' (some k)) : Blk w' g T cs := h.grown hg fun e => by
  injection e with e
  subst e
  unfold Blk at h hq
  rw [hq] at h
  injection h with h
  injection h with _ h
  subst h
  rw [Nat.beq_refl] at hT
  cases hT
theorem OwnClues.grown {W W' : World} {base base2 e2 size2 m : Nat} {vb u : Value} {l : List (List Opt)} {vs ys : List Value} (h : OwnClues W base vb l vs) (hu : W.ownsRow base2 e2 size2 u m ys) (h1 : Nat.beq e2 74 = false) (h2 : Nat.beq e2 71 = false) (hg : W.grownBy W' u.ownBlock) : OwnClues W' base vb l vs := ⟨h.len, own_grown h.own hu h1 hg, fun i hi => own_grown (h.row i hi) hu h2 hg, h.apart⟩
theorem part_bd {l : List Int} (h : ∀ y ∈ l, 0 ≤ y ∧ y ≤ 255) (i : Nat) : 0 ≤ partI l i ∧ partI l i ≤ 255 := by
  unfold partI
  by_cases h0 : l.length = 0
  · rw [if_pos h0]; omega
  · rw [if_neg h0]
    have hk : i % l.length < l.length := Nat.mod_lt _ (by omega)
    rw [show l.getD (i % l.length) 0 = l[i % l.length] by simp [List.getD, hk]]
    exact h _ (List.getElem_mem hk)
theorem part_mod {x : Int} {n : Nat} (h : 0 ≤ x) : x.tmod ((n : Nat) : Int) = ((x.toNat % n : Nat) : Int) := by
  obtain ⟨k, rfl⟩ : ∃ k : Nat, x = k := ⟨x.toNat, by omega⟩
  rfl
theorem rows_snoc {w : World} {B : Nat} {L : List (List Opt)} {fs : List Value} {v : Value} {l : List Opt} (hl : fs.length = L.length) (h : ∀ i, i < L.length → Rd w B 6 (fs.getD i undef) (L.getD i []).length (optsC (L.getD i []))) (hv : Rd w B 6 v l.length (optsC l)) : ∀ i, i < (L ++ [l]).length → Rd w B 6 ((fs ++ [v]).getD i undef) ((L ++ [l]).getD i []).length (optsC ((L ++ [l]).getD i [])) := fun i hi => by
  rw [getD_end, getD_end, hl]
  by_cases h1 : i < L.length
  · rw [if_pos h1, if_pos h1]
    exact h i h1
  · have h2 : i = L.length := by simp at hi; omega
    rw [if_neg h1, if_neg h1, if_pos h2, if_pos h2]
    exact hv
end Go.Proofs.Ytmaiiigijjfjfaa
namespace Go.Proofs.Ytmaiiigijjfjfaa
open Go Go.ChangeShapes Go.WideShapes Go.Deep Go.RowKit Go.Joins
section
variable {H : Type} {enc : TypeId × Value → H} {w : World} {base : Nat} {spare : Nat → Bool} {held : Bool}
theorem co_5 : Try.prog.cellsOf 5 = 1 := by kernel_rfl
theorem flat_u8s : ∀ l : List Int, l.flatMap (fun x => [Value.int .u8 x]) = u8s l
  | [] => rfl
  | x :: l => by
    have := flat_u8s l
    simp only [u8s, List.flatMap_cons, List.map_cons, List.singleton_append] at this ⊢
    rw [this]
theorem rd_u8s {fuel : Nat} {v : Value} {x : DataW H × List MemPlace} (h : DataW.trod enc Try.prog w base spare held fuel 63 [v] = some x) : ∃ l : List Int, Rd w w.heap.size 1 v l.length (u8s l) ∧ (∀ y ∈ l, 0 ≤ y ∧ y ≤ 255) ∧ l.length ≤ maxLen := by
  obtain ⟨l, h1, h3, h2⟩ := rd_list (α := Int) (s := 1) (f := fun x => [Value.int .u8 x]) (Good := fun x => 0 ≤ x ∧ x ≤ 255) (fun _ => rfl) (by omega) Try.underlying63 co_5 (fun _ cs _ hl ht => by
    match cs, hl with
    | [u], _ =>
      obtain ⟨z, hz, _, wf⟩ := DataW.trod_int Try.underlying5 ht
      injection hz with hz
      subst hz
      exact ⟨z, rfl, wf_u8 wf⟩) h
  rw [flat_u8s] at h1
  exact ⟨l, h1, h3, h2⟩
end
end Go.Proofs.Ytmaiiigijjfjfaa
set_option linter.unusedVariables false
set_option linter.unusedSimpArgs false
namespace Go.Proofs.Ytmaiiigijjfjfaa
open Go Go.RowKit
section
variable {ro : Option Nat} {k : Nat} {P : Program} {n : Nat} {ds : List Deferred} {σ τ : Sg} {w : World} {Q : Exit → Act → World → Prop} {L : List Oper} {rest : List Oper}
theorem ECI.loopD {c : Code} {ι : Type} (dl : List Nat) (vs : ι → List (Nat × Value)) (D : ι → List Deferred) (I : ι → World → Prop) (μ : ι → Nat) (i0 : ι) (h0 : I i0 w) (hs : AgreeS σ (vs i0)) (hd : ds = D i0)
    (round : ∀ i w, I i w → ECI ro k P n (D i) c (Exit.then (fun a' w' => ∃ i', EnvG n (D i') (insL (del σ dl) (vs i')) a' ∧ I i' w' ∧ μ i' < μ i) Q) (insL (del σ dl) (vs i)) w) : ECI ro k P n ds (.loop c) Q σ w := by
  intro a ha
  subst hd
  refine wpIn_loop_ghost (fun m a w => ∃ i, EnvG n (D i) (insL (del σ dl) (vs i)) a ∧ I i w ∧ μ i = m) (μ i0) ⟨i0, ha.sub (sub_insL ((Sub.refl σ).del dl) hs), h0, rfl⟩ fun m a w hI => ?_
  obtain ⟨i, h1, h2, rfl⟩ := hI
  refine wpIn_mono (round i w h2 a h1) fun e a' w' hq => ?_
  cases e with
  | normal =>
    obtain ⟨i', h4, h5, h6⟩ := hq
    exact ⟨μ i', h6, i', h4, h5, rfl⟩
  | _ => exact hq
theorem EXI.roundD {ι : Type} {σ0 : Sg} {dl : List Nat} {vs : ι → List (Nat × Value)} {D : ι → List Deferred} {I : ι → World → Prop} {μ : ι → Nat} {i : ι} (i' : ι) (hv : AgreeS σ (vs i')) (hs : Sub (del σ0 dl) σ) (hd : ds = D i') (hI : I i' w) (hm : μ i' < μ i) : EXI n ds (Exit.then (fun a' w' => ∃ i', EnvG n (D i') (insL (del σ0 dl) (vs i')) a' ∧ I i' w' ∧ μ i' < μ i) Q) .normal σ w :=
  fun _ ha => ⟨i', by subst hd; exact ha.sub (sub_insL hs hv), hI, hm⟩
end
/-! ### Appends and copies of any length that fits an address space -/
section
variable {P : Program} {w : World}
variable {n : Nat} {σ : Sg} {L : List Oper} {Q : Exit → Act → World → Prop} {rest : List Oper}
end
end Go.Proofs.Ytmaiiigijjfjfaa
set_option linter.unusedVariables false
set_option linter.unusedSimpArgs false
namespace Go.Proofs.Ytmaiiigijjfjfaa
open Go Go.RowKit
def withoutL (c : Case) (set : List Int) : Nat → List (List Opt)
  | 0 => []
  | k + 1 => withoutL c set k ++ (if ((k : Nat) : Int) ∈ set then [] else [c.clues.getD k []])
def withoutC (c : Case) (set : List Int) : Case := ⟨c.events, c.clocks, withoutL c set c.clues.length⟩
def hasC (c : Case) : Bool := !(coursesL c).isEmpty
section
variable {c : Case} {set : List Int}
theorem withoutL_len : ∀ k : Nat, (withoutL c set k).length ≤ k
  | 0 => by simp [withoutL]
  | k + 1 => by
    have := withoutL_len k
    rw [withoutL, List.length_append]
    split <;> simp <;> omega
theorem withoutL_each : ∀ k, ∀ x ∈ withoutL c set k, ∃ i, i < k ∧ x = c.clues.getD i []
  | 0, x, hx => by simp [withoutL] at hx
  | k + 1, x, hx => by
    rw [withoutL, List.mem_append] at hx
    rcases hx with h | h
    · obtain ⟨i, hi, e⟩ := withoutL_each k x h
      exact ⟨i, by omega, e⟩
    · split at h
      · cases h
      · exact ⟨k, by omega, List.mem_singleton.1 h⟩
theorem without_ok (hc : caseB c = true) : caseB (withoutC c set) = true := by
  have h20 := (caseB_ok hc).2.2.1
  have hcl : ∀ i, i < c.clues.length → clueB c (c.clues.getD i []) = true := fun i hi => by
    simp only [caseB, Bool.and_eq_true, decide_eq_true_eq] at hc
    rw [show c.clues.getD i [] = c.clues[i] by simp [List.getD, hi]]
    exact List.all_eq_true.1 hc.2.2.2.2 _ (List.getElem_mem hi)
  simp only [caseB, Bool.and_eq_true, decide_eq_true_eq] at hc ⊢
  refine ⟨hc.1, hc.2.1, Nat.le_trans (withoutL_len _) h20, hc.2.2.2.1, List.all_eq_true.2 fun x hx => ?_⟩
  obtain ⟨i, hi, rfl⟩ := withoutL_each _ x hx
  exact hcl i hi
theorem without_succ_in {k : Nat} (h : ((k : Nat) : Int) ∈ set) : withoutL c set (k + 1) = withoutL c set k := by simp [withoutL, h]
theorem without_succ_out {k : Nat} (h : ¬((k : Nat) : Int) ∈ set) : withoutL c set (k + 1) = withoutL c set k ++ [c.clues.getD k []] := by simp [withoutL, h]
end
/-! ### Sets -/
/-- the sets that begin with some numbers, d more of them, from a number on -/
def setsP (n : Nat) : Nat → List Int → Nat → List (List Int)
  | 0, pre, _ => [pre]
  | d + 1, pre, next => (List.range (n - next)).flatMap fun k => setsP n d (pre ++ [((next + k : Nat) : Int)]) (next + k + 1)
theorem setsP_len (n : Nat) : ∀ (d : Nat) (pre : List Int) (next : Nat), (setsP n d pre next).length ≤ 2 ^ (n - next)
  | 0, pre, next => by simp [setsP]; exact Nat.one_le_two_pow
  | d + 1, pre, next => by
    have h : ∀ m, m ≤ n - next → ((List.range m).flatMap fun k => setsP n d (pre ++ [((next + k : Nat) : Int)]) (next + k + 1)).length + 2 ^ (n - next - m) ≤ 2 ^ (n - next) := by
      intro m
      induction m with
      | zero => intro _; simp
      | succ m ih =>
        intro hm
        have h1 := ih (by omega)
        have h2 := setsP_len n d (pre ++ [((next + m : Nat) : Int)]) (next + m + 1)
        rw [range_flat, List.length_append]
        rw [show n - (next + m + 1) = n - next - (m + 1) by omega] at h2
        have h3 : 2 ^ (n - next - m) = 2 * 2 ^ (n - next - (m + 1)) := by
          rw [show n - next - m = (n - next - (m + 1)) + 1 by omega, Nat.pow_succ, Nat.mul_comm]
        omega
    have := h (n - next) (Nat.le_refl _)
    unfold setsP
    exact Nat.le_trans (Nat.le_add_right _ _) this
def hasW (c : Case) (set : List Int) : Bool := hasC (withoutC c set)
def wrongAt (c : Case) (m : Nat) : List (List Int) := (setsP c.clues.length m [] 0).filter (hasW c)
def wrongFrom (c : Case) : Nat → Nat → List (List Int)
  | 0, m => wrongAt c m
  | k + 1, m => if wrongAt c m = [] then wrongFrom c k (m + 1) else wrongAt c m
def wrongL (c : Case) : List (List Int) := wrongFrom c c.clues.length 0
theorem wrongFrom_is {c : Case} {m : Nat} (hne : wrongAt c m ≠ []) : ∀ (k j : Nat), j ≤ m → m ≤ j + k → (∀ i, j ≤ i → i < m → wrongAt c i = []) → wrongFrom c k j = wrongAt c m
  | 0, j, h1, h2, _ => by rw [show m = j by omega]; rfl
  | k + 1, j, h1, h2, h => by
    by_cases e : j = m
    · subst e
      rw [wrongFrom, if_neg hne]
    · rw [wrongFrom, if_pos (h j (Nat.le_refl _) (by omega))]
      exact wrongFrom_is hne k (j + 1) (by omega) (by omega) fun i hi => h i (by omega)
theorem wrong_is {c : Case} {m : Nat} (hne : wrongAt c m ≠ []) (hm : m ≤ c.clues.length) (h : ∀ i, i < m → wrongAt c i = []) : wrongL c = wrongAt c m :=
  wrongFrom_is hne _ 0 (Nat.zero_le _) (by omega) fun i _ => h i
theorem mem_flatR {α : Type} {f : Nat → List α} {n : Nat} {x : α} : x ∈ (List.range n).flatMap f ↔ ∃ i, i < n ∧ x ∈ f i := by
  simp [List.mem_flatMap]
theorem setsP_none (n : Nat) : ∀ (d : Nat) (pre : List Int) (next : Nat), next ≤ n → n < next + d → setsP n d pre next = []
  | 0, pre, next, h0, h => by omega
  | d + 1, pre, next, h0, h => by
    unfold setsP
    refine flat_nil _ fun k hk => setsP_none n d _ _ (by omega) (by omega)
theorem setsP_some (n : Nat) : ∀ (d : Nat) (pre : List Int) (next : Nat), next + d ≤ n → setsP n d pre next ≠ []
  | 0, pre, next, h => by simp [setsP]
  | d + 1, pre, next, h => by
    unfold setsP
    obtain ⟨y, hy⟩ := List.exists_mem_of_ne_nil _ (setsP_some n d (pre ++ [((next + 0 : Nat) : Int)]) (next + 0 + 1) (by omega))
    exact List.ne_nil_of_mem (mem_flatR.2 ⟨0, by omega, hy⟩)
/-! ### Without any clue a course is left -/
theorem base_ok {c : Case} (hc : caseB c = true) (hl : c.clues = []) : okC c [] = true := by
  obtain ⟨hev, h8, _, hck, _⟩ := caseB_ok hc
  refine (ok_iff hc (inCourseN_nil c)).2 ⟨fun v => if v ≤ c.events.toNat then 0 else -(c.clocks.getD (v - 1 - c.events.toNat) bd0).lo, fun x hx => ?_⟩
  unfold linksOf at hx
  rw [List.length_nil, crsLinks, List.range_zero, List.flatMap_nil, List.append_nil, List.mem_append] at hx
  rcases hx with h | h
  · unfold evLinks at h
    obtain ⟨i, hi, h⟩ := mem_flatR.1 h
    simp only [evL, List.mem_cons, List.not_mem_nil, or_false] at h
    rcases h with rfl | rfl
    · simp only [Nat.zero_le, if_true]
      rw [if_pos (by omega)]
      omega
    · simp only [Nat.zero_le, if_true]
      rw [if_pos (by omega)]
      omega
  · unfold clLinks at h
    obtain ⟨i, hi, h⟩ := mem_flatR.1 h
    have hb := bdOk_iff.1 (hck i hi)
    simp only [clL, List.mem_cons, List.not_mem_nil, or_false] at h
    rcases h with rfl | rfl
    · simp only [Nat.zero_le, if_true]
      rw [if_neg (by omega), show 1 + c.events.toNat + i - 1 - c.events.toNat = i by omega]
      omega
    · simp only [Nat.zero_le, if_true]
      rw [if_neg (by omega), show 1 + c.events.toNat + i - 1 - c.events.toNat = i by omega]
      omega
theorem setsP_all (n : Nat) : ∀ (d : Nat) (pre : List Int) (next : Nat), next + d = n → ∀ y ∈ setsP n d pre next, ∀ x : Int, (x ∈ pre ∨ ((next : Nat) : Int) ≤ x ∧ x < (n : Nat)) → x ∈ y
  | 0, pre, next, h, y, hy, x, hx => by
    simp only [setsP, List.mem_singleton] at hy
    subst hy
    rcases hx with h1 | h1
    · exact h1
    · omega
  | d + 1, pre, next, h, y, hy, x, hx => by
    unfold setsP at hy
    obtain ⟨k, hk, hy⟩ := mem_flatR.1 hy
    by_cases e : k = 0
    · subst e
      refine setsP_all n d _ _ (by omega) y hy x ?_
      rcases hx with h1 | ⟨h1, h2⟩
      · exact .inl (List.mem_append_left _ h1)
      · by_cases e2 : x = ((next : Nat) : Int)
        · subst e2; exact .inl (List.mem_append_right _ (by simp))
        · exact .inr ⟨by omega, h2⟩
    · have := setsP_none n d (pre ++ [((next + k : Nat) : Int)]) (next + k + 1) (by omega) (by omega)
      rw [this] at hy
      cases hy
theorem wrong_last {c : Case} (hc : caseB c = true) : wrongAt c c.clues.length ≠ [] := by
  have hne := setsP_some c.clues.length c.clues.length [] 0 (by omega)
  obtain ⟨y, hy⟩ := List.exists_mem_of_ne_nil _ hne
  have hall := setsP_all c.clues.length c.clues.length [] 0 (by omega) y hy
  refine List.ne_nil_of_mem (a := y) (List.mem_filter.2 ⟨hy, ?_⟩)
  have hw := without_ok (set := y) hc
  have he : (withoutC c y).clues = [] := by
    have : ∀ k, k ≤ c.clues.length → withoutL c y k = [] := by
      intro k
      induction k with
      | zero => intro _; rfl
      | succ k ih =>
        intro hk
        rw [without_succ_in (hall _ (.inr ⟨by omega, by omega⟩))]
        exact ih (by omega)
    exact this _ (Nat.le_refl _)
  have hf : fitsS (withoutC c y) [] = true := by
    rw [fits_okC hw (inCourseN_nil _)]
    exact base_ok hw he
  unfold hasW hasC coursesL
  rw [he, List.length_nil, crsP_last hf]
  rfl
end Go.Proofs.Ytmaiiigijjfjfaa
set_option linter.unusedVariables false
set_option linter.unusedSimpArgs false
namespace Go.Proofs.Ytmaiiigijjfjfaa
open Go Go.RowKit
section
variable {n : Nat} {σ : Sg} {w : World} {dst : Option Tmp} {ty : TypeId} {pos : String} {af : Array Edge} {g : Option (Nat × Bool)} {x y z : Operand} {at' : Array TypeId}
theorem cl_78 {x0 x1 : Operand} {v0 v1 : Value} (h0 : evS σ x0 = some v0) (h1 : evS σ x1 = some v1) (a : Act) (ha : Env n σ a) : (execOp a.eval ⟨dst, .call { callee := .value (.func 78), args := #[x0, x1], argTypes := at' }, ty, pos, af, g⟩).run Try.prog w = .ok (.enter 78 #[v0, v1]) w := by
  simp only [execOp, resolve, List.map_toArray, List.map_cons, List.map_nil, ha.eval h0, ha.eval h1]
  simp [go_sem, Act.eval]
theorem cl_76 {x0 x1 : Operand} {v0 v1 : Value} (h0 : evS σ x0 = some v0) (h1 : evS σ x1 = some v1) (a : Act) (ha : Env n σ a) : (execOp a.eval ⟨dst, .call { callee := .value (.func 76), args := #[x0, x1], argTypes := at' }, ty, pos, af, g⟩).run Try.prog w = .ok (.enter 76 #[v0, v1]) w := by
  simp only [execOp, resolve, List.map_toArray, List.map_cons, List.map_nil, ha.eval h0, ha.eval h1]
  simp [go_sem, Act.eval]
theorem ld_116 {b o : Nat} {v0 : Value} (hx : evS σ x = some (.pointer (some ⟨b, o, none⟩))) (c0 : w.cell? ⟨b, o, none⟩ = some v0) : Gives Try.prog n σ w ⟨dst, .load 116 x, ty, pos, af, g⟩ (v0) := fun a ha => by
  simp only [execOp, ha.eval hx]
  simp [go_sem, c0]
theorem clv_75_0_2_4 {xf x0 x1 : Operand} {v0 v1 p0 p1 p2 p3 : Value} (hf : evS σ xf = some (.func (.func 75) #[] #[p0, p1, p2, p3])) (h0 : evS σ x0 = some v0) (h1 : evS σ x1 = some v1) (a : Act) (ha : Env n σ a) : (execOp a.eval ⟨dst, .call { callee := .value xf, args := #[x0, x1], argTypes := at' }, ty, pos, af, g⟩).run Try.prog w = .ok (.enter 75 #[v0, v1, p0, p1, p2, p3]) w := by
  simp only [execOp, resolve, List.map_toArray, List.map_cons, List.map_nil, ha.eval hf, ha.eval h0, ha.eval h1]
  simp [go_sem, Deferred.ofValue]
end
end Go.Proofs.Ytmaiiigijjfjfaa
set_option linter.unusedVariables false
set_option linter.unusedSimpArgs false
namespace Go.Proofs.Ytmaiiigijjfjfaa
open Go Go.RowKit
theorem index_any (l : List Int) (y : Int) (v : Value) (w : World) (B : Nat) (hrl : Rd w B 1 v l.length (ints l)) (hl : l.length ≤ 1073741824) :
    Calls Try.prog 78 #[v, .int .i64 y] w fun e w' => (∃ r, e = .returned (.int .i64 r) ∧ (0 ≤ r ↔ y ∈ l)) ∧ Below w.heap.size w w' := by
  obtain ⟨Ai, ci_, rfl, _⟩ := hrl.shape
  have hbw := Below.refl w.heap.size w
  refine EC.enter 19 Try.func78 rfl rfl rfl ?_
  refine EC.seq ?_
  refine EC.region ?_
  refine EL.val (x_assign rfl) rfl ?_
  refine EL.nil ?_
  refine EX.seq ?_
  refine EC.seq ?_
  refine EC.seq ?_
  refine EC.region ?_
  refine EL.val (x_move rfl) rfl ?_
  refine EL.val (ln_26 rfl) rfl ?_
  refine EL.val (x_move rfl) rfl ?_
  refine EL.nil ?_
  refine EX.seq ?_
  refine EC.block ?_
  refine EC.loopD [4, 5, 8, 9, 10, 11, 12, 13, 14, 15, 16, 17, 18] (fun x : Nat => [(8, .int .i64 (x : Nat))]) (fun x W => x ≤ l.length ∧ (∀ j, j < x → l.getD j 0 ≠ y) ∧ Below w.heap.size w W) (fun x => l.length - x) 0 ⟨Nat.zero_le _, fun j hj => absurd hj (Nat.not_lt_zero _), hbw⟩ ⟨rfl, trivial⟩ ?_
  clear hbw
  rintro k wk ⟨hk, hno, hbw⟩
  by_cases hlt : k < l.length
  ·
    obtain ⟨b1, o1, e1_, _, c1⟩ := ints_cells l k hlt w _ _ _ _ hrl
    subst e1_
    refine EC.seq ?_
    refine EC.region ?_
    refine EL.val (x_lss rfl rfl (decide_eq_true (show (((k : Nat) : Int) < ((l.length : Nat) : Int)) by omega))) rfl ?_
    refine EL.nil ?_
    refine EX.seq ?_
    refine EC.seq ?_
    refine EC.yes rfl ?_
    refine EC.skip ?_
    refine EX.seq ?_
    refine EC.seq ?_
    refine EC.block ?_
    refine EC.seq ?_
    refine EC.region ?_
    refine EL.val (x_move rfl) rfl ?_
    refine EL.val (x_assign rfl) rfl ?_
    refine EL.nil ?_
    refine EX.seq ?_
    refine EC.seq ?_
    refine EC.region ?_
    refine EL.val (x_move rfl) rfl ?_
    refine EL.val (x_move rfl) rfl ?_
    refine EL.val (x_move rfl) rfl ?_
    refine EL.val (ix_26 rfl rfl hlt) rfl ?_
    refine EL.val (ld_3 rfl (below_load hbw c1)) rfl ?_
    by_cases he : y = l.getD k 0
    ·
      refine EL.val (x_eql rfl rfl (decide_eq_true he)) rfl ?_
      refine EL.nil ?_
      refine EX.seq ?_
      refine EC.yes rfl ?_
      refine EC.seq ?_
      refine EC.region ?_
      refine EL.val (x_move rfl) rfl ?_
      refine EL.val (x_assign rfl) rfl ?_
      refine EL.nil ?_
      refine EX.seq ?_
      refine EC.ret ?_
      refine EX.blk_ret ?_
      refine EX.seq_ret ?_
      refine EX.seq_ret ?_
      refine EX.blk_ret ?_
      refine EX.seq_ret ?_
      exact EX.done (res1 rfl rfl) ⟨⟨_, rfl, ⟨fun _ => by rw [he, show l.getD k 0 = l[k] by simp [List.getD, hlt]]; exact List.getElem_mem hlt, fun _ => by omega⟩⟩, hbw⟩
    ·
      refine EL.val (x_eql rfl rfl (decide_eq_false he)) rfl ?_
      refine EL.nil ?_
      refine EX.seq ?_
      refine EC.no rfl ?_
      refine EC.skip ?_
      refine EX.blk ?_
      refine EX.seq ?_
      refine EC.region ?_
      refine EL.val (x_add rfl rfl (c := ((k + 1 : Nat) : Int)) ((IntWalk.i64_in _ ⟨by first | omega | (simp only; omega), by first | omega | (simp only; omega)⟩).trans (by first | omega | (simp only; omega)))) rfl ?_
      refine EL.val (x_move rfl) rfl ?_
      refine EL.nil ?_
      refine EX.roundD (k + 1) ⟨rfl, trivial⟩ (by repeat first | with_reducible exact Sub.refl _ | refine sub_past rfl ?_ | exact Sub.refl _ | refine sub_del rfl ?_ | refine sub_insL_nil ?_) ⟨hlt, fun j hj => by by_cases e : j < k; (exact hno j e); (rw [show j = k by omega]; exact fun h => he h.symm), hbw⟩ (by omega)
  ·
    obtain rfl : k = l.length := by omega
    refine EC.seq ?_
    refine EC.region ?_
    refine EL.val (x_lss rfl rfl (decide_eq_false (show ¬(((l.length : Nat) : Int) < ((l.length : Nat) : Int)) by omega))) rfl ?_
    refine EL.nil ?_
    refine EX.seq ?_
    refine EC.seq ?_
    refine EC.no rfl ?_
    refine EC.exit ?_
    refine EX.seq_exit ?_
    refine EX.seq_exit ?_
    refine EX.blk_here ?_
    refine EX.seq ?_
    refine EC.seq ?_
    refine EC.region ?_
    refine EL.val (x_assign rfl) rfl ?_
    refine EL.nil ?_
    refine EX.seq ?_
    refine EC.ret ?_
    exact EX.done (res1 rfl rfl) ⟨⟨_, rfl, ⟨fun h => absurd h (by decide), fun h => by obtain ⟨j, hj, ej⟩ := mem_getD (d := 0) h; exact absurd ej (hno j hj)⟩⟩, hbw⟩
theorem contains_any {b : Bool} (l : List Int) (y : Int) (hb : decide (y ∈ l) = b) (v : Value) (w : World) (B : Nat) (hrl : Rd w B 1 v l.length (ints l)) (hB : B ≤ w.heap.size) (hl : l.length ≤ 1073741824) :
    Calls Try.prog 76 #[v, .int .i64 y] w fun e w' => e = .returned (.bool b) ∧ Below w.heap.size w w' := by
  obtain ⟨Ai, ci_, rfl, _⟩ := hrl.shape
  have hbw := Below.refl w.heap.size w
  refine EC.enter 9 Try.func76 rfl rfl rfl ?_
  refine EC.seq ?_
  refine EC.region ?_
  refine EL.val (x_assign rfl) rfl ?_
  refine EL.nil ?_
  refine EX.seq ?_
  refine EC.seq ?_
  refine EC.region ?_
  refine EL.val (x_move rfl) rfl ?_
  refine EL.val (x_move rfl) rfl ?_
  refine EL.call (cl_78 rfl rfl) rfl (index_any l y _ _ _ (hrl.below (hbw.mono hB)) hl) ?_
  rintro e w1 ⟨⟨ix, rfl, hix⟩, hc1⟩
  refine ⟨_, rfl, ?_⟩
  replace hbw := Below.on hbw hc1 hbw.size
  clear hc1
  refine EL.val (x_geq (r := b) rfl rfl ((decide_eq_decide.2 hix).trans hb)) rfl ?_
  refine EL.val (x_assign rfl) rfl ?_
  refine EL.nil ?_
  refine EX.seq ?_
  refine EC.ret ?_
  exact EX.done (res1 rfl rfl) ⟨rfl, hbw⟩
set_option maxHeartbeats 2000000 in
theorem without_any (c : Case) (vc vl : Value) (vs : List Value) (w : World) (B : Nat) (hr : RdCase w B vc vl c vs) (hB : B ≤ w.heap.size) (hn1 : c.clocks.length ≤ 1073741824) (hn2 : c.clues.length ≤ 1073741824) (set : List Int) (vs_ : Value) (hrs : Rd w w.heap.size 1 vs_ set.length (ints set)) (hls : set.length ≤ 1073741824) (h25 : c.clues.length ≤ 25) :
    Calls Try.prog 60 #[.agg #[.int .i64 c.events, vc, vl], vs_] w fun e w' => (∃ v ls, e = .returned (.agg #[.int .i64 c.events, vc, v]) ∧ RdCase w' w'.heap.size vc v (withoutC c set) ls) ∧ Below w.heap.size w w' := by
  obtain ⟨Ac, cc_, rfl, _⟩ := hr.clocks.shape
  obtain ⟨Al, cl_, rfl, _⟩ := hr.clues.rd.shape
  obtain ⟨As, cs_, rfl, _⟩ := hrs.shape
  have hbw := Below.refl w.heap.size w
  refine EC.enter 28 Try.func60 rfl rfl rfl ?_
  refine EC.seq ?_
  refine EC.region ?_
  refine EL.newP (bx_25 rfl) rfl ?_
  intro g1 w1 q1 hb1 hg1 hl1
  have bhbw_1 := Nat.le_trans hbw.size hg1
  replace hbw := Below.on hbw hb1 hbw.size
  clear hb1 hg1 hl1
  refine EL.newP al_25 rfl ?_
  intro g2 w2 q2 hb2 hg2 hl2
  have n1_2 : g1 ≠ g2 := Nat.ne_of_lt (Nat.lt_of_lt_of_le q1.lt hg2)
  have bhbw_2 := Nat.le_trans hbw.size hg2
  replace q1 := q1.below hb2 q1.lt
  replace hbw := Below.on hbw hb2 hbw.size
  clear hb2 hg2 hl2
  refine EL.nil ?_
  refine EX.seq ?_
  refine EC.seq ?_
  refine EC.region ?_
  refine EL.val (x_assign rfl) rfl ?_
  refine EL.nil ?_
  refine EX.seq ?_
  refine EC.seq ?_
  refine EC.seq ?_
  refine EC.region ?_
  refine EL.val (fa_25_2 rfl) rfl ?_
  refine EL.val (ld_23 rfl (q1.at (j := 2) rfl)) rfl ?_
  refine EL.val (ln_23 rfl) rfl ?_
  refine EL.val (x_move rfl) rfl ?_
  refine EL.nil ?_
  refine EX.seq ?_
  refine EC.block ?_
  have hg2 : w.heap.size ≤ g1 := bhbw_1
  have hg4 : w.heap.size ≤ g2 := bhbw_2
  have n24 := n1_2
  refine EC.loopD [5, 6, 7, 11, 12, 13, 14, 15, 16, 17, 18, 19, 20, 21, 22, 23, 24] (fun x : Nat × Value × List Value => [(5, x.2.1), (11, .int .i64 (x.1 : Nat))]) (fun x W => x.1 ≤ c.clues.length ∧ Blk W g1 25 #[.int .i64 c.events, .slice Ac c.clocks.length cc_, .slice Al c.clues.length cl_] ∧ Blk W g2 25 #[.int .i64 0, .slice none 0 0, .slice none 0 0] ∧ W.ownsRow w.heap.size 74 1 x.2.1 (withoutL c set x.1).length x.2.2 ∧ x.2.2.length = (withoutL c set x.1).length ∧ (∀ i, i < (withoutL c set x.1).length → Rd w B 6 (x.2.2.getD i undef) ((withoutL c set x.1).getD i []).length (optsC ((withoutL c set x.1).getD i []))) ∧ Below w.heap.size w W) (fun x => c.clues.length - x.1) (0, .slice none 0 0, []) ⟨Nat.zero_le _, q1, q2, ⟨rfl, .inl ⟨rfl, rfl⟩⟩, rfl, fun i hi => absurd hi (by simp [withoutL]), hbw⟩ ⟨rfl, rfl, trivial⟩ ?_
  clear q1 q2 hbw
  rintro ⟨x, vl, ls⟩ wx ⟨hx, q2x, q4x, hol, hll, hlr, hbw⟩
  dsimp only at hx hol hll hlr
  have hlk := withoutL_len (c := c) (set := set) x
  obtain ⟨AY, cY, eY, _⟩ := (Rd.of_own hol).shape
  subst eY
  by_cases hlt : x < c.clues.length
  ·
    obtain ⟨bl, ol, e_, _, hcell⟩ := rdll_cell hr.clues x hlt
    subst e_
    have hrow := hr.clues.row x hlt
    have hrow0 := hrow
    obtain ⟨Ao, co, eo, _⟩ := hrow.shape
    rw [eo] at hcell hrow
    have hbx := Below.refl wx.heap.size wx
    have hltl := fun k hk => (hol.lt k hk).2
    refine EC.seq ?_
    refine EC.region ?_
    refine EL.val (x_lss rfl rfl (decide_eq_true (show (((x : Nat) : Int) < ((c.clues.length : Nat) : Int)) by omega))) rfl ?_
    refine EL.nil ?_
    refine EX.seq ?_
    refine EC.seq ?_
    refine EC.yes rfl ?_
    refine EC.skip ?_
    refine EX.seq ?_
    refine EC.seq ?_
    refine EC.block ?_
    refine EC.seq ?_
    refine EC.region ?_
    refine EL.val (x_move rfl) rfl ?_
    refine EL.val (ix_23 rfl rfl hlt) rfl ?_
    refine EL.val (ld_74 rfl (below_load hbw hcell)) rfl ?_
    refine EL.newP al_74 rfl ?_
    intro g3 w3 q3 hb3 hg3 hl3
    have n1_3 : g1 ≠ g3 := Nat.ne_of_lt (Nat.lt_of_lt_of_le q2x.lt hg3)
    have n2_3 : g2 ≠ g3 := Nat.ne_of_lt (Nat.lt_of_lt_of_le q4x.lt hg3)
    have bhbw_3 := Nat.le_trans hbw.size hg3
    have bhbx_3 := Nat.le_trans hbx.size hg3
    replace q2x := q2x.below hb3 q2x.lt
    replace q4x := q4x.below hb3 q4x.lt
    replace hol := own_below hol hb3 (Nat.le_refl _)
    replace hbw := Below.on hbw hb3 hbw.size
    replace hbx := Below.on hbx hb3 hbx.size
    clear hb3 hg3 hl3
    refine EL.val (x_assign rfl) rfl ?_
    refine EL.store rfl rfl q3 sz_74 rfl rfl rfl rfl ?_
    intro w4 hq4 hg4
    replace q2x := q2x.grown hg4 (fun h => n1_3 (Option.some.inj h))
    replace q4x := q4x.grown hg4 (fun h => n2_3 (Option.some.inj h))
    replace hol := own_old hol hg4 (fun k hk => by have h1 := hltl k hk; have h2 := bhbx_3; omega)
    replace hbw := below_store hbw hg4 bhbw_3
    replace hbx := below_store hbx hg4 bhbx_3
    replace q3 := hq4
    clear hg4 hq4
    refine EL.nil ?_
    refine EX.seq ?_
    refine EC.seq ?_
    refine EC.region ?_
    refine EL.val (x_move rfl) rfl ?_
    refine EL.val (x_move rfl) rfl ?_
    cases hin : decide (((x : Nat) : Int) ∈ set)
    ·
      have hsc := without_succ_out (c := c) (set := set) (k := x) (of_decide_eq_false hin)
      refine EL.call (cl_76 rfl rfl) rfl (contains_any set ((x : Nat) : Int) hin _ _ w.heap.size (hrs.below hbw) hbw.size hls) ?_
      rintro e w5 ⟨rfl, hc5⟩
      refine ⟨_, rfl, ?_⟩
      replace q2x := q2x.below hc5 q2x.lt
      replace q4x := q4x.below hc5 q4x.lt
      replace q3 := q3.below hc5 q3.lt
      replace hol := own_below hol hc5 (Nat.le_refl _)
      replace hbw := Below.on hbw hc5 hbw.size
      replace hbx := Below.on hbx hc5 hbx.size
      clear hc5
      refine EL.val (x_not rfl) rfl ?_
      refine EL.nil ?_
      refine EX.seq ?_
      refine EC.yes rfl ?_
      refine EC.region ?_
      refine EL.val (x_move rfl) rfl ?_
      refine EL.val (ld_74 rfl (q3.at (j := 0) rfl)) rfl ?_
      refine EL.newS (bs_23_1 rfl) rfl ?_
      intro g6 w6 q6 hb6 hg6 hl6
      have n1_6 : g1 ≠ g6 := Nat.ne_of_lt (Nat.lt_of_lt_of_le q2x.lt hg6)
      have n2_6 : g2 ≠ g6 := Nat.ne_of_lt (Nat.lt_of_lt_of_le q4x.lt hg6)
      have n3_6 : g3 ≠ g6 := Nat.ne_of_lt (Nat.lt_of_lt_of_le q3.lt hg6)
      have bhbw_6 := Nat.le_trans hbw.size hg6
      have bhbx_6 := Nat.le_trans hbx.size hg6
      replace q2x := q2x.below hb6 q2x.lt
      replace q4x := q4x.below hb6 q4x.lt
      replace q3 := q3.below hb6 q3.lt
      replace hol := own_below hol hb6 (Nat.le_refl _)
      replace hbw := Below.on hbw hb6 hbw.size
      replace hbx := Below.on hbx hb6 hbx.size
      clear hb6 hg6 hl6
      refine EL.push clue_elem rfl rfl hol (rd_one (l := [.slice Ao (c.clues.getD x []).length co]) q6 rfl) (by intro u hu; rw [List.mem_singleton.1 hu]; rfl) (by omega) rfl hbw.size rfl ?_
      intro v2 wp ho2 hgr hb2 _
      replace q2x := blk_grown q2x hol rfl hgr
      replace q4x := blk_grown q4x hol rfl hgr
      replace hbw := hbw.trans hb2
      clear hol
      refine EL.val (x_assign rfl) rfl ?_
      refine EL.nil ?_
      refine EX.blk ?_
      refine EX.seq ?_
      refine EC.region ?_
      refine EL.val (x_add rfl rfl (c := ((x + 1 : Nat) : Int)) ((IntWalk.i64_in _ ⟨by first | omega | (simp only; omega), by first | omega | (simp only; omega)⟩).trans (by first | omega | (simp only; omega)))) rfl ?_
      refine EL.val (x_move rfl) rfl ?_
      refine EL.nil ?_
      refine EX.roundD (x + 1, _, ls ++ [_]) ⟨rfl, rfl, trivial⟩ (by repeat first | with_reducible exact Sub.refl _ | refine sub_past rfl ?_ | exact Sub.refl _ | refine sub_del rfl ?_ | refine sub_insL_nil ?_) ⟨hlt, q2x, q4x, by rw [hsc, List.length_append]; exact ho2, by rw [hsc, List.length_append, List.length_append, hll]; rfl, by rw [hsc]; exact rows_snoc hll hlr hrow, hbw⟩ (by simp only; omega)
    ·
      have hsc := without_succ_in (c := c) (set := set) (k := x) (of_decide_eq_true hin)
      refine EL.call (cl_76 rfl rfl) rfl (contains_any set ((x : Nat) : Int) hin _ _ w.heap.size (hrs.below hbw) hbw.size hls) ?_
      rintro e w7 ⟨rfl, hc7⟩
      refine ⟨_, rfl, ?_⟩
      replace q2x := q2x.below hc7 q2x.lt
      replace q4x := q4x.below hc7 q4x.lt
      replace q3 := q3.below hc7 q3.lt
      replace hol := own_below hol hc7 (Nat.le_refl _)
      replace hbw := Below.on hbw hc7 hbw.size
      replace hbx := Below.on hbx hc7 hbx.size
      clear hc7
      refine EL.val (x_not rfl) rfl ?_
      refine EL.nil ?_
      refine EX.seq ?_
      refine EC.no rfl ?_
      refine EC.skip ?_
      refine EX.blk ?_
      refine EX.seq ?_
      refine EC.region ?_
      refine EL.val (x_add rfl rfl (c := ((x + 1 : Nat) : Int)) ((IntWalk.i64_in _ ⟨by first | omega | (simp only; omega), by first | omega | (simp only; omega)⟩).trans (by first | omega | (simp only; omega)))) rfl ?_
      refine EL.val (x_move rfl) rfl ?_
      refine EL.nil ?_
      refine EX.roundD (x + 1, _, ls) ⟨rfl, rfl, trivial⟩ (by repeat first | with_reducible exact Sub.refl _ | refine sub_past rfl ?_ | exact Sub.refl _ | refine sub_del rfl ?_ | refine sub_insL_nil ?_) ⟨hlt, q2x, q4x, by rw [hsc]; exact hol, by rw [hsc]; exact hll, by rw [hsc]; exact hlr, hbw⟩ (by simp only; omega)
  ·
    have hxn : x = c.clues.length := by omega
    subst hxn
    have hrW : RdCase wx wx.heap.size (.slice Ac c.clocks.length cc_) (.slice AY (withoutL c set c.clues.length).length cY) (withoutC c set) ls := ⟨(hr.clocks.below (hbw.mono hB)).more (Nat.le_trans hB hbw.size), hll, Rd.of_own hol, fun i hi => ((hlr i hi).below (hbw.mono hB)).more (Nat.le_trans hB hbw.size)⟩
    have hwx := hbw.size
    have hb1 := Below.refl wx.heap.size wx
    refine EC.seq ?_
    refine EC.region ?_
    refine EL.val (x_lss rfl rfl (decide_eq_false (show ¬(((c.clues.length : Nat) : Int) < ((c.clues.length : Nat) : Int)) by omega))) rfl ?_
    refine EL.nil ?_
    refine EX.seq ?_
    refine EC.seq ?_
    refine EC.no rfl ?_
    refine EC.exit ?_
    refine EX.seq_exit ?_
    refine EX.seq_exit ?_
    refine EX.blk_here ?_
    refine EX.seq ?_
    refine EC.seq ?_
    refine EC.region ?_
    refine EL.val (x_move rfl) rfl ?_
    refine EL.val (fa_25_2 rfl) rfl ?_
    refine EL.store rfl rfl q2x sz_23 rfl rfl rfl rfl ?_
    intro w8 hq8 hg8
    replace q4x := q4x.grown hg8 (fun h => n1_2.symm (Option.some.inj h))
    replace hol := own_type hol q2x rfl hg8
    replace hbw := below_store hbw hg8 bhbw_1
    replace q2x := hq8
    clear hg8 hq8
    refine EL.nil ?_
    refine EX.seq ?_
    refine EC.seq ?_
    refine EC.region ?_
    refine EL.val (ld_25 rfl (q2x.at (j := 0) rfl) (q2x.at (j := 1) rfl) (q2x.at (j := 2) rfl)) rfl ?_
    refine EL.store rfl rfl q4x sz_25 rfl rfl rfl rfl ?_
    intro w9 hq9 hg9
    replace q2x := q2x.grown hg9 (fun h => n1_2 (Option.some.inj h))
    replace hol := own_type hol q4x rfl hg9
    replace hbw := below_store hbw hg9 bhbw_2
    replace q4x := hq9
    clear hg9 hq9
    refine EL.nil ?_
    refine EX.seq ?_
    refine EC.ret ?_
    exact EX.done (resc1 rfl rfl (lv_25 (q4x.at (j := 0) rfl) (q4x.at (j := 1) rfl) (q4x.at (j := 2) rfl))) ⟨⟨_, ls, rfl, ⟨(hr.clocks.below (hbw.mono hB)).more (Nat.le_trans hB hbw.size), hll, Rd.of_own hol, fun i hi => ((hlr i hi).below (hbw.mono hB)).more (Nat.le_trans hB hbw.size)⟩⟩, hbw⟩
/-- what the inner function of sets reads -/
structure AtS (N m n0 gm gy go gf l : Nat) (W : World) : Prop where
  m : Blk W gm 3 #[.int .i64 (m : Nat)]
  y : Blk W gy 111 #[.func (.yield l) #[] #[]]
  o : Blk W go 3 #[.int .i64 (N : Nat)]
  f : Blk W gf 116 #[.func (.func 75) #[] #[.pointer (some ⟨gm, 0, none⟩), .pointer (some ⟨gy, 0, none⟩), .pointer (some ⟨go, 0, none⟩), .pointer (some ⟨gf, 0, none⟩)]]
  n0 : n0 ≤ W.heap.size
theorem AtS.keep {N m n0 gm gy go gf l : Nat} {W W' : World} {S : List Nat} (h : AtS N m n0 gm gy go gf l W) (h1 : memB S 116 = false) (h2 : memB S 111 = false) (h3 : memB S 3 = false) (hk : Kp n0 S W W') : AtS N m n0 gm gy go gf l W' :=
  ⟨hk.blk _ _ _ h.m h3, hk.blk _ _ _ h.y h2, hk.blk _ _ _ h.o h3, hk.blk _ _ _ h.f h1, Nat.le_trans h.n0 hk.size⟩
theorem AtS.below {N m n0 gm gy go gf l : Nat} {W W' : World} (h : AtS N m n0 gm gy go gf l W) (hb : Below W.heap.size W W') : AtS N m n0 gm gy go gf l W' := h.keep (S := []) rfl rfl rfl (Kp.of_below hb h.n0)
set_option maxHeartbeats 1000000 in
theorem setsF_last (N m : Nat) (n0 gm gy go gf l : Nat) (S : List Nat) (J Jx : List It → World → Prop) (all : List (List Int)) (hN : N ≤ 1000) (hS1 : memB S 116 = false) (hS2 : memB S 111 = false) (hS3 : memB S 3 = false) (hJ : Stays J) (hJx : Stays Jx)
    (hY : ∀ pre x W1, okRow x W1 → J pre W1 → (pre ++ [x]).map (·.1) <+: all → YieldW Try.prog l #[x.2] W1 (RoundAns n0 S J Jx (pre ++ [x]) W1))
    (pre : List Int) (v : Value) (nx : Nat) (xs : List It) (W : World) (hd : pre.length + 0 = m) (hnx : nx ≤ N) (hpl : pre.length ≤ nx) (hAt : AtS N m n0 gm gy go gf l W) (ho : W.ownsRow 0 3 1 v pre.length (ints pre)) (hJ0 : J xs W) (hpx : xs.map (·.1) ++ setsP N 0 pre nx <+: all) : Calls Try.prog 75 #[v, .int .i64 (nx : Nat), .pointer (some ⟨gm, 0, none⟩), .pointer (some ⟨gy, 0, none⟩), .pointer (some ⟨go, 0, none⟩), .pointer (some ⟨gf, 0, none⟩)] W fun e W' => Kp n0 S W W' ∧ ((e = .returned (.bool true) ∧ ∃ ys : List It, ys.map (·.1) = setsP N 0 pre nx ∧ J (xs ++ ys) W') ∨ (e = .returned (.bool false) ∧ ∃ ys : List It, ys ≠ [] ∧ ys.map (·.1) <+: setsP N 0 pre nx ∧ Jx (xs ++ ys) W')) := by
  obtain ⟨Ai, ci_, rfl, _⟩ := (Rd.of_own ho).shape
  have hkp := Kp.refl n0 S W
  refine EC.enter 33 Try.func75 rfl rfl rfl ?_
  refine EC.seq ?_
  refine EC.region ?_
  refine EL.val (x_assign rfl) rfl ?_
  refine EL.nil ?_
  refine EX.seq ?_
  refine EC.seq ?_
  refine EC.seq ?_
  refine EC.region ?_
  refine EL.val (x_move rfl) rfl ?_
  refine EL.val (ln_26 rfl) rfl ?_
  refine EL.val (ld_3 rfl (hAt.m.at (j := 0) rfl)) rfl ?_
  refine EL.val (x_eql rfl rfl (decide_eq_true (show ((pre.length : Nat) : Int) = ((m : Nat) : Int) by omega))) rfl ?_
  refine EL.nil ?_
  refine EX.seq ?_
  refine EC.yes rfl ?_
  refine EC.seq ?_
  refine EC.inn (k := 0) ?_
  refine ECI.region ?_
  refine ELI.val (ld_111 rfl (hAt.y.at (j := 0) rfl)) rfl ?_
  refine ELI.val (x_move rfl) rfl ?_
  obtain ⟨fn_, tmps_, assign_, body_, hi_, hR_⟩ := hY xs (pre, _) _ ho hJ0 (by rw [List.map_append]; exact hpx)
  refine ELI.yield rfl rfl rfl hi_ hR_ ?_
  rintro e wy ⟨hky, ⟨rfl, hJy⟩ | ⟨rfl, hJy⟩⟩
  ·
    refine ⟨_, rfl, ?_⟩
    refine ELI.val (x_assign rfl) rfl ?_
    refine ELI.nil ?_
    refine EXI.of ?_
    replace hkp := hkp.trans hky
    refine EX.seq ?_
    refine EC.ret ?_
    refine EX.seq_ret ?_
    exact EX.done (res1 rfl rfl) ⟨hkp, .inl ⟨rfl, [(pre, _)], rfl, hJy⟩⟩
  ·
    refine ⟨_, rfl, ?_⟩
    refine ELI.val (x_assign rfl) rfl ?_
    refine ELI.nil ?_
    refine EXI.of ?_
    replace hkp := hkp.trans hky
    refine EX.seq ?_
    refine EC.ret ?_
    refine EX.seq_ret ?_
    exact EX.done (res1 rfl rfl) ⟨hkp, .inr ⟨rfl, [(pre, _)], by simp, List.prefix_rfl, hJy⟩⟩
set_option maxHeartbeats 2000000 in
set_option maxRecDepth 100000 in
theorem setsF_more (N m : Nat) (n0 gm gy go gf l : Nat) (S : List Nat) (J Jx : List It → World → Prop) (all : List (List Int)) (hN : N ≤ 1000) (hS1 : memB S 116 = false) (hS2 : memB S 111 = false) (hS3 : memB S 3 = false) (hJ : Stays J) (hJx : Stays Jx)
    (hY : ∀ pre x W1, okRow x W1 → J pre W1 → (pre ++ [x]).map (·.1) <+: all → YieldW Try.prog l #[x.2] W1 (RoundAns n0 S J Jx (pre ++ [x]) W1))
    (d : Nat) (hI : ∀ (pre : List Int) (v : Value) (nx : Nat) (xs : List It) (W : World), pre.length + d = m → nx ≤ N → pre.length ≤ nx → AtS N m n0 gm gy go gf l W → W.ownsRow 0 3 1 v pre.length (ints pre) → J xs W → xs.map (·.1) ++ setsP N d pre nx <+: all → Calls Try.prog 75 #[v, .int .i64 (nx : Nat), .pointer (some ⟨gm, 0, none⟩), .pointer (some ⟨gy, 0, none⟩), .pointer (some ⟨go, 0, none⟩), .pointer (some ⟨gf, 0, none⟩)] W fun e W' => Kp n0 S W W' ∧ ((e = .returned (.bool true) ∧ ∃ ys : List It, ys.map (·.1) = setsP N d pre nx ∧ J (xs ++ ys) W') ∨ (e = .returned (.bool false) ∧ ∃ ys : List It, ys ≠ [] ∧ ys.map (·.1) <+: setsP N d pre nx ∧ Jx (xs ++ ys) W')))
    (pre : List Int) (v : Value) (nx : Nat) (xs : List It) (W : World) (hd : pre.length + (d + 1) = m) (hnx : nx ≤ N) (hpl : pre.length ≤ nx) (hAt : AtS N m n0 gm gy go gf l W) (ho : W.ownsRow 0 3 1 v pre.length (ints pre)) (hJ0 : J xs W) (hpx : xs.map (·.1) ++ setsP N (d + 1) pre nx <+: all) : Calls Try.prog 75 #[v, .int .i64 (nx : Nat), .pointer (some ⟨gm, 0, none⟩), .pointer (some ⟨gy, 0, none⟩), .pointer (some ⟨go, 0, none⟩), .pointer (some ⟨gf, 0, none⟩)] W fun e W' => Kp n0 S W W' ∧ ((e = .returned (.bool true) ∧ ∃ ys : List It, ys.map (·.1) = setsP N (d + 1) pre nx ∧ J (xs ++ ys) W') ∨ (e = .returned (.bool false) ∧ ∃ ys : List It, ys ≠ [] ∧ ys.map (·.1) <+: setsP N (d + 1) pre nx ∧ Jx (xs ++ ys) W')) := by
  obtain ⟨Ai, ci_, rfl, _⟩ := (Rd.of_own ho).shape
  have hkp := Kp.refl n0 S W
  refine EC.enter 33 Try.func75 rfl rfl rfl ?_
  refine EC.seq ?_
  refine EC.region ?_
  refine EL.val (x_assign rfl) rfl ?_
  refine EL.nil ?_
  refine EX.seq ?_
  refine EC.seq ?_
  refine EC.seq ?_
  refine EC.region ?_
  refine EL.val (x_move rfl) rfl ?_
  refine EL.val (ln_26 rfl) rfl ?_
  refine EL.val (ld_3 rfl (hAt.m.at (j := 0) rfl)) rfl ?_
  refine EL.val (x_eql rfl rfl (decide_eq_false (show ¬((pre.length : Nat) : Int) = ((m : Nat) : Int) by omega))) rfl ?_
  refine EL.nil ?_
  refine EX.seq ?_
  refine EC.no rfl ?_
  refine EC.skip ?_
  refine EX.seq ?_
  refine EC.seq ?_
  refine EC.seq ?_
  refine EC.region ?_
  refine EL.val (x_move rfl) rfl ?_
  refine EL.val (x_assign rfl) rfl ?_
  refine EL.nil ?_
  refine EX.seq ?_
  refine EC.block ?_
  refine EC.loopD [8, 9, 18, 19, 20, 21, 22, 23, 24, 25, 26, 27, 28, 29, 30, 31, 32] (fun x : Nat × List It => [(9, .int .i64 ((nx + x.1) : Nat))]) (fun x W1 => x.1 ≤ N - nx ∧ x.2.map (·.1) = ((List.range x.1).flatMap fun k => setsP N d (pre ++ [((nx + k : Nat) : Int)]) (nx + k + 1)) ∧ AtS N m n0 gm gy go gf l W1 ∧ W1.ownsRow 0 3 1 (.slice Ai pre.length ci_) pre.length (ints pre) ∧ Kp n0 S W W1 ∧ J (xs ++ x.2) W1) (fun x => N - nx - x.1) (0, []) ⟨Nat.zero_le _, rfl, hAt, ho, hkp, by simpa using hJ0⟩ ⟨rfl, trivial⟩ ?_
  clear hAt ho hkp hJ0
  rintro ⟨x, ys⟩ wk ⟨hx, hys, hAt, ho, hkp, hJ0⟩
  dsimp only at hx hys hJ0
  by_cases hlt : x < N - nx
  ·
    obtain ⟨p2, ep2⟩ : ∃ z, z = pre ++ [((nx + x : Nat) : Int)] := ⟨_, rfl⟩
    have hl2 : p2.length = pre.length + 1 := by rw [ep2]; simp
    have hin : ints p2 = ints pre ++ [.int .i64 ((nx + x : Nat) : Int)] := by rw [ep2, ints_app]; rfl
    refine EC.seq ?_
    refine EC.seq ?_
    refine EC.region ?_
    refine EL.val (x_move rfl) rfl ?_
    refine EL.val (ld_3 rfl (hAt.o.at (j := 0) rfl)) rfl ?_
    refine EL.val (x_lss rfl rfl (decide_eq_true (show ((nx + x : Nat) : Int) < ((N : Nat) : Int) by omega))) rfl ?_
    refine EL.nil ?_
    refine EX.seq ?_
    refine EC.yes rfl ?_
    refine EC.skip ?_
    refine EX.seq ?_
    refine EC.seq ?_
    refine EC.block ?_
    refine EC.seq ?_
    refine EC.regionP [[], [], [1], [], [3], [1, 2, 3, 4], [], [6], [0, 1, 2, 3, 4, 5, 6, 7], [0, 1, 2, 3, 4, 5, 6, 7, 8]] 8 [] (phi (fun i_ r => match i_ with | 0 => r 0 = .func (.func 75) #[] #[.pointer (some ⟨gm, 0, none⟩), .pointer (some ⟨gy, 0, none⟩), .pointer (some ⟨go, 0, none⟩), .pointer (some ⟨gf, 0, none⟩)] | 1 => r 1 = .slice Ai pre.length ci_ | 2 => r 2 = .slice Ai pre.length pre.length | 3 => r 3 = .int .i64 ((nx + x) : Nat) | 6 => r 6 = .int .i64 ((nx + x) : Nat) | 7 => r 7 = .int .i64 ((nx + x + 1) : Nat) | _ => True) [(4, fun r w_ => ∃ g_, r 4 = .slice (some ⟨g_, 0, none⟩) 1 1 ∧ Blk w_ g_ 3 #[.int .i64 ((nx + x) : Nat)] ∧ wk.heap.size ≤ g_), (5, fun r w_ => ∃ v, r 5 = v ∧ w_.ownsRow 0 3 1 v p2.length (ints p2))]) (by kernel_rfl) rfl rfl (phi_cons mono_bs (phi_cons mono_row (phi_nil))) (fun i_ hi_ => ?_) ?_
    · match i_, hi_ with
      | 0, _ =>
        intro val w1 a hb ha hd
        have ha := ha.sub (Sub.ins (d := 5) (Sub.nil _) rfl)
        exact hs_val ha rfl rfl (ld_116 rfl ((hAt.below hb).f.at (j := 0) rfl)) rfl rfl
      | 1, _ =>
        intro val w1 a hb ha hd
        have ha := ha.sub (Sub.ins (d := 0) (Sub.nil _) rfl)
        exact hs_val ha rfl rfl (x_move rfl) rfl rfl
      | 2, _ =>
        intro val w1 a hb ha hd
        have e1 : val 1 = .slice Ai pre.length ci_ := hd 1 (memB_mem.1 rfl)
        have ha := ha.sub (Sub.ins (d := 24) (Sub.nil _) (dep_get rfl e1))
        refine hs_call ha rfl rfl (cl_69 rfl) (clip_any _ ho) rfl ?_
        rintro e w' ⟨rfl, hb'⟩
        exact ⟨_, rfl, hb', rfl⟩
      | 3, _ =>
        intro val w1 a hb ha hd
        have ha := ha.sub (Sub.ins (d := 9) (Sub.nil _) rfl)
        exact hs_val ha rfl rfl (x_move rfl) rfl rfl
      | 4, _ =>
        intro val w1 a hb ha hd
        have e3 : val 3 = .int .i64 ((nx + x) : Nat) := hd 3 (memB_mem.1 rfl)
        have ha := ha.sub (Sub.ins (d := 26) (Sub.nil _) (dep_get rfl e3))
        exact hs_newS ha rfl rfl (bs_26_1 rfl) rfl (fun g w' hq _ hge => ⟨g, rfl, hq, Nat.le_trans hb.size hge⟩)
      | 5, _ =>
        intro val w1 a hb ha hd
        have e2 : val 2 = .slice Ai pre.length pre.length := hd 2 (memB_mem.1 rfl)
        obtain ⟨g4_, e4, q4_, h4_⟩ := hd 4 (memB_mem.1 rfl)
        change val 4 = _ at e4
        have ha := ha.sub (Sub.ins (d := 27) (Sub.ins (d := 25) (Sub.nil _) (dep_get rfl e2)) (dep_get rfl e4))
        refine hs_grow (base := 0) i64_elem ha rfl rfl rfl (rd_clip (Rd.of_own (own_below ho hb (Nat.le_refl _)))) (rd_one (l := [.int .i64 ((nx + x) : Nat)]) q4_ rfl) (by omega) (by omega) rfl (Nat.zero_le _) rfl ?_
        intro v' w' ho' _
        exact ⟨v', rfl, by rw [hl2, hin]; exact ho'⟩
      | 6, _ =>
        intro val w1 a hb ha hd
        have ha := ha.sub (Sub.ins (d := 9) (Sub.nil _) rfl)
        exact hs_val ha rfl rfl (x_move rfl) rfl rfl
      | 7, _ =>
        intro val w1 a hb ha hd
        have e6 : val 6 = .int .i64 ((nx + x) : Nat) := hd 6 (memB_mem.1 rfl)
        have ha := ha.sub (Sub.ins (d := 29) (Sub.nil _) (dep_get rfl e6))
        exact hs_val ha rfl rfl (x_add rfl rfl (c := ((nx + x + 1 : Nat) : Int)) ((IntWalk.i64_in _ ⟨by omega, by omega⟩).trans (by omega))) rfl rfl
      | k + 8, h => exact absurd h (by omega)
    · intro val wR6 hb halc hd
      have e0 : val 0 = .func (.func 75) #[] #[.pointer (some ⟨gm, 0, none⟩), .pointer (some ⟨gy, 0, none⟩), .pointer (some ⟨go, 0, none⟩), .pointer (some ⟨gf, 0, none⟩)] := hd 0 (by omega)
      have e1 : val 1 = .slice Ai pre.length ci_ := hd 1 (by omega)
      have e2 : val 2 = .slice Ai pre.length pre.length := hd 2 (by omega)
      have e3 : val 3 = .int .i64 ((nx + x) : Nat) := hd 3 (by omega)
      obtain ⟨ga4_6, e4, qa4_6, hga4_6⟩ := hd 4 (by omega)
      change val 4 = _ at e4
      change Blk wR6 ga4_6 3 #[.int .i64 ((nx + x) : Nat)] at qa4_6
      obtain ⟨v5_, e5, ho5_⟩ := hd 5 (by omega)
      have e6 : val 6 = .int .i64 ((nx + x) : Nat) := hd 6 (by omega)
      have e7 : val 7 = .int .i64 ((nx + x + 1) : Nat) := hd 7 (by omega)
      refine EL.ends (cs := [.func (.func 75) #[] #[.pointer (some ⟨gm, 0, none⟩), .pointer (some ⟨gy, 0, none⟩), .pointer (some ⟨go, 0, none⟩), .pointer (some ⟨gf, 0, none⟩)], .slice Ai pre.length ci_, .slice Ai pre.length pre.length, .int .i64 ((nx + x) : Nat), .slice (some ⟨ga4_6, 0, none⟩) 1 1, v5_, .int .i64 ((nx + x) : Nat), .int .i64 ((nx + x + 1) : Nat)]) ⟨e0, e1, e2, e3, e4, e5, e6, e7, trivial⟩ rfl ?_
      replace hkp := hkp.trans (Kp.of_below hb hAt.n0)
      replace hAt := hAt.below hb
      replace ho := own_below ho hb (Nat.le_refl _)
      replace hJ0 := hJ _ _ _ hJ0 hb
      clear hb
      refine EL.call (clv_75_0_2_4 rfl rfl rfl) rfl (hI p2 _ (nx + x + 1) (xs ++ ys) _ (by omega) (by omega) (by omega) hAt ho5_ hJ0 (by rw [List.map_append, hys, ep2, List.append_assoc]; exact ((List.prefix_append_right_inj _).2 (flat_part (f := fun k => setsP N d (pre ++ [((nx + k : Nat) : Int)]) (nx + k + 1)) hlt List.prefix_rfl)).trans hpx)) ?_
      rintro e wy ⟨hky, ⟨rfl, zs, hz, hJy⟩ | ⟨rfl, zs, hne, hz, hJy⟩⟩
      ·
        refine ⟨_, rfl, ?_⟩
        replace hAt := hAt.keep hS1 hS2 hS3 hky
        replace ho := hky.row ho hS3
        replace hkp := hkp.trans hky
        have hJ0 := hJy
        clear hky
        refine EL.val (x_not rfl) rfl ?_
        refine EL.nil ?_
        refine EX.seq ?_
        refine EC.no rfl ?_
        refine EC.skip ?_
        refine EX.blk ?_
        refine EX.seq ?_
        refine EC.region ?_
        refine EL.val (x_move rfl) rfl ?_
        refine EL.val (x_add rfl rfl (c := ((nx + (x + 1) : Nat) : Int)) ((IntWalk.i64_in _ ⟨by omega, by omega⟩).trans (by omega))) rfl ?_
        refine EL.val (x_assign rfl) rfl ?_
        refine EL.nil ?_
        refine EX.roundD (x + 1, ys ++ zs) ⟨rfl, trivial⟩ (by repeat first | with_reducible exact Sub.refl _ | refine sub_past rfl ?_ | exact Sub.refl _ | refine sub_del rfl ?_ | refine sub_insL_nil ?_) ⟨hlt, by simp only; rw [List.map_append, hys, hz, range_flat, ep2], hAt, ho, hkp, by rw [← List.append_assoc]; exact hJ0⟩ (by simp only; omega)
      ·
        refine ⟨_, rfl, ?_⟩
        replace hAt := hAt.keep hS1 hS2 hS3 hky
        replace ho := hky.row ho hS3
        replace hkp := hkp.trans hky
        have hJ0 := hJy
        clear hky
        refine EL.val (x_not rfl) rfl ?_
        refine EL.nil ?_
        refine EX.seq ?_
        refine EC.yes rfl ?_
        refine EC.seq ?_
        refine EC.region ?_
        refine EL.val (x_assign rfl) rfl ?_
        refine EL.nil ?_
        refine EX.seq ?_
        refine EC.ret ?_
        refine EX.blk_ret ?_
        refine EX.seq_ret ?_
        refine EX.seq_ret ?_
        refine EX.blk_ret ?_
        refine EX.seq_ret ?_
        exact EX.done (res1 rfl rfl) ⟨hkp, .inr ⟨rfl, ys ++ zs, by simp [hne], by rw [List.map_append, hys]; exact flat_part (f := fun k => setsP N d (pre ++ [((nx + k : Nat) : Int)]) (nx + k + 1)) hlt (ep2 ▸ hz), by rw [← List.append_assoc]; exact hJ0⟩⟩
  ·
    have hxe : x = N - nx := by omega
    refine EC.seq ?_
    refine EC.seq ?_
    refine EC.region ?_
    refine EL.val (x_move rfl) rfl ?_
    refine EL.val (ld_3 rfl (hAt.o.at (j := 0) rfl)) rfl ?_
    refine EL.val (x_lss rfl rfl (decide_eq_false (show ¬((nx + x : Nat) : Int) < ((N : Nat) : Int) by omega))) rfl ?_
    refine EL.nil ?_
    refine EX.seq ?_
    refine EC.no rfl ?_
    refine EC.exit ?_
    refine EX.seq_exit ?_
    refine EX.seq_exit ?_
    refine EX.blk_here ?_
    refine EX.seq ?_
    refine EC.seq ?_
    refine EC.region ?_
    refine EL.val (x_assign rfl) rfl ?_
    refine EL.nil ?_
    refine EX.seq ?_
    refine EC.ret ?_
    exact EX.done (res1 rfl rfl) ⟨hkp, .inl ⟨rfl, ys, by rw [hys, hxe]; rfl, hJ0⟩⟩
theorem setsF_any (N m : Nat) (n0 gm gy go gf l : Nat) (S : List Nat) (J Jx : List It → World → Prop) (all : List (List Int)) (hN : N ≤ 1000) (hS1 : memB S 116 = false) (hS2 : memB S 111 = false) (hS3 : memB S 3 = false) (hJ : Stays J) (hJx : Stays Jx)
    (hY : ∀ pre x W1, okRow x W1 → J pre W1 → (pre ++ [x]).map (·.1) <+: all → YieldW Try.prog l #[x.2] W1 (RoundAns n0 S J Jx (pre ++ [x]) W1)) : ∀ (d : Nat) (pre : List Int) (v : Value) (nx : Nat) (xs : List It) (W : World) (hd : pre.length + d = m) (hnx : nx ≤ N) (hpl : pre.length ≤ nx) (hAt : AtS N m n0 gm gy go gf l W) (ho : W.ownsRow 0 3 1 v pre.length (ints pre)) (hJ0 : J xs W) (hpx : xs.map (·.1) ++ setsP N d pre nx <+: all), Calls Try.prog 75 #[v, .int .i64 (nx : Nat), .pointer (some ⟨gm, 0, none⟩), .pointer (some ⟨gy, 0, none⟩), .pointer (some ⟨go, 0, none⟩), .pointer (some ⟨gf, 0, none⟩)] W fun e W' => Kp n0 S W W' ∧ ((e = .returned (.bool true) ∧ ∃ ys : List It, ys.map (·.1) = setsP N d pre nx ∧ J (xs ++ ys) W') ∨ (e = .returned (.bool false) ∧ ∃ ys : List It, ys ≠ [] ∧ ys.map (·.1) <+: setsP N d pre nx ∧ Jx (xs ++ ys) W'))
  | 0 => setsF_last N m n0 gm gy go gf l S J Jx all hN hS1 hS2 hS3 hJ hJx hY
  | d + 1 => setsF_more N m n0 gm gy go gf l S J Jx all hN hS1 hS2 hS3 hJ hJx hY d (setsF_any N m n0 gm gy go gf l S J Jx all hN hS1 hS2 hS3 hJ hJx hY d)
end Go.Proofs.Ytmaiiigijjfjfaa
set_option linter.unusedVariables false
set_option linter.unusedSimpArgs false
namespace Go.Proofs.Ytmaiiigijjfjfaa
open Go Go.RowKit
section
variable {n : Nat} {σ : Sg} {w : World} {dst : Option Tmp} {ty : TypeId} {pos : String} {af : Array Edge} {g : Option (Nat × Bool)} {x y z : Operand} {at' : Array TypeId}
theorem al_116 (a : Act) (_ : Env n σ a) : (execOp a.eval ⟨dst, .alloc 116, ty, pos, af, g⟩).run Try.prog w = .ok (.value (.pointer (some ⟨w.heap.size, 0, none⟩))) (w.alloc (.cells #[.nilFunc] 116)) := by
  simp only [execOp]
  simp [go_sem]
theorem mf_75_0_4 {x0 x1 x2 x3 : Operand} {v0 v1 v2 v3 : Value} (h0 : evS σ x0 = some v0) (h1 : evS σ x1 = some v1) (h2 : evS σ x2 = some v2) (h3 : evS σ x3 = some v3) : Gives Try.prog n σ w ⟨dst, .makeFunc (.func 75) #[] #[x0, x1, x2, x3], ty, pos, af, g⟩ (.func (.func 75) #[] #[v0, v1, v2, v3]) := fun a ha => by
  simp only [execOp, List.map_toArray, List.map_cons, List.map_nil, ha.eval h0, ha.eval h1, ha.eval h2, ha.eval h3]
  simp [go_sem]
theorem sz_116 : (Try.prog.info? 116).map (·.size) = some 1 := by kernel_rfl
theorem mf_74_0_2 {x0 x1 : Operand} {v0 v1 : Value} (h0 : evS σ x0 = some v0) (h1 : evS σ x1 = some v1) : Gives Try.prog n σ w ⟨dst, .makeFunc (.func 74) #[] #[x0, x1], ty, pos, af, g⟩ (.func (.func 74) #[] #[v0, v1]) := fun a ha => by
  simp only [execOp, List.map_toArray, List.map_cons, List.map_nil, ha.eval h0, ha.eval h1]
  simp [go_sem]
theorem al_4 (a : Act) (_ : Env n σ a) : (execOp a.eval ⟨dst, .alloc 4, ty, pos, af, g⟩).run Try.prog w = .ok (.value (.pointer (some ⟨w.heap.size, 0, none⟩))) (w.alloc (.cells #[.bool false] 4)) := by
  simp only [execOp]
  simp [go_sem]
theorem sz_4 : (Try.prog.info? 4).map (·.size) = some 1 := by kernel_rfl
theorem lv_4 {b o : Nat} {v0 : Value} (c0 : w.cell? ⟨b, o, none⟩ = some v0) : (loadVar 4 ⟨b, o, none⟩).run Try.prog w = .ok (v0) w := by
  simp [go_sem, loadVar, c0]
theorem cl_58 {x0 x1 : Operand} {v0 v1 : Value} (h0 : evS σ x0 = some v0) (h1 : evS σ x1 = some v1) (a : Act) (ha : Env n σ a) : (execOp a.eval ⟨dst, .call { callee := .value (.func 58), args := #[x0, x1], argTypes := at' }, ty, pos, af, g⟩).run Try.prog w = .ok (.enter 58 #[v0, v1]) w := by
  simp only [execOp, resolve, List.map_toArray, List.map_cons, List.map_nil, ha.eval h0, ha.eval h1]
  simp [go_sem, Act.eval]
theorem cl_60 {x0 x1 : Operand} {v0 v1 : Value} (h0 : evS σ x0 = some v0) (h1 : evS σ x1 = some v1) (a : Act) (ha : Env n σ a) : (execOp a.eval ⟨dst, .call { callee := .value (.func 60), args := #[x0, x1], argTypes := at' }, ty, pos, af, g⟩).run Try.prog w = .ok (.enter 60 #[v0, v1]) w := by
  simp only [execOp, resolve, List.map_toArray, List.map_cons, List.map_nil, ha.eval h0, ha.eval h1]
  simp [go_sem, Act.eval]
theorem cl_59 {x0 : Operand} {v0 : Value} (h0 : evS σ x0 = some v0) (a : Act) (ha : Env n σ a) : (execOp a.eval ⟨dst, .call { callee := .value (.func 59), args := #[x0], argTypes := at' }, ty, pos, af, g⟩).run Try.prog w = .ok (.enter 59 #[v0]) w := by
  simp only [execOp, resolve, List.map_toArray, List.map_cons, List.map_nil, ha.eval h0]
  simp [go_sem, Act.eval]
end
end Go.Proofs.Ytmaiiigijjfjfaa
