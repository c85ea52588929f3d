/- A walk by what is known of the slots: 'Env n σ a' says that the frame a has n slots and that slot t holds v wherever σ t = some v. Each operation is one rule; the frame itself is never written out. -/
import Derived.Test.YtncnlhkmdljgpaaE0
import Derived.Tactics
import Derived.Scope
import Derived.IntWalk
import Derived.WalkKit
import Derived.Below
import Derived.Deep.LoopGhost
namespace Go.Proofs.Ytncnlhkmdljgpaa
open Go Go.RowKit

abbrev Sg := Nat → Option Value
def ins (σ : Sg) (d : Nat) (v : Value) : Sg := fun s => bif Nat.beq s d then some v else σ s
def memB : List Nat → Nat → Bool
  | [], _ => false
  | d :: ds, s => bif Nat.beq s d then true else memB ds s
def del (σ : Sg) (ds : List Nat) : Sg := fun s => bif memB ds s then none else σ s
/-- slots k, k + 1, .. -/
def argsS : List Value → Nat → Sg
  | [], _, _ => none
  | v :: l, k, s => bif Nat.beq s k then some v else argsS l (k + 1) s
def evS (σ : Sg) : Operand → Option Value
  | .tmp t => σ t
  | .const v => some v
  | .global g => some (.pointer (some ⟨g, 0, none⟩))
  | .func f => some (.func (.func f) #[] #[])

structure Env (n : Nat) (σ : Sg) (a : Act) : Prop where
  size : a.tmps.size = n
  defers : a.defers = []
  get : ∀ t v, σ t = some v → a.tmps[t]? = some v
section
variable {n : Nat} {σ τ : Sg} {a : Act}
theorem Env.eval (h : Env n σ a) {x : Operand} {v : Value} (hx : evS σ x = some v) : a.eval x = v := by
  cases x with
  | tmp t => simp only [Act.eval, Array.getD_eq_getD_getElem?, h.get t v hx, Option.getD_some]
  | const u => injection hx
  | global g => injection hx
  | func f => injection hx
theorem Env.put (h : Env n σ a) {d : Nat} (hd : Nat.blt d n = true) (v : Value) : Env n (ins σ d v) (a.put (some d) v) := by
  have hd' : d < n := by simpa [Nat.blt_eq] using hd
  refine ⟨by simp [Act.put, h.size], h.defers, fun t u ht => ?_⟩
  simp only [Act.put, Array.getElem?_setIfInBounds]
  unfold ins at ht
  cases e : Nat.beq t d with
  | true =>
    have e' := Nat.eq_of_beq_eq_true e
    subst e'
    rw [e] at ht
    rw [if_pos rfl, if_pos (by rw [h.size]; exact hd')]
    exact ht
  | false =>
    have e' := Nat.ne_of_beq_eq_false e
    rw [e] at ht
    rw [if_neg (Ne.symm e')]
    exact h.get t u ht
def Sub (τ σ : Sg) : Prop := ∀ t v, τ t = some v → σ t = some v
theorem Env.sub (h : Env n σ a) (hs : Sub τ σ) : Env n τ a := ⟨h.size, h.defers, fun t v ht => h.get t v (hs t v ht)⟩
theorem Sub.refl (σ : Sg) : Sub σ σ := fun _ _ h => h
theorem Sub.del (h : Sub τ σ) (ds : List Nat) : Sub (del τ ds) σ := fun t v ht => by
  unfold Go.Proofs.Ytncnlhkmdljgpaa.del at ht
  cases e : memB ds t with
  | true => rw [e] at ht; cases ht
  | false => rw [e] at ht; exact h t v ht
theorem Sub.ins (h : Sub τ σ) {d : Nat} {v : Value} (hd : σ d = some v) : Sub (ins τ d v) σ := fun t u ht => by
  unfold Go.Proofs.Ytncnlhkmdljgpaa.ins at ht
  cases e : Nat.beq t d with
  | true =>
    have e' := Nat.eq_of_beq_eq_true e
    subst e'
    rw [e] at ht
    rw [hd]
    exact ht
  | false => rw [e] at ht; exact h t u ht
/-- a slot that τ does not speak of -/
theorem Sub.skip (h : Sub τ σ) {d : Nat} {v : Value} (hd : τ d = none) : Sub τ (Go.Proofs.Ytncnlhkmdljgpaa.ins σ d v) := fun t u ht => by
  unfold Go.Proofs.Ytncnlhkmdljgpaa.ins
  cases e : Nat.beq t d with
  | true =>
    have e' := Nat.eq_of_beq_eq_true e
    subst e'
    rw [hd] at ht
    cases ht
  | false => exact h t u ht
theorem Sub.nil (σ : Sg) : Sub (fun _ => none) σ := fun _ _ h => by cases h
end

section
variable {P : Program} {n : Nat} {σ τ : Sg} {w : World} {Q : Exit → Act → World → Prop} {L : List Oper} {rest : List Oper}
/-- what an operation yields, the world as it was -/
def Gives (P : Program) (n : Nat) (σ : Sg) (w : World) (o : Oper) (v : Value) : Prop := ∀ a, Env n σ a → (execOp a.eval o).run P w = .ok (.value v) w
def EL (P : Program) (n : Nat) (L : List Oper) (Q : Exit → Act → World → Prop) (rest : List Oper) (σ : Sg) (w : World) : Prop := ∀ a, Env n σ a → wpList P L.toArray Q rest a w
def EC (P : Program) (n : Nat) (c : Code) (Q : Exit → Act → World → Prop) (σ : Sg) (w : World) : Prop := ∀ a, Env n σ a → c.wp P Q a w
def EX (n : Nat) (Q : Exit → Act → World → Prop) (e : Exit) (σ : Sg) (w : World) : Prop := ∀ a, Env n σ a → Q e a w

theorem EL.nil (h : EX n Q .normal σ w) : EL P n L Q [] σ w := fun a ha => wpList_nil (h a ha)
theorem wpL_run {o : Oper} {a : Act} (hg : Region.wanted o (yielded L.toArray a.tmps) = true) {v : Value} {w' : World} (hr : (execOp a.eval o).run P w = .ok (.value v) w') (hk : wpList P L.toArray Q rest (a.put o.dst v) w') : wpList P L.toArray Q (o :: rest) a w := by
  unfold wpList
  rw [if_pos hg]
  left
  unfold Oper.wp
  rw [hr]
  exact hk
theorem yield_of {a : Act} (ha : Env n σ a) {j : Nat} {t : Tmp} {v : Value} (hj : dstOf L j = some t) (ht : σ t = some v) : yielded L.toArray a.tmps j = match v with | .bool b => some b | _ => none := by
  unfold yielded
  rw [dstOf_eq, hj, Option.bind_some, ha.get t v ht]
  cases v <;> rfl
theorem wanted_none {o : Oper} (h : o.guard = none) (y : Nat → Option Bool) : Region.wanted o y = true := by simp [Region.wanted, h]
/-- the rules for one operation -/
theorem EL.val {d ty : Nat} {op : Op} {pos : String} {af : Array Edge} {v : Value} (h : Gives P n σ w ⟨some d, op, ty, pos, af, none⟩ v) (hd : Nat.blt d n = true) (k : EL P n L Q rest (ins σ d v) w) : EL P n L Q (⟨some d, op, ty, pos, af, none⟩ :: rest) σ w :=
  fun a ha => wpL_run (wanted_none rfl _) (h a ha) (k _ (ha.put hd v))
theorem EL.valg {d ty j t : Nat} {b : Bool} {op : Op} {pos : String} {af : Array Edge} {v : Value} (hj : dstOf L j = some t) (ht : σ t = some (.bool b)) (h : Gives P n σ w ⟨some d, op, ty, pos, af, some (j, b)⟩ v) (hd : Nat.blt d n = true) (k : EL P n L Q rest (ins σ d v) w) : EL P n L Q (⟨some d, op, ty, pos, af, some (j, b)⟩ :: rest) σ w :=
  fun a ha => wpL_run (by simp [Region.wanted, yield_of ha hj ht]) (h a ha) (k _ (ha.put hd v))
def yieldsB (b : Bool) : Value → Bool
  | .bool c => c == b
  | _ => false
theorem EL.skip {d ty j t : Nat} {b : Bool} {op : Op} {pos : String} {af : Array Edge} {u : Value} (hj : dstOf L j = some t) (ht : σ t = some u) (hb : yieldsB b u = false) (hd : Nat.blt d n = true) (k : EL P n L Q rest (ins σ d undef) w) : EL P n L Q (⟨some d, op, ty, pos, af, some (j, b)⟩ :: rest) σ w := fun a ha => by
  unfold wpList
  have hw : Region.wanted (⟨some d, op, ty, pos, af, some (j, b)⟩ : Oper) (yielded L.toArray a.tmps) = false := by
    simp only [Region.wanted, yield_of ha hj ht]
    cases u <;> first | rfl | (simp only [yieldsB] at hb; simpa using hb)
  rw [hw, if_neg (by simp)]
  exact k _ (ha.put hd undef)
theorem EL.skip0 {ty j t : Nat} {b : Bool} {op : Op} {pos : String} {af : Array Edge} {u : Value} (hj : dstOf L j = some t) (ht : σ t = some u) (hb : yieldsB b u = false) (k : EL P n L Q rest σ w) : EL P n L Q (⟨none, op, ty, pos, af, some (j, b)⟩ :: rest) σ w := fun a ha => by
  unfold wpList
  have hw : Region.wanted (⟨none, op, ty, pos, af, some (j, b)⟩ : Oper) (yielded L.toArray a.tmps) = false := by
    simp only [Region.wanted, yield_of ha hj ht]
    cases u <;> first | rfl | (simp only [yieldsB] at hb; simpa using hb)
  rw [hw, if_neg (by simp)]
  exact k _ ha
/-- an operation that yields a value and turns the world: what is known behind it -/
theorem EL.turn {d ty : Nat} {op : Op} {pos : String} {af : Array Edge} (v : Value) (w' : World) (h : ∀ a, Env n σ a → (execOp a.eval ⟨some d, op, ty, pos, af, none⟩).run P w = .ok (.value v) w') (hd : Nat.blt d n = true) (k : EL P n L Q rest (ins σ d v) w') : EL P n L Q (⟨some d, op, ty, pos, af, none⟩ :: rest) σ w :=
  fun a ha => wpL_run (wanted_none rfl _) (h a ha) (k _ (ha.put hd v))
theorem wpL_call {o : Oper} {a : Act} (hg : Region.wanted o (yielded L.toArray a.tmps) = true) {f : FuncId} {args : Array Value} (hr : (execOp a.eval o).run P w = .ok (.enter f args) w) {R : Ending → World → Prop} (hc : Calls P f args w R)
    (hk : ∀ e w', R e w' → ∃ v, e = .returned v ∧ wpList P L.toArray Q rest (a.put o.dst v) w') : wpList P L.toArray Q (o :: rest) a w := by
  unfold wpList
  rw [if_pos hg]
  left
  unfold Oper.wp
  rw [hr, Oper.upon_enter]
  refine hc.mono fun e w' he => ?_
  obtain ⟨v, rfl, hv⟩ := hk e w' he
  exact hv
/-- a call: what the operands are, the callee's contract, what is known behind it -/
theorem EL.call {d ty : Nat} {op : Op} {pos : String} {af : Array Edge} {f : FuncId} {args : Array Value} {R : Ending → World → Prop} (hr : ∀ a, Env n σ a → (execOp a.eval ⟨some d, op, ty, pos, af, none⟩).run P w = .ok (.enter f args) w) (hd : Nat.blt d n = true) (hc : Calls P f args w R)
    (k : ∀ e w', R e w' → ∃ v, e = .returned v ∧ EL P n L Q rest (ins σ d v) w') : EL P n L Q (⟨some d, op, ty, pos, af, none⟩ :: rest) σ w :=
  fun a ha => wpL_call (wanted_none rfl _) (hr a ha) hc fun e w' he => by
    obtain ⟨v, h1, h2⟩ := k e w' he
    exact ⟨v, h1, h2 _ (ha.put hd v)⟩
theorem EL.callg {d ty j t : Nat} {b : Bool} {op : Op} {pos : String} {af : Array Edge} {f : FuncId} {args : Array Value} {R : Ending → World → Prop} (hj : dstOf L j = some t) (ht : σ t = some (.bool b)) (hr : ∀ a, Env n σ a → (execOp a.eval ⟨some d, op, ty, pos, af, some (j, b)⟩).run P w = .ok (.enter f args) w) (hd : Nat.blt d n = true) (hc : Calls P f args w R)
    (k : ∀ e w', R e w' → ∃ v, e = .returned v ∧ EL P n L Q rest (ins σ d v) w') : EL P n L Q (⟨some d, op, ty, pos, af, some (j, b)⟩ :: rest) σ w :=
  fun a ha => wpL_call (by simp [Region.wanted, yield_of ha hj ht]) (hr a ha) hc fun e w' he => by
    obtain ⟨v, h1, h2⟩ := k e w' he
    exact ⟨v, h1, h2 _ (ha.put hd v)⟩

/-! ### Code -/
theorem EC.sub {c : Code} (h : EC P n c Q τ w) (hs : Sub τ σ) : EC P n c Q σ w := fun a ha => h a (ha.sub hs)
theorem EX.sub {e : Exit} (h : EX n Q e τ w) (hs : Sub τ σ) : EX n Q e σ w := fun a ha => h a (ha.sub hs)
theorem EC.seq {x y : Code} (h : EC P n x (Exit.then (y.wp P Q) Q) σ w) : EC P n (.seq x y) Q σ w := fun a ha => wp_seq (h a ha)
theorem EC.region {id : Nat} {l : List Oper} (h : EL P n l Q l σ w) : EC P n (.region id l.toArray false) Q σ w := fun a ha => wp_region_lit (h a ha)
theorem EC.block {id : Nat} {c : Code} (h : EC P n c (Exit.inBlock id Q) σ w) : EC P n (.block id c) Q σ w := fun a ha => wp_block (h a ha)
theorem EC.skip (h : EX n Q .normal σ w) : EC P n .skip Q σ w := fun a ha => wp_skip (h a ha)
theorem EC.label {l : Nat} (h : EX n Q .normal σ w) : EC P n (.label l) Q σ w := fun a ha => wp_label (h a ha)
theorem EC.exit {id : Nat} (h : EX n Q (.exit id) σ w) : EC P n (.exit id) Q σ w := fun a ha => wp_exit (h a ha)
theorem EC.ret (h : EX n Q .ret σ w) : EC P n .ret Q σ w := fun a ha => wp_ret (h a ha)
theorem EC.scope {c : Code} (h : EC P n c (Exit.noGoto Q) σ w) : EC P n (.scope c) Q σ w := fun a ha => wp_scope_straight (h a ha)
theorem EC.yes {c : Operand} {x y : Code} (hc : evS σ c = some (.bool true)) (h : EC P n x Q σ w) : EC P n (.cond c x y) Q σ w := fun a ha => wp_cond_true (ha.eval hc) (h a ha)
theorem EC.no {c : Operand} {x y : Code} (hc : evS σ c = some (.bool false)) (h : EC P n y Q σ w) : EC P n (.cond c x y) Q σ w := fun a ha => wp_cond_false (ha.eval hc) (h a ha)
theorem EC.both {c : Operand} {x y : Code} {b : Bool} (hc : evS σ c = some (.bool b)) (ht : b = true → EC P n x Q σ w) (hf : b = false → EC P n y Q σ w) : EC P n (.cond c x y) Q σ w :=
  fun a ha => wp_cond_split (ha.eval hc) (fun h => ht h a ha) (fun h => hf h a ha)
theorem EC.loop {c : Code} {ι : Type} (σI : ι → Sg) (I : ι → World → Prop) (μ : ι → Nat) (i0 : ι) (hs : Sub (σI i0) σ) (h0 : I i0 w)
    (round : ∀ i w, I i w → EC P n c (Exit.then (fun a' w' => ∃ i', Env n (σI i') a' ∧ I i' w' ∧ μ i' < μ i) Q) (σI i) w) : EC P n (.loop c) Q σ w := by
  intro a ha
  refine wp_loop_ghost (fun k a w => ∃ i, Env n (σI i) a ∧ I i w ∧ μ i = k) (μ i0) ⟨i0, ha.sub hs, h0, rfl⟩ fun k a w hI => ?_
  obtain ⟨i, h1, h2, rfl⟩ := hI
  refine wp_mono (round i w h2 a h1) fun e a' w' hq => ?_
  cases e with
  | normal =>
    obtain ⟨i', h4, h5, h6⟩ := hq
    exact ⟨μ i', h6, i', h4, h5, rfl⟩
  | _ => exact hq
/-! ### Exits -/
theorem EX.seq {y : Code} (h : EC P n y Q σ w) : EX n (Exit.then (y.wp P Q) Q) .normal σ w := h
theorem EX.seq_exit {K : Act → World → Prop} {i : Nat} (h : EX n Q (.exit i) σ w) : EX n (Exit.then K Q) (.exit i) σ w := h
theorem EX.seq_ret {K : Act → World → Prop} (h : EX n Q .ret σ w) : EX n (Exit.then K Q) .ret σ w := h
theorem EX.blk {id : Nat} (h : EX n Q .normal σ w) : EX n (Exit.inBlock id Q) .normal σ w := h
theorem EX.blk_ret {id : Nat} (h : EX n Q .ret σ w) : EX n (Exit.inBlock id Q) .ret σ w := h
theorem EX.blk_here {id : Nat} (h : EX n Q .normal σ w) : EX n (Exit.inBlock id Q) (.exit id) σ w := fun a ha => by
  simp only [Exit.inBlock, if_true]
  exact h a ha
theorem EX.blk_other {id i : Nat} (hi : Nat.beq i id = false) (h : EX n Q (.exit i) σ w) : EX n (Exit.inBlock id Q) (.exit i) σ w := fun a ha => by
  simp only [Exit.inBlock, if_neg (Nat.ne_of_beq_eq_false hi)]
  exact h a ha
theorem EX.scp (h : EX n Q .normal σ w) : EX n (Exit.noGoto Q) .normal σ w := h
theorem EX.scp_ret (h : EX n Q .ret σ w) : EX n (Exit.noGoto Q) .ret σ w := h
theorem EX.scp_exit {i : Nat} (h : EX n Q (.exit i) σ w) : EX n (Exit.noGoto Q) (.exit i) σ w := h
/-- a loop's round is done -/
theorem EX.round {ι : Type} {σI : ι → Sg} {I : ι → World → Prop} {μ : ι → Nat} {i : ι} (i' : ι) (hs : Sub (σI i') σ) (hI : I i' w) (hm : μ i' < μ i) : EX n (Exit.then (fun a' w' => ∃ i', Env n (σI i') a' ∧ I i' w' ∧ μ i' < μ i) Q) .normal σ w :=
  fun _ ha => ⟨i', ha.sub hs, hI, hm⟩

/-! ### Loops, over the slots that the body leaves alone -/
def insL (σ : Sg) : List (Nat × Value) → Sg
  | [] => σ
  | p :: l => ins (insL σ l) p.1 p.2
def AgreeS (σ : Sg) : List (Nat × Value) → Prop
  | [] => True
  | p :: l => σ p.1 = some p.2 ∧ AgreeS σ l
theorem sub_insL (h : Sub τ σ) : ∀ {l : List (Nat × Value)}, AgreeS σ l → Sub (insL τ l) σ
  | [], _ => h
  | _ :: _, ha => Sub.ins (sub_insL h ha.2) ha.1
theorem sub_past {σ0 : Sg} {ds : List Nat} {d : Nat} {v : Value} (hd : memB ds d = true) (h : Sub (del σ0 ds) τ) : Sub (del σ0 ds) (ins τ d v) :=
  h.skip (by unfold del; rw [hd]; rfl)
def allMem : List Nat → List Nat → Bool
  | [], _ => true
  | d :: l, ds => bif memB ds d then allMem l ds else false
theorem allMem_spec : ∀ {l ds : List Nat}, allMem l ds = true → ∀ t, memB l t = true → memB ds t = true
  | [], _, _, t, h => by cases h
  | d :: l, ds, h, t, ht => by
    unfold allMem at h
    cases e : memB ds d with
    | false => rw [e] at h; cases h
    | true =>
      rw [e] at h
      unfold memB at ht
      cases e2 : Nat.beq t d with
      | true => rw [Nat.eq_of_beq_eq_true e2]; exact e
      | false => rw [e2] at ht; exact allMem_spec h t ht
/-- through an inner loop -/
theorem sub_del {σ0 : Sg} {ds ds2 : List Nat} (hd : allMem ds2 ds = true) (h : Sub (del σ0 ds) τ) : Sub (del σ0 ds) (del τ ds2) := fun t v ht => by
  have hn : memB ds2 t = false := by
    rcases Bool.eq_false_or_eq_true (memB ds2 t) with h1 | h1
    · have := allMem_spec hd t h1
      unfold del at ht
      rw [this] at ht
      cases ht
    · exact h1
  have h2 := h t v ht
  unfold del
  rw [hn]
  exact h2
theorem sub_insL_nil {σ0 : Sg} (h : Sub σ0 τ) : Sub σ0 (insL τ []) := h
theorem EC.loopD {c : Code} {ι : Type} (ds : List Nat) (vs : ι → List (Nat × Value)) (I : ι → World → Prop) (μ : ι → Nat) (i0 : ι) (h0 : I i0 w) (hs : AgreeS σ (vs i0))
    (round : ∀ i w, I i w → EC P n c (Exit.then (fun a' w' => ∃ i', Env n (insL (del σ ds) (vs i')) a' ∧ I i' w' ∧ μ i' < μ i) Q) (insL (del σ ds) (vs i)) w) : EC P n (.loop c) Q σ w :=
  EC.loop (fun i => insL (del σ ds) (vs i)) I μ i0 (sub_insL ((Sub.refl σ).del ds) hs) h0 round
theorem EX.roundD {ι : Type} {σ0 : Sg} {ds : List Nat} {vs : ι → List (Nat × Value)} {I : ι → World → Prop} {μ : ι → Nat} {i : ι} (i' : ι) (hv : AgreeS σ (vs i')) (hd : Sub (del σ0 ds) σ) (hI : I i' w) (hm : μ i' < μ i) : EX n (Exit.then (fun a' w' => ∃ i', Env n (insL (del σ0 ds) (vs i')) a' ∧ I i' w' ∧ μ i' < μ i) Q) .normal σ w :=
  fun _ ha => ⟨i', ha.sub (sub_insL hd hv), hI, hm⟩
/-! ### A call's beginning and end -/
theorem args_get : ∀ (l : List Value) (k t : Nat) (v : Value), argsS l k t = some v → k ≤ t ∧ l[t - k]? = some v
  | [], _, _, _, h => by cases h
  | u :: l, k, t, v, h => by
    unfold argsS at h
    cases e : Nat.beq t k with
    | true =>
      have e' := Nat.eq_of_beq_eq_true e
      subst e'
      rw [e] at h
      injection h with h
      simp [h]
    | false =>
      have e' := Nat.ne_of_beq_eq_false e
      rw [e] at h
      have := args_get l (k + 1) t v h
      refine ⟨by omega, ?_⟩
      rw [show t - k = (t - (k + 1)) + 1 by omega]
      simpa using this.2
theorem env_args {l : List Value} (hn : l.length ≤ n) : Env n (argsS l 0) { tmps := l.toArray ++ Array.replicate (n - l.length) undef, defers := [] } := by
  refine ⟨by simp; omega, rfl, fun t v h => ?_⟩
  have h1 := (args_get l 0 t v h).2
  have h2 : t < l.length := by
    rcases Nat.lt_or_ge t l.length with h' | h'
    · exact h'
    · rw [Nat.sub_zero, List.getElem?_eq_none h'] at h1; cases h1
  rw [Array.getElem?_append_left (by simpa using h2)]
  simpa using h1
theorem env_list {l : List Value} (hn : l.length = n) : Env n (argsS l 0) { tmps := l.toArray, defers := [] } := by
  refine ⟨by simpa using hn, rfl, fun t v h => ?_⟩
  have h1 := (args_get l 0 t v h).2
  simpa using h1
theorem sub_args0 {i : Nat} : Sub (argsS [] i) σ := fun t v ht => by cases ht
theorem EC.calls {f : FuncId} {fn : Func} {c : Code} {args : List Value} {R : Ending → World → Prop} (hf : P.funcs[f]? = some fn) (hb : fn.body = some c) (hn : Nat.ble args.length fn.ntmps = true) (h : EC P fn.ntmps c (bodyPost P fn R) (argsS args 0) w) : Calls P f args.toArray w R :=
  calls_of_wp hf hb (by
    have := h _ (env_args (l := args) (by simpa [Nat.ble_eq] using hn))
    simpa using this)
theorem EC.enter {f : FuncId} {fn : Func} {c : Code} {args : List Value} {R : Ending → World → Prop} (n : Nat) (hf : P.funcs[f]? = some fn) (hb : fn.body = some c) (hn : fn.ntmps = n) (hl : Nat.ble args.length n = true) (h : EC P n c (bodyPost P fn R) (argsS args 0) w) : Calls P f args.toArray w R := by
  subst hn
  exact EC.calls hf hb hl h
theorem EX.done {fn : Func} {R : Ending → World → Prop} {v : Value} (hr : ∀ a, Env n σ a → (results fn a.tmps).run P w = .ok v w) (h : R (.returned v) w) : EX n (bodyPost P fn R) .ret σ w := fun a ha => ⟨ha.defers, v, hr a ha, h⟩
theorem EX.done' {fn : Func} {R : Ending → World → Prop} {v : Value} (hr : ∀ a, Env n σ a → (results fn a.tmps).run P w = .ok v w) (h : R (.returned v) w) : EX n (bodyPost P fn R) .normal σ w := fun a ha => ⟨ha.defers, v, hr a ha, h⟩
theorem res0 {fn : Func} (h : fn.results = #[]) (a : Act) (_ : Env n σ a) : (results fn a.tmps).run P w = .ok (.tuple #[]) w := results_none h _ P w
theorem res1 {fn : Func} {t : Tmp} {v : Value} (h : fn.results = #[.tmp t]) (ht : σ t = some v) (a : Act) (ha : Env n σ a) : (results fn a.tmps).run P w = .ok v w := by
  rw [results_tmp h]
  have := ha.eval (x := .tmp t) ht
  exact congrArg (fun v => Result.ok v w) this
theorem res2 {fn : Func} {t s : Tmp} {v u : Value} (h : fn.results = #[.tmp t, .tmp s]) (ht : σ t = some v) (hs : σ s = some u) (a : Act) (ha : Env n σ a) : (results fn a.tmps).run P w = .ok (.tuple #[v, u]) w := by
  rw [results_tmp2 h]
  have h1 : a.tmps.getD t undef = v := ha.eval (x := .tmp t) ht
  have h2 : a.tmps.getD s undef = u := ha.eval (x := .tmp s) hs
  rw [h1, h2]
theorem res3 {fn : Func} {t s r : Tmp} {v u x : Value} (h : fn.results = #[.tmp t, .tmp s, .tmp r]) (ht : σ t = some v) (hs : σ s = some u) (hx : σ r = some x) (a : Act) (ha : Env n σ a) : (results fn a.tmps).run P w = .ok (.tuple #[v, u, x]) w := by
  have h1 : a.tmps.getD t undef = v := ha.eval (x := .tmp t) ht
  have h2 : a.tmps.getD s undef = u := ha.eval (x := .tmp s) hs
  have h3 : a.tmps.getD r undef = x := ha.eval (x := .tmp r) hx
  simp [results, h]
  rw [Array.getD_eq_getD_getElem?] at h1 h2 h3
  simp [h1, h2, h3]

/-! ### A region that draws its order and only reads -/
def EQ (P : Program) (n : Nat) (L : List Oper) (C : World → Prop) (Z : Act → Prop) (rest : List Oper) (σ : Sg) : Prop := ∀ a, Env n σ a → wpQuiet P L.toArray C Z rest a
theorem EQ.nil {C : World → Prop} {Z : Act → Prop} (h : ∀ a, Env n σ a → Z a) : EQ P n L C Z [] σ := fun a ha => wpQuiet_nil (h a ha)
theorem wpQ_run {C : World → Prop} {Z : Act → Prop} {o : Oper} {a : Act} (hg : Region.wanted o (yielded L.toArray a.tmps) = true) {v : Value} (hr : ∀ w, C w → (execOp a.eval o).run P w = .ok (.value v) w) (hk : wpQuiet P L.toArray C Z rest (a.put o.dst v)) : wpQuiet P L.toArray C Z (o :: rest) a := by
  unfold wpQuiet
  rw [if_pos hg]
  refine ⟨v, fun w hw => ?_, hk⟩
  unfold Oper.quietAt
  rw [hr w hw]
  exact ⟨rfl, rfl⟩
theorem EQ.val {C : World → Prop} {Z : Act → Prop} {d ty : Nat} {op : Op} {pos : String} {af : Array Edge} {v : Value} (h : ∀ w, C w → Gives P n σ w ⟨some d, op, ty, pos, af, none⟩ v) (hd : Nat.blt d n = true) (k : EQ P n L C Z rest (ins σ d v)) : EQ P n L C Z (⟨some d, op, ty, pos, af, none⟩ :: rest) σ :=
  fun a ha => wpQ_run (wanted_none rfl _) (fun w hw => h w hw a ha) (k _ (ha.put hd v))
theorem EQ.valg {C : World → Prop} {Z : Act → Prop} {d ty j t : Nat} {b : Bool} {op : Op} {pos : String} {af : Array Edge} {v : Value} (hj : dstOf L j = some t) (ht : σ t = some (.bool b)) (h : ∀ w, C w → Gives P n σ w ⟨some d, op, ty, pos, af, some (j, b)⟩ v) (hd : Nat.blt d n = true) (k : EQ P n L C Z rest (ins σ d v)) : EQ P n L C Z (⟨some d, op, ty, pos, af, some (j, b)⟩ :: rest) σ :=
  fun a ha => wpQ_run (by simp [Region.wanted, yield_of ha hj ht]) (fun w hw => h w hw a ha) (k _ (ha.put hd v))
theorem EQ.skip {C : World → Prop} {Z : Act → Prop} {d ty j t : Nat} {b : Bool} {op : Op} {pos : String} {af : Array Edge} {u : Value} (hj : dstOf L j = some t) (ht : σ t = some u) (hb : yieldsB b u = false) (hd : Nat.blt d n = true) (k : EQ P n L C Z rest (ins σ d undef)) : EQ P n L C Z (⟨some d, op, ty, pos, af, some (j, b)⟩ :: rest) σ := fun a ha => by
  unfold wpQuiet
  have hw : Region.wanted (⟨some d, op, ty, pos, af, some (j, b)⟩ : Oper) (yielded L.toArray a.tmps) = false := by
    simp only [Region.wanted, yield_of ha hj ht]
    cases u <;> first | rfl | (simp only [yieldsB] at hb; simpa using hb)
  rw [hw, if_neg (by simp)]
  exact k _ (ha.put hd undef)
theorem EQ.call {C : World → Prop} {Z : Act → Prop} {d ty : Nat} {op : Op} {pos : String} {af : Array Edge} {f : FuncId} {args : Array Value} {v : Value} (hr : ∀ w a, C w → Env n σ a → (execOp a.eval ⟨some d, op, ty, pos, af, none⟩).run P w = .ok (.enter f args) w) (hd : Nat.blt d n = true) (hc : ∀ w, C w → Calls P f args w fun e w' => e = .returned v ∧ C w')
    (k : EQ P n L C Z rest (ins σ d v)) : EQ P n L C Z (⟨some d, op, ty, pos, af, none⟩ :: rest) σ := fun a ha => by
  unfold wpQuiet
  rw [if_pos (wanted_none rfl _)]
  refine ⟨v, fun w hw => ?_, k _ (ha.put hd v)⟩
  unfold Oper.quietAt
  rw [hr w a hw ha]
  exact ⟨rfl, hc w hw⟩
theorem EQ.callg {C : World → Prop} {Z : Act → Prop} {d ty j t : Nat} {b : Bool} {op : Op} {pos : String} {af : Array Edge} {f : FuncId} {args : Array Value} {v : Value} (hj : dstOf L j = some t) (ht : σ t = some (.bool b)) (hr : ∀ w a, C w → Env n σ a → (execOp a.eval ⟨some d, op, ty, pos, af, some (j, b)⟩).run P w = .ok (.enter f args) w) (hd : Nat.blt d n = true) (hc : ∀ w, C w → Calls P f args w fun e w' => e = .returned v ∧ C w')
    (k : EQ P n L C Z rest (ins σ d v)) : EQ P n L C Z (⟨some d, op, ty, pos, af, some (j, b)⟩ :: rest) σ := fun a ha => by
  unfold wpQuiet
  rw [if_pos (by simp [Region.wanted, yield_of ha hj ht])]
  refine ⟨v, fun w hw => ?_, k _ (ha.put hd v)⟩
  unfold Oper.quietAt
  rw [hr w a hw ha]
  exact ⟨rfl, hc w hw⟩
/-- the class: below the heap's size nothing has turned -/
theorem EC.regionQ {id : Nat} {l : List Oper} (hm : P.follows .mixedOrders = true) (hB : lexQ l 0 l = true) (h : EQ P n l (fun w' => Below w.heap.size w w') (fun a' => ∀ w', Below w.heap.size w w' → Q .normal a' w') l σ) : EC P n (.region id l.toArray true) Q σ w :=
  fun a ha => wp_region_lexQ (C := fun w' => Below w.heap.size w w') hm hB ⟨rfl, rfl, rfl, Nat.le_refl _, fun _ _ => rfl⟩ (h a ha)
theorem EQ.fin (h : ∀ w', Below w.heap.size w w' → EX n Q .normal σ w') : EQ P n L (fun w' => Below w.heap.size w w') (fun a' => ∀ w', Below w.heap.size w w' → Q .normal a' w') [] σ := EQ.nil fun a ha w' hw => h w' hw a ha
end

/-! ### What the operations yield -/
section
variable {P : Program} {n : Nat} {σ : Sg} {w : World} {dst : Option Tmp} {ty : TypeId} {pos : String} {af : Array Edge} {g : Option (Nat × Bool)} {x y z : Operand} {t t' : TypeId} {v : Value} {k : IntKind} {a b c : Int} {r : Bool}
theorem x_move (hx : evS σ x = some v) : Gives P n σ w ⟨dst, .move x, ty, pos, af, g⟩ v := fun a ha => by
  simp only [execOp, ha.eval hx]; rfl
theorem x_assign (hx : evS σ x = some v) : Gives P n σ w ⟨dst, .assign x, ty, pos, af, g⟩ v := fun a ha => by
  simp only [execOp, ha.eval hx]; rfl
theorem x_add (hx : evS σ x = some (.int k a)) (hy : evS σ y = some (.int k b)) (hc : k.wrap (a + b) = c) : Gives P n σ w ⟨dst, .binOp .add t x y t', ty, pos, af, g⟩ (.int k c) := fun _ ha => by
  simp only [execOp, ha.eval hx, ha.eval hy]
  simp [go_sem, hc]
theorem x_sub (hx : evS σ x = some (.int k a)) (hy : evS σ y = some (.int k b)) (hc : k.wrap (a - b) = c) : Gives P n σ w ⟨dst, .binOp .sub t x y t', ty, pos, af, g⟩ (.int k c) := fun _ ha => by
  simp only [execOp, ha.eval hx, ha.eval hy]
  simp [go_sem, hc]
theorem x_mul (hx : evS σ x = some (.int k a)) (hy : evS σ y = some (.int k b)) (hc : k.wrap (a * b) = c) : Gives P n σ w ⟨dst, .binOp .mul t x y t', ty, pos, af, g⟩ (.int k c) := fun _ ha => by
  simp only [execOp, ha.eval hx, ha.eval hy]
  simp [go_sem, hc]
theorem x_quo (hx : evS σ x = some (.int k a)) (hy : evS σ y = some (.int k b)) (hb : b ≠ 0) (hc : k.wrap (a.tdiv b) = c) : Gives P n σ w ⟨dst, .binOp .quo t x y t', ty, pos, af, g⟩ (.int k c) := fun _ ha => by
  simp only [execOp, ha.eval hx, ha.eval hy]
  simp [go_sem, hc, hb]
theorem x_rem (hx : evS σ x = some (.int k a)) (hy : evS σ y = some (.int k b)) (hb : b ≠ 0) (hc : a.tmod b = c) : Gives P n σ w ⟨dst, .binOp .rem t x y t', ty, pos, af, g⟩ (.int k c) := fun _ ha => by
  simp only [execOp, ha.eval hx, ha.eval hy]
  simp [go_sem, hc, hb]
theorem x_lss (hx : evS σ x = some (.int k a)) (hy : evS σ y = some (.int k b)) (hc : decide (a < b) = r) : Gives P n σ w ⟨dst, .binOp .lss t x y t', ty, pos, af, g⟩ (.bool r) := fun _ ha => by
  simp only [execOp, ha.eval hx, ha.eval hy]
  simp [go_sem, ← hc]
theorem x_leq (hx : evS σ x = some (.int k a)) (hy : evS σ y = some (.int k b)) (hc : decide (a ≤ b) = r) : Gives P n σ w ⟨dst, .binOp .leq t x y t', ty, pos, af, g⟩ (.bool r) := fun _ ha => by
  simp only [execOp, ha.eval hx, ha.eval hy]
  simp [go_sem, ← hc]
theorem x_gtr (hx : evS σ x = some (.int k a)) (hy : evS σ y = some (.int k b)) (hc : decide (b < a) = r) : Gives P n σ w ⟨dst, .binOp .gtr t x y t', ty, pos, af, g⟩ (.bool r) := fun _ ha => by
  simp only [execOp, ha.eval hx, ha.eval hy]
  simp [go_sem, ← hc]
theorem x_geq (hx : evS σ x = some (.int k a)) (hy : evS σ y = some (.int k b)) (hc : decide (b ≤ a) = r) : Gives P n σ w ⟨dst, .binOp .geq t x y t', ty, pos, af, g⟩ (.bool r) := fun _ ha => by
  simp only [execOp, ha.eval hx, ha.eval hy]
  simp [go_sem, ← hc]
theorem x_eql (hx : evS σ x = some (.int k a)) (hy : evS σ y = some (.int k b)) (hc : decide (a = b) = r) : Gives P n σ w ⟨dst, .binOp .eql t x y t', ty, pos, af, g⟩ (.bool r) := fun _ ha => by
  simp only [execOp, ha.eval hx, ha.eval hy]
  simp [go_sem, ← hc]
  by_cases h : a = b <;> simp [h]
theorem x_neq (hx : evS σ x = some (.int k a)) (hy : evS σ y = some (.int k b)) (hc : decide (a ≠ b) = r) : Gives P n σ w ⟨dst, .binOp .neq t x y t', ty, pos, af, g⟩ (.bool r) := fun _ ha => by
  simp only [execOp, ha.eval hx, ha.eval hy]
  simp [go_sem, ← hc]
  by_cases h : a = b <;> simp [h]
theorem x_neg (hx : evS σ x = some (.int k a)) (hc : k.wrap (-a) = c) : Gives P n σ w ⟨dst, .unOp .neg t x, ty, pos, af, g⟩ (.int k c) := fun _ ha => by
  simp only [execOp, ha.eval hx]
  simp [go_sem, hc]
theorem x_not (hx : evS σ x = some (.bool r)) : Gives P n σ w ⟨dst, .unOp .not t x, ty, pos, af, g⟩ (.bool (!r)) := fun _ ha => by
  simp only [execOp, ha.eval hx]
  simp [go_sem]
theorem x_pick_t (hx : evS σ x = some (.bool true)) (hy : evS σ y = some v) : Gives P n σ w ⟨dst, .pick x y z, ty, pos, af, g⟩ v := fun _ ha => by
  simp only [execOp, ha.eval hx, ha.eval hy]
  simp [go_sem]
theorem x_pick_f (hx : evS σ x = some (.bool false)) (hy : evS σ z = some v) : Gives P n σ w ⟨dst, .pick x y z, ty, pos, af, g⟩ v := fun _ ha => by
  simp only [execOp, ha.eval hx, ha.eval hy]
  simp [go_sem]
theorem x_extract {vs : Array Value} {i : Nat} (hx : evS σ x = some (.tuple vs)) (hi : vs[i]? = some v) : Gives P n σ w ⟨dst, .extract x i, ty, pos, af, g⟩ v := fun _ ha => by
  simp only [execOp, ha.eval hx]
  simp [go_sem, hi]
theorem x_nilCheck {p : Addr} (hx : evS σ x = some (.pointer (some p))) : Gives P n σ w ⟨dst, .nilCheck x, ty, pos, af, g⟩ (.pointer (some p)) := fun _ ha => by
  simp only [execOp, ha.eval hx]
  simp [go_sem]
end
end Go.Proofs.Ytncnlhkmdljgpaa
