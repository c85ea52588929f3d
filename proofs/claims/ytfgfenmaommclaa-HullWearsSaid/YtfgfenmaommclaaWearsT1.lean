/- E0, E1, Inv, E3, E2, E4, E5, E6, E7, RvAux, ExR, W1, WayMath, ExR2, W2, ExR26, W26, E8, E9, E10, E11: what HullWearsProof needs of them (merged by trimpack.py). -/
import Derived.Deep.Quiet
import Derived.Tactics
import Derived.Scope
import Derived.IntWalk
import Derived.WalkKit
import Derived.Below
import Derived.Deep.LoopGhost
import Derived.Orders
import Derived.Laws.CopyRow
import Derived.RangeFuncNested
import Derived.RangeFuncBound
import Derived.RangeFuncFrom
import Derived.RangeFuncCalls
import Derived.RangeFuncLeaves
import Derived.Shelf.Abstract
import Derived.TacticsIn
import Derived.Sort.LoopGhostIn
import Derived.OrdersIn
import Derived.Lib.AppendZeros
import Derived.Maps.RangeWalk
import Derived.Deep.Slices
import Derived.Deep.Fields
import Derived.ChangeSame
import Derived.Lib.SmallJoins
import Derived.OpenShut
import Derived.ShutString
import Derived.ChangeOld
import Derived.Test.YtfgfenmaommclaaBase6
import Derived.Test.YtfgfenmaommclaaV9
import Derived.Test.YtfgfenmaommclaaV16
import Derived.Test.YtfgfenmaommclaaRows
import Derived.Test.YtfgfenmaommclaaV15
import Derived.Test.YtfgfenmaommclaaProg
set_option linter.unusedVariables false
set_option linter.unusedSimpArgs false
namespace Go.Proofs.Ytfgfenmaommclaa
open Go
/-- the dst of operation j -/
def ZQ : List Oper → Nat → Option Tmp
 | [], _ => none
 | o :: _, 0 => o.dst
 | _ :: l, j + 1 => ZQ l j
def nthO : List Oper → Nat → Option Oper
 | [], _ => none
 | o :: _, 0 => some o
 | _ :: l, j + 1 => nthO l j
/-- all that binds lies before k -/
def QEC (k : Nat) : List Edge → Bool
 | [] => true
 | e :: l => bif Region.binds .any e then (bif Nat.blt e.on k then QEC k l else false) else QEC k l
theorem QDa : ∀ (l : List Oper) (j : Nat), (l.toArray[j]?).bind (·.dst) = ZQ l j
 | [], j => by simp [ZQ]
 | o :: l, 0 => by simp [ZQ]
 | o :: l, j + 1 => by
  have := QDa l j
  simpa [ZQ] using this
theorem QEw {k : Nat} : ∀ {l : List Edge}, QEC k l = true → ∀ e ∈ l, Region.binds .any e = true → e.on < k
 | [], _, _, h, _ => by cases h
 | x :: l, h, e, he, hb => by
  unfold QEC at h
  cases h1 : Region.binds .any x with
  | true =>
   rw [h1] at h
   cases h2 : Nat.blt x.on k with
   | false => rw [h2] at h; cases h
   | true =>
    rw [h2] at h
    rcases List.mem_cons.1 he with rfl | he
    ·simpa [Nat.blt_eq] using h2
    ·exact QEw h e he hb
  | false =>
   rw [h1] at h
   rcases List.mem_cons.1 he with rfl | he
   ·rw [h1] at hb; cases hb
   ·exact QEw h e he hb
section
variable {P : Program} {C : World → Prop} {L : List Oper}
end
end Go.Proofs.Ytfgfenmaommclaa
namespace Go.Proofs.Ytfgfenmaommclaa
open Go Go.RowKit
abbrev Sg := Nat → Option Value
def ins (σ : Sg) (d : Nat) (v : Value) : Sg := fun s => bif Nat.beq s d then some v else σ s
def memB : List Nat → Nat → Bool
 | [], _ => false
 | d :: ds, s => bif Nat.beq s d then true else memB ds s
def del (σ : Sg) (ds : List Nat) : Sg := fun s => bif memB ds s then none else σ s
/-- slots k, k + 1, .. -/
def QDg : List Value → Nat → Sg
 | [], _, _ => none
 | v :: l, k, s => bif Nat.beq s k then some v else QDg l (k + 1) s
def evS (σ : Sg) : Operand → Option Value
 | .tmp t => σ t
 | .const v => some v
 | .global g => some (.pointer (some ⟨g, 0, none⟩))
 | .func f => some (.func (.func f) #[] #[])
structure Env (n : Nat) (σ : Sg) (a : Act) : Prop where
 size : a.tmps.size = n
 defers : a.defers = []
 get : ∀ t v, σ t = some v → a.tmps[t]? = some v
section
variable {n : Nat} {σ τ : Sg} {a : Act}
theorem Env.eval (h : Env n σ a) {x : Operand} {v : Value} (hx : evS σ x = some v) : a.eval x = v := by
 cases x with
 | tmp t => simp only [Act.eval, Array.getD_eq_getD_getElem?, h.get t v hx, Option.getD_some]
 | const u => injection hx
 | global g => injection hx
 | func f => injection hx
theorem Env.put (h : Env n σ a) {d : Nat} (hd : Nat.blt d n = true) (v : Value) : Env n (ins σ d v) (a.put (some d) v) := by
 have hd' : d < n := by simpa [Nat.blt_eq] using hd
 refine ⟨by simp [Act.put, h.size], h.defers, fun t u ht => ?_⟩
 simp only [Act.put, Array.getElem?_setIfInBounds]
 unfold ins at ht
 cases e : Nat.beq t d with
 | true =>
  have e' := Nat.eq_of_beq_eq_true e;subst e';rw [e] at ht;rw [if_pos rfl, if_pos (by rw [h.size]; exact hd')]
  exact ht
 | false =>
  have e' := Nat.ne_of_beq_eq_false e;rw [e] at ht;rw [if_neg (Ne.symm e')]
  exact h.get t u ht
def Sub (τ σ : Sg) : Prop := ∀ t v, τ t = some v → σ t = some v
theorem Env.sub (h : Env n σ a) (hs : Sub τ σ) : Env n τ a := ⟨h.size, h.defers, fun t v ht => h.get t v (hs t v ht)⟩
theorem Sub.refl (σ : Sg) : Sub σ σ := fun _ _ h => h
theorem Sub.del (h : Sub τ σ) (ds : List Nat) : Sub (del τ ds) σ := fun t v ht => by
 unfold Go.Proofs.Ytfgfenmaommclaa.del at ht
 cases e : memB ds t with
 | true => rw [e] at ht; cases ht
 | false => rw [e] at ht; exact h t v ht
theorem Sub.ins (h : Sub τ σ) {d : Nat} {v : Value} (hd : σ d = some v) : Sub (ins τ d v) σ := fun t u ht => by
 unfold Go.Proofs.Ytfgfenmaommclaa.ins at ht
 cases e : Nat.beq t d with
 | true =>
  have e' := Nat.eq_of_beq_eq_true e;subst e';rw [e] at ht;rw [hd]
  exact ht
 | false => rw [e] at ht; exact h t u ht
/-- a slot that τ does not speak of -/
theorem Sub.skip (h : Sub τ σ) {d : Nat} {v : Value} (hd : τ d = none) : Sub τ (Go.Proofs.Ytfgfenmaommclaa.ins σ d v) := fun t u ht => by
 unfold Go.Proofs.Ytfgfenmaommclaa.ins
 cases e : Nat.beq t d with
 | true =>
  have e' := Nat.eq_of_beq_eq_true e;subst e';rw [hd] at ht
  cases ht
 | false => exact h t u ht
theorem Sub.nil (σ : Sg) : Sub (fun _ => none) σ := fun _ _ h => by cases h
end
section
variable {P : Program} {n : Nat} {σ τ : Sg} {w : World} {Q : Exit → Act → World → Prop} {L : List Oper} {rest : List Oper}
/-- what an operation yields, the world as it was -/
def ZE (P : Program) (n : Nat) (σ : Sg) (w : World) (o : Oper) (v : Value) : Prop := ∀ a, Env n σ a → (execOp a.eval o).run P w = .ok (.value v) w
def EL (P : Program) (n : Nat) (L : List Oper) (Q : Exit → Act → World → Prop) (rest : List Oper) (σ : Sg) (w : World) : Prop := ∀ a, Env n σ a → wpList P L.toArray Q rest a w
def EC (P : Program) (n : Nat) (c : Code) (Q : Exit → Act → World → Prop) (σ : Sg) (w : World) : Prop := ∀ a, Env n σ a → c.wp P Q a w
def EX (n : Nat) (Q : Exit → Act → World → Prop) (e : Exit) (σ : Sg) (w : World) : Prop := ∀ a, Env n σ a → Q e a w
theorem EL.nil (h : EX n Q .normal σ w) : EL P n L Q [] σ w := fun a ha => wpList_nil (h a ha)
theorem QAQ {o : Oper} {a : Act} (hg : Region.wanted o (yielded L.toArray a.tmps) = true) {v : Value} {w' : World} (hr : (execOp a.eval o).run P w = .ok (.value v) w') (hk : wpList P L.toArray Q rest (a.put o.dst v) w') : wpList P L.toArray Q (o :: rest) a w := by
 unfold wpList
 rw [if_pos hg]
 left
 unfold Oper.wp
 rw [hr]
 exact hk
theorem Ym {a : Act} (ha : Env n σ a) {j : Nat} {t : Tmp} {v : Value} (hj : ZQ L j = some t) (ht : σ t = some v) : yielded L.toArray a.tmps j = match v with | .bool b => some b | _ => none := by
 unfold yielded
 rw [QDa, hj, Option.bind_some, ha.get t v ht]
 cases v <;> rfl
theorem ZX {o : Oper} (h : o.guard = none) (y : Nat → Option Bool) : Region.wanted o y = true := by simp [Region.wanted, h]
/-- the rules for one operation -/
theorem EL.val {d ty : Nat} {op : Op} {pos : String} {af : Array Edge} {v : Value} (h : ZE P n σ w ⟨some d, op, ty, pos, af, none⟩ v) (hd : Nat.blt d n = true) (k : EL P n L Q rest (ins σ d v) w) : EL P n L Q (⟨some d, op, ty, pos, af, none⟩ :: rest) σ w :=
 fun a ha => QAQ (ZX rfl _) (h a ha) (k _ (ha.put hd v))
theorem EL.valg {d ty j t : Nat} {b : Bool} {op : Op} {pos : String} {af : Array Edge} {v : Value} (hj : ZQ L j = some t) (ht : σ t = some (.bool b)) (h : ZE P n σ w ⟨some d, op, ty, pos, af, some (j, b)⟩ v) (hd : Nat.blt d n = true) (k : EL P n L Q rest (ins σ d v) w) : EL P n L Q (⟨some d, op, ty, pos, af, some (j, b)⟩ :: rest) σ w :=
 fun a ha => QAQ (by simp [Region.wanted, Ym ha hj ht]) (h a ha) (k _ (ha.put hd v))
def QAz (b : Bool) : Value → Bool
 | .bool c => c == b
 | _ => false
theorem EL.skip {d ty j t : Nat} {b : Bool} {op : Op} {pos : String} {af : Array Edge} {u : Value} (hj : ZQ L j = some t) (ht : σ t = some u) (hb : QAz b u = false) (hd : Nat.blt d n = true) (k : EL P n L Q rest (ins σ d undef) w) : EL P n L Q (⟨some d, op, ty, pos, af, some (j, b)⟩ :: rest) σ w := fun a ha => by
 unfold wpList
 have hw : Region.wanted (⟨some d, op, ty, pos, af, some (j, b)⟩ : Oper) (yielded L.toArray a.tmps) = false := by
  simp only [Region.wanted, Ym ha hj ht]
  cases u <;> first | rfl | (simp only [QAz] at hb; simpa using hb)
 rw [hw, if_neg (by simp)]
 exact k _ (ha.put hd undef)
/-- an operation that yields a value and turns the world: what is known behind it -/
theorem EL.turn {d ty : Nat} {op : Op} {pos : String} {af : Array Edge} (v : Value) (w' : World) (h : ∀ a, Env n σ a → (execOp a.eval ⟨some d, op, ty, pos, af, none⟩).run P w = .ok (.value v) w') (hd : Nat.blt d n = true) (k : EL P n L Q rest (ins σ d v) w') : EL P n L Q (⟨some d, op, ty, pos, af, none⟩ :: rest) σ w :=
 fun a ha => QAQ (ZX rfl _) (h a ha) (k _ (ha.put hd v))
theorem QE0 {o : Oper} {a : Act} (hg : Region.wanted o (yielded L.toArray a.tmps) = true) {f : FuncId} {args : Array Value} (hr : (execOp a.eval o).run P w = .ok (.enter f args) w) {R : Ending → World → Prop} (hc : Calls P f args w R)
  (hk : ∀ e w', R e w' → ∃ v, e = .returned v ∧ wpList P L.toArray Q rest (a.put o.dst v) w') : wpList P L.toArray Q (o :: rest) a w := by
 unfold wpList
 rw [if_pos hg]
 left
 unfold Oper.wp
 rw [hr, Oper.upon_enter];refine hc.mono fun e w' he => ?_
 obtain ⟨v, rfl, hv⟩ := hk e w' he
 exact hv
/-- a call: what the operands are, the callee's contract, what is known behind it -/
theorem EL.call {d ty : Nat} {op : Op} {pos : String} {af : Array Edge} {f : FuncId} {args : Array Value} {R : Ending → World → Prop} (hr : ∀ a, Env n σ a → (execOp a.eval ⟨some d, op, ty, pos, af, none⟩).run P w = .ok (.enter f args) w) (hd : Nat.blt d n = true) (hc : Calls P f args w R)
  (k : ∀ e w', R e w' → ∃ v, e = .returned v ∧ EL P n L Q rest (ins σ d v) w') : EL P n L Q (⟨some d, op, ty, pos, af, none⟩ :: rest) σ w :=
 fun a ha => QE0 (ZX rfl _) (hr a ha) hc fun e w' he => by
  obtain ⟨v, h1, h2⟩ := k e w' he
  exact ⟨v, h1, h2 _ (ha.put hd v)⟩
theorem EL.callg {d ty j t : Nat} {b : Bool} {op : Op} {pos : String} {af : Array Edge} {f : FuncId} {args : Array Value} {R : Ending → World → Prop} (hj : ZQ L j = some t) (ht : σ t = some (.bool b)) (hr : ∀ a, Env n σ a → (execOp a.eval ⟨some d, op, ty, pos, af, some (j, b)⟩).run P w = .ok (.enter f args) w) (hd : Nat.blt d n = true) (hc : Calls P f args w R)
  (k : ∀ e w', R e w' → ∃ v, e = .returned v ∧ EL P n L Q rest (ins σ d v) w') : EL P n L Q (⟨some d, op, ty, pos, af, some (j, b)⟩ :: rest) σ w :=
 fun a ha => QE0 (by simp [Region.wanted, Ym ha hj ht]) (hr a ha) hc fun e w' he => by
  obtain ⟨v, h1, h2⟩ := k e w' he
  exact ⟨v, h1, h2 _ (ha.put hd v)⟩
/-! ### Code -/
theorem EC.sub {c : Code} (h : EC P n c Q τ w) (hs : Sub τ σ) : EC P n c Q σ w := fun a ha => h a (ha.sub hs)
theorem EX.sub {e : Exit} (h : EX n Q e τ w) (hs : Sub τ σ) : EX n Q e σ w := fun a ha => h a (ha.sub hs)
theorem EC.seq {x y : Code} (h : EC P n x (Exit.then (y.wp P Q) Q) σ w) : EC P n (.seq x y) Q σ w := fun a ha => wp_seq (h a ha)
theorem EC.region {id : Nat} {l : List Oper} (h : EL P n l Q l σ w) : EC P n (.region id l.toArray false) Q σ w := fun a ha => wp_region_lit (h a ha)
theorem EC.block {id : Nat} {c : Code} (h : EC P n c (Exit.inBlock id Q) σ w) : EC P n (.block id c) Q σ w := fun a ha => wp_block (h a ha)
theorem EC.skip (h : EX n Q .normal σ w) : EC P n .skip Q σ w := fun a ha => wp_skip (h a ha)
theorem EC.exit {id : Nat} (h : EX n Q (.exit id) σ w) : EC P n (.exit id) Q σ w := fun a ha => wp_exit (h a ha)
theorem EC.ret (h : EX n Q .ret σ w) : EC P n .ret Q σ w := fun a ha => wp_ret (h a ha)
theorem EC.yes {c : Operand} {x y : Code} (hc : evS σ c = some (.bool true)) (h : EC P n x Q σ w) : EC P n (.cond c x y) Q σ w := fun a ha => wp_cond_true (ha.eval hc) (h a ha)
theorem EC.no {c : Operand} {x y : Code} (hc : evS σ c = some (.bool false)) (h : EC P n y Q σ w) : EC P n (.cond c x y) Q σ w := fun a ha => wp_cond_false (ha.eval hc) (h a ha)
theorem EC.loop {c : Code} {ι : Type} (σI : ι → Sg) (I : ι → World → Prop) (μ : ι → Nat) (i0 : ι) (hs : Sub (σI i0) σ) (h0 : I i0 w)
  (round : ∀ i w, I i w → EC P n c (Exit.then (fun a' w' => ∃ i', Env n (σI i') a' ∧ I i' w' ∧ μ i' < μ i) Q) (σI i) w) : EC P n (.loop c) Q σ w := by
 intro a ha;refine wp_loop_ghost (fun k a w => ∃ i, Env n (σI i) a ∧ I i w ∧ μ i = k) (μ i0) ⟨i0, ha.sub hs, h0, rfl⟩ fun k a w hI => ?_
 obtain ⟨i, h1, h2, rfl⟩ := hI;refine wp_mono (round i w h2 a h1) fun e a' w' hq => ?_
 cases e with
 | normal =>
  obtain ⟨i', h4, h5, h6⟩ := hq
  exact ⟨μ i', h6, i', h4, h5, rfl⟩
 | _ => exact hq
/-! ### Exits -/
theorem EX.seq {y : Code} (h : EC P n y Q σ w) : EX n (Exit.then (y.wp P Q) Q) .normal σ w := h
theorem EX.seq_exit {K : Act → World → Prop} {i : Nat} (h : EX n Q (.exit i) σ w) : EX n (Exit.then K Q) (.exit i) σ w := h
theorem EX.seq_ret {K : Act → World → Prop} (h : EX n Q .ret σ w) : EX n (Exit.then K Q) .ret σ w := h
theorem EX.blk {id : Nat} (h : EX n Q .normal σ w) : EX n (Exit.inBlock id Q) .normal σ w := h
theorem EX.blk_ret {id : Nat} (h : EX n Q .ret σ w) : EX n (Exit.inBlock id Q) .ret σ w := h
theorem EX.blk_here {id : Nat} (h : EX n Q .normal σ w) : EX n (Exit.inBlock id Q) (.exit id) σ w := fun a ha => by
 simp only [Exit.inBlock, if_true]
 exact h a ha
/-- a loop's round is done -/
theorem EX.round {ι : Type} {σI : ι → Sg} {I : ι → World → Prop} {μ : ι → Nat} {i : ι} (i' : ι) (hs : Sub (σI i') σ) (hI : I i' w) (hm : μ i' < μ i) : EX n (Exit.then (fun a' w' => ∃ i', Env n (σI i') a' ∧ I i' w' ∧ μ i' < μ i) Q) .normal σ w :=
 fun _ ha => ⟨i', ha.sub hs, hI, hm⟩
/-! ### Loops, over the slots that the body leaves alone -/
def insL (σ : Sg) : List (Nat × Value) → Sg
 | [] => σ
 | p :: l => ins (insL σ l) p.1 p.2
def QBU (σ : Sg) : List (Nat × Value) → Prop
 | [] => True
 | p :: l => σ p.1 = some p.2 ∧ QBU σ l
theorem QAJ (h : Sub τ σ) : ∀ {l : List (Nat × Value)}, QBU σ l → Sub (insL τ l) σ
 | [], _ => h
 | _ :: _, ha => Sub.ins (QAJ h ha.2) ha.1
theorem QIQ {σ0 : Sg} {ds : List Nat} {d : Nat} {v : Value} (hd : memB ds d = true) (h : Sub (del σ0 ds) τ) : Sub (del σ0 ds) (ins τ d v) :=
 h.skip (by unfold del; rw [hd]; rfl)
def QDj : List Nat → List Nat → Bool
 | [], _ => true
 | d :: l, ds => bif memB ds d then QDj l ds else false
theorem QCV : ∀ {l ds : List Nat}, QDj l ds = true → ∀ t, memB l t = true → memB ds t = true
 | [], _, _, t, h => by cases h
 | d :: l, ds, h, t, ht => by
  unfold QDj at h
  cases e : memB ds d with
  | false => rw [e] at h; cases h
  | true =>
   rw [e] at h
   unfold memB at ht
   cases e2 : Nat.beq t d with
   | true => rw [Nat.eq_of_beq_eq_true e2]; exact e
   | false => rw [e2] at ht; exact QCV h t ht
/-- through an inner loop -/
theorem QJv {σ0 : Sg} {ds ds2 : List Nat} (hd : QDj ds2 ds = true) (h : Sub (del σ0 ds) τ) : Sub (del σ0 ds) (del τ ds2) := fun t v ht => by
 have hn : memB ds2 t = false := by
  rcases Bool.eq_false_or_eq_true (memB ds2 t) with h1 | h1
  ·have := QCV hd t h1
   unfold del at ht
   rw [this] at ht
   cases ht
  ·exact h1
 have h2 := h t v ht
 unfold del
 rw [hn]
 exact h2
theorem QEO {σ0 : Sg} (h : Sub σ0 τ) : Sub σ0 (insL τ []) := h
theorem EC.loopD {c : Code} {ι : Type} (ds : List Nat) (vs : ι → List (Nat × Value)) (I : ι → World → Prop) (μ : ι → Nat) (i0 : ι) (h0 : I i0 w) (hs : QBU σ (vs i0))
  (round : ∀ i w, I i w → EC P n c (Exit.then (fun a' w' => ∃ i', Env n (insL (del σ ds) (vs i')) a' ∧ I i' w' ∧ μ i' < μ i) Q) (insL (del σ ds) (vs i)) w) : EC P n (.loop c) Q σ w :=
 EC.loop (fun i => insL (del σ ds) (vs i)) I μ i0 (QAJ ((Sub.refl σ).del ds) hs) h0 round
theorem EX.roundD {ι : Type} {σ0 : Sg} {ds : List Nat} {vs : ι → List (Nat × Value)} {I : ι → World → Prop} {μ : ι → Nat} {i : ι} (i' : ι) (hv : QBU σ (vs i')) (hd : Sub (del σ0 ds) σ) (hI : I i' w) (hm : μ i' < μ i) : EX n (Exit.then (fun a' w' => ∃ i', Env n (insL (del σ0 ds) (vs i')) a' ∧ I i' w' ∧ μ i' < μ i) Q) .normal σ w :=
 fun _ ha => ⟨i', ha.sub (QAJ hd hv), hI, hm⟩
/-! ### A call's beginning and end -/
theorem QFp : ∀ (l : List Value) (k t : Nat) (v : Value), QDg l k t = some v → k ≤ t ∧ l[t - k]? = some v
 | [], _, _, _, h => by cases h
 | u :: l, k, t, v, h => by
  unfold QDg at h
  cases e : Nat.beq t k with
  | true =>
   have e' := Nat.eq_of_beq_eq_true e;subst e';rw [e] at h
   injection h with h
   simp [h]
  | false =>
   have e' := Nat.ne_of_beq_eq_false e;rw [e] at h;have := QFp l (k + 1) t v h;refine ⟨by omega, ?_⟩
   rw [show t - k = (t - (k + 1)) + 1 by omega]
   simpa using this.2
theorem QFg {l : List Value} (hn : l.length ≤ n) : Env n (QDg l 0) { tmps := l.toArray ++ Array.replicate (n - l.length) undef, defers := [] } := by
 refine ⟨by simp; omega, rfl, fun t v h => ?_⟩
 have h1 := (QFp l 0 t v h).2;have h2 : t < l.length := by
  rcases Nat.lt_or_ge t l.length with h' | h'
  ·exact h'
  ·rw [Nat.sub_zero, List.getElem?_eq_none h'] at h1; cases h1
 rw [Array.getElem?_append_left (by simpa using h2)]
 simpa using h1
theorem EC.calls {f : FuncId} {fn : Func} {c : Code} {args : List Value} {R : Ending → World → Prop} (hf : P.funcs[f]? = some fn) (hb : fn.body = some c) (hn : Nat.ble args.length fn.ntmps = true) (h : EC P fn.ntmps c (bodyPost P fn R) (QDg args 0) w) : Calls P f args.toArray w R :=
 calls_of_wp hf hb (by
  have := h _ (QFg (l := args) (by simpa [Nat.ble_eq] using hn))
  simpa using this)
theorem EC.enter {f : FuncId} {fn : Func} {c : Code} {args : List Value} {R : Ending → World → Prop} (n : Nat) (hf : P.funcs[f]? = some fn) (hb : fn.body = some c) (hn : fn.ntmps = n) (hl : Nat.ble args.length n = true) (h : EC P n c (bodyPost P fn R) (QDg args 0) w) : Calls P f args.toArray w R := by
 subst hn
 exact EC.calls hf hb hl h
theorem EX.done {fn : Func} {R : Ending → World → Prop} {v : Value} (hr : ∀ a, Env n σ a → (results fn a.tmps).run P w = .ok v w) (h : R (.returned v) w) : EX n (bodyPost P fn R) .ret σ w := fun a ha => ⟨ha.defers, v, hr a ha, h⟩
theorem res0 {fn : Func} (h : fn.results = #[]) (a : Act) (_ : Env n σ a) : (results fn a.tmps).run P w = .ok (.tuple #[]) w := results_none h _ P w
theorem res1 {fn : Func} {t : Tmp} {v : Value} (h : fn.results = #[.tmp t]) (ht : σ t = some v) (a : Act) (ha : Env n σ a) : (results fn a.tmps).run P w = .ok v w := by
 rw [results_tmp h];have := ha.eval (x := .tmp t) ht
 exact congrArg (fun v => Result.ok v w) this
theorem res2 {fn : Func} {t s : Tmp} {v u : Value} (h : fn.results = #[.tmp t, .tmp s]) (ht : σ t = some v) (hs : σ s = some u) (a : Act) (ha : Env n σ a) : (results fn a.tmps).run P w = .ok (.tuple #[v, u]) w := by
 rw [results_tmp2 h];have h1 : a.tmps.getD t undef = v := ha.eval (x := .tmp t) ht;have h2 : a.tmps.getD s undef = u := ha.eval (x := .tmp s) hs;rw [h1, h2]
end
/-! ### What the operations yield -/
section
variable {P : Program} {n : Nat} {σ : Sg} {w : World} {dst : Option Tmp} {ty : TypeId} {pos : String} {af : Array Edge} {g : Option (Nat × Bool)} {x y z : Operand} {t t' : TypeId} {v : Value} {k : IntKind} {a b c : Int} {r : Bool}
theorem ZH (hx : evS σ x = some v) : ZE P n σ w ⟨dst, .move x, ty, pos, af, g⟩ v := fun a ha => by
 simp only [execOp, ha.eval hx]; rfl
theorem Zh (hx : evS σ x = some v) : ZE P n σ w ⟨dst, .assign x, ty, pos, af, g⟩ v := fun a ha => by
 simp only [execOp, ha.eval hx]; rfl
theorem ZM (hx : evS σ x = some (.int k a)) (hy : evS σ y = some (.int k b)) (hc : k.wrap (a + b) = c) : ZE P n σ w ⟨dst, .binOp .add t x y t', ty, pos, af, g⟩ (.int k c) := fun _ ha => by
 simp only [execOp, ha.eval hx, ha.eval hy]
 simp [go_sem, hc]
theorem Z4 (hx : evS σ x = some (.int k a)) (hy : evS σ y = some (.int k b)) (hc : k.wrap (a - b) = c) : ZE P n σ w ⟨dst, .binOp .sub t x y t', ty, pos, af, g⟩ (.int k c) := fun _ ha => by
 simp only [execOp, ha.eval hx, ha.eval hy]
 simp [go_sem, hc]
theorem QAc (hx : evS σ x = some (.int k a)) (hy : evS σ y = some (.int k b)) (hc : k.wrap (a * b) = c) : ZE P n σ w ⟨dst, .binOp .mul t x y t', ty, pos, af, g⟩ (.int k c) := fun _ ha => by
 simp only [execOp, ha.eval hx, ha.eval hy]
 simp [go_sem, hc]
theorem QGY (hx : evS σ x = some (.int k a)) (hy : evS σ y = some (.int k b)) (hb : b ≠ 0) (hc : k.wrap (a.tdiv b) = c) : ZE P n σ w ⟨dst, .binOp .quo t x y t', ty, pos, af, g⟩ (.int k c) := fun _ ha => by
 simp only [execOp, ha.eval hx, ha.eval hy]
 simp [go_sem, hc, hb]
theorem QCq (hx : evS σ x = some (.int k a)) (hy : evS σ y = some (.int k b)) (hb : b ≠ 0) (hc : a.tmod b = c) : ZE P n σ w ⟨dst, .binOp .rem t x y t', ty, pos, af, g⟩ (.int k c) := fun _ ha => by
 simp only [execOp, ha.eval hx, ha.eval hy]
 simp [go_sem, hc, hb]
theorem ZO (hx : evS σ x = some (.int k a)) (hy : evS σ y = some (.int k b)) (hc : decide (a < b) = r) : ZE P n σ w ⟨dst, .binOp .lss t x y t', ty, pos, af, g⟩ (.bool r) := fun _ ha => by
 simp only [execOp, ha.eval hx, ha.eval hy]
 simp [go_sem, ← hc]
theorem QAa (hx : evS σ x = some (.int k a)) (hy : evS σ y = some (.int k b)) (hc : decide (a ≤ b) = r) : ZE P n σ w ⟨dst, .binOp .leq t x y t', ty, pos, af, g⟩ (.bool r) := fun _ ha => by
 simp only [execOp, ha.eval hx, ha.eval hy]
 simp [go_sem, ← hc]
theorem YP (hx : evS σ x = some (.int k a)) (hy : evS σ y = some (.int k b)) (hc : decide (b < a) = r) : ZE P n σ w ⟨dst, .binOp .gtr t x y t', ty, pos, af, g⟩ (.bool r) := fun _ ha => by
 simp only [execOp, ha.eval hx, ha.eval hy]
 simp [go_sem, ← hc]
theorem QAA (hx : evS σ x = some (.int k a)) (hy : evS σ y = some (.int k b)) (hc : decide (b ≤ a) = r) : ZE P n σ w ⟨dst, .binOp .geq t x y t', ty, pos, af, g⟩ (.bool r) := fun _ ha => by
 simp only [execOp, ha.eval hx, ha.eval hy]
 simp [go_sem, ← hc]
theorem Zg (hx : evS σ x = some (.int k a)) (hy : evS σ y = some (.int k b)) (hc : decide (a = b) = r) : ZE P n σ w ⟨dst, .binOp .eql t x y t', ty, pos, af, g⟩ (.bool r) := fun _ ha => by
 simp only [execOp, ha.eval hx, ha.eval hy]
 simp [go_sem, ← hc]
 by_cases h : a = b <;> simp [h]
theorem Zq (hx : evS σ x = some (.int k a)) (hy : evS σ y = some (.int k b)) (hc : decide (a ≠ b) = r) : ZE P n σ w ⟨dst, .binOp .neq t x y t', ty, pos, af, g⟩ (.bool r) := fun _ ha => by
 simp only [execOp, ha.eval hx, ha.eval hy]
 simp [go_sem, ← hc]
 by_cases h : a = b <;> simp [h]
theorem QLV (hx : evS σ x = some (.int k a)) (hc : k.wrap (-a) = c) : ZE P n σ w ⟨dst, .unOp .neg t x, ty, pos, af, g⟩ (.int k c) := fun _ ha => by
 simp only [execOp, ha.eval hx]
 simp [go_sem, hc]
theorem ZV (hx : evS σ x = some (.bool r)) : ZE P n σ w ⟨dst, .unOp .not t x, ty, pos, af, g⟩ (.bool (!r)) := fun _ ha => by
 simp only [execOp, ha.eval hx]
 simp [go_sem]
theorem Yn (hx : evS σ x = some (.bool true)) (hy : evS σ y = some v) : ZE P n σ w ⟨dst, .pick x y z, ty, pos, af, g⟩ v := fun _ ha => by
 simp only [execOp, ha.eval hx, ha.eval hy]
 simp [go_sem]
theorem YC (hx : evS σ x = some (.bool false)) (hy : evS σ z = some v) : ZE P n σ w ⟨dst, .pick x y z, ty, pos, af, g⟩ v := fun _ ha => by
 simp only [execOp, ha.eval hx, ha.eval hy]
 simp [go_sem]
theorem Z1 {vs : Array Value} {i : Nat} (hx : evS σ x = some (.tuple vs)) (hi : vs[i]? = some v) : ZE P n σ w ⟨dst, .extract x i, ty, pos, af, g⟩ v := fun _ ha => by
 simp only [execOp, ha.eval hx]
 simp [go_sem, hi]
theorem ZK {p : Addr} (hx : evS σ x = some (.pointer (some p))) : ZE P n σ w ⟨dst, .nilCheck x, ty, pos, af, g⟩ (.pointer (some p)) := fun _ ha => by
 simp only [execOp, ha.eval hx]
 simp [go_sem]
end
end Go.Proofs.Ytfgfenmaommclaa
namespace Go.Proofs.Ytfgfenmaommclaa
open Go
section
variable {P : Program} {ops : Array Oper} {Q : Exit → Act → World → Prop}
/-- every operation waits for earlier ones alone: by reckoning -/
def QCU (ops : Array Oper) : Bool := (List.range ops.size).all fun i => match ops[i]? with
 | some o => o.after.all fun e => !Region.binds .any e || decide (e.on < i)
 | none => true
theorem QDf (h : QCU ops = true) {i : Nat} {o : Oper} (ho : ops[i]? = some o) {e} (he : e ∈ o.after) (hb : Region.binds .any e = true) : e.on < i := by
 have hi := (Array.getElem?_eq_some_iff.1 ho).1;have h1 := List.all_eq_true.1 h i (List.mem_range.2 hi);rw [ho] at h1;have h2 := Array.all_eq_true_iff_forall_mem.1 h1 e he;rw [hb] at h2
 simpa using h2
def QC7 (n : Nat) (listed : Array Bool) : Nat := ((List.range n).filter fun j => !listed.getD j true).length
theorem QBd {n i : Nat} {listed : Array Bool} (hi : i < n) (hs : listed.size = n) (hl : listed.getD i true = false) : QC7 n (listed.setIfInBounds i true) < QC7 n listed := by
 unfold QC7
 have e : (List.range n).filter (fun j => !(listed.setIfInBounds i true).getD j true) = ((List.range n).filter fun j => !listed.getD j true).filter fun j => !(listed.setIfInBounds i true).getD j true := by
  rw [List.filter_filter];refine List.filter_congr fun j hj => ?_
  have hj' : j < n := List.mem_range.1 hj
  by_cases h : i = j
  ·subst h
   simp [Array.getD, hs, hi]
  ·simp [Array.getD, hs, hj', h]
 rw [e];refine List.length_filter_lt_length_iff_exists.2 ⟨i, ?_, ?_⟩
 ·rw [List.mem_filter]
  exact ⟨List.mem_range.2 hi, by rw [hl]; rfl⟩
 ·simp [Array.getD, hs, hi]
theorem QHK (hback : QCU ops = true) (I : Array Bool → Act → World → Prop)
  (hstep : ∀ (L : Array Bool) (a : Act) (w : World) (i : Nat) (o : Oper), L.size = ops.size → I L a w → L.getD i true = false → ops[i]? = some o → (∀ e ∈ o.after, Region.binds .any e = true → L.getD e.on false = true) →
   wpOp P ops Q i (I (L.setIfInBounds i true)) a w)
  (hend : ∀ (L : Array Bool) (a : Act) (w : World), L.size = ops.size → I L a w → (∀ i, i < ops.size → L.getD i false = true) → Q .normal a w) :
  ∀ (fuel : Nat) (L : Array Bool) (a : Act) (w : World), L.size = ops.size → QC7 ops.size L ≤ fuel → I L a w → wpAny P .any ops Q fuel L a w := by
 have hall : ∀ (L : Array Bool), L.size = ops.size → Region.ready .any ops L = [] → ∀ i, i < ops.size → L.getD i false = true := by
  intro L hs hr i
  induction i using Nat.strongRecOn with
  | ind i ih =>
   intro hi
   rcases Bool.eq_false_or_eq_true (L.getD i false) with h | h
   ·exact h
   ·exfalso
    have hm : i ∈ Region.ready .any ops L := by
     refine mem_ready.2 ⟨?_, ops[i], Array.getElem?_eq_getElem hi, fun e he hb => ?_⟩
     ·simp [Array.getD, hs, hi] at h ⊢
      exact h
     ·have := QDf hback (Array.getElem?_eq_getElem hi) he hb
      exact ih e.on this (by omega)
    rw [hr] at hm
    cases hm
 intro fuel
 induction fuel with
 | zero =>
  intro L a w hs hf hI;have hr : Region.ready .any ops L = [] := by
   refine List.eq_nil_iff_forall_not_mem.2 fun i hi => ?_
   obtain ⟨h1, o, ho, _⟩ := mem_ready.1 hi;have := QBd (Array.getElem?_eq_some_iff.1 ho).1 hs h1
   omega
  exact ⟨hr, hend L a w hs hI (hall L hs hr)⟩
 | succ fuel ih =>
  intro L a w hs hf hI;refine ⟨fun hr => hend L a w hs hI (hall L hs hr), fun i hi => ?_⟩
  obtain ⟨h1, o, ho, h2⟩ := mem_ready.1 hi;have hlt := QBd (Array.getElem?_eq_some_iff.1 ho).1 hs h1
  exact wpOp_mono (fun a' w' h => ih _ a' w' (by simpa using hs) (by omega) h) (hstep L a w i o hs hI h1 ho h2)
end
def upd (val : Nat → Value) (i : Nat) (v : Value) : Nat → Value := fun j => if j = i then v else val j
section
variable {ops : Array Oper} {val : Nat → Value} {L : Array Bool}
theorem QBa (a : Act) (d : Option Tmp) (v : Value) : (a.put d v).tmps.size = a.tmps.size := by cases d <;> simp [Act.put]
end
end Go.Proofs.Ytfgfenmaommclaa
namespace Go.Proofs.Ytfgfenmaommclaa
open Go Go.RowKit
def clsAt : List (List Nat) → Nat → List Nat
 | [], _ => []
 | c :: _, 0 => c
 | _ :: l, i + 1 => clsAt l i
def res (val : Nat → Value) (i : Nat) (l : List Nat) : Nat → Value := fun j => bif Nat.beq j i then val j else bif memB l j then val j else undef
def QCS (L : List Oper) (t : Nat) : List Nat → Option Nat
 | [] => none
 | j :: l => match ZQ L j with
  | some d => bif Nat.beq d t then some j else QCS L t l
  | none => QCS L t l
/-- whoever writes slot t comes behind operation i -/
def oldB (L : List Oper) (cls : List (List Nat)) (i t : Nat) : Nat → Bool
 | 0 => true
 | k + 1 => bif (match ZQ L k with
     | some d => bif Nat.beq d t then (bif Nat.beq k i then true else memB (clsAt cls k) i) else true
     | none => true) then oldB L cls i t k else false
def sgAt (L : List Oper) (cls : List (List Nat)) (m : Nat) (σ : Sg) (val : Nat → Value) (i : Nat) : Sg := fun t => match QCS L t (clsAt cls i) with
 | some j => some (val j)
 | none => bif oldB L cls i t m then σ t else none
def sgEnd (L : List Oper) (σ : Sg) (val : Nat → Value) : Nat → Sg
 | 0 => σ
 | k + 1 => match ZQ L k with
  | some d => ins (sgEnd L σ val k) d (val k)
  | none => sgEnd L σ val k
/-! ### What is reckoned -/
def QDO (cls : List (List Nat)) (j : Nat) : List Edge → Bool
 | [] => false
 | e :: l => bif Region.binds .any e then (bif Nat.beq e.on j then true else bif memB (clsAt cls e.on) j then true else QDO cls j l) else QDO cls j l
def QFr (cls : List (List Nat)) (af : List Edge) : List Nat → Bool
 | [] => true
 | j :: l => bif QDO cls j af then QFr cls af l else false
def QAN (l : List Nat) : Nat → Bool
 | 0 => true
 | k + 1 => bif memB l k then QAN l k else false
/-- from number i on -/
def Yw (n : Nat) (cls : List (List Nat)) (m : Nat) : Nat → List Oper → Bool
 | _, [] => true
 | i, o :: l => bif QEC i o.after.toList then (bif QFr cls o.after.toList (clsAt cls i) then
   (bif Nat.blt i m then (bif (match o.dst with
    | some d => bif Nat.blt d n then noDst d l (m - (i + 1)) else false
    | none => true) then Yw n cls m (i + 1) l else false)
   else (bif QAN (clsAt cls i) i then Yw n cls m (i + 1) l else false)) else false) else false
where
 noDst (d : Nat) : List Oper → Nat → Bool
  | [], _ => true
  | _, 0 => true
  | o :: l, k + 1 => match o.dst with
   | some e => bif Nat.beq d e then false else noDst d l k
   | none => noDst d l k
theorem ZA : ∀ {l : List Nat} {j : Nat}, memB l j = true ↔ j ∈ l
 | [], j => by simp [memB]
 | d :: l, j => by
  unfold memB
  cases e : Nat.beq j d with
  | true => have := Nat.eq_of_beq_eq_true e; simp [this]
  | false =>
   have := Nat.ne_of_beq_eq_false e
   simp [this, ZA (l := l)]
theorem dstOf_at {L : List Oper} {i : Nat} {o : Oper} (h : L[i]? = some o) : ZQ L i = o.dst := by
 rw [← QDa]
 simp [h]
theorem Y6 {L : List Oper} {t : Nat} : ∀ {l : List Nat} {j : Nat}, QCS L t l = some j → j ∈ l ∧ ZQ L j = some t
 | [], j, h => by cases h
 | k :: l, j, h => by
  unfold QCS at h
  cases hd : ZQ L k with
  | none => simp only [hd] at h; obtain ⟨h1, h2⟩ := Y6 h; exact ⟨by simp [h1], h2⟩
  | some d =>
   simp only [hd] at h
   cases e : Nat.beq d t with
   | true =>
    rw [e] at h
    injection h with h
    subst h
    exact ⟨by simp, by rw [hd, Nat.eq_of_beq_eq_true e]⟩
   | false =>
    rw [e] at h;obtain ⟨h1, h2⟩ := Y6 h
    exact ⟨by simp [h1], h2⟩
theorem QA5 {L : List Oper} {cls : List (List Nat)} {i t : Nat} : ∀ {m : Nat}, oldB L cls i t m = true → ∀ k, k < m → ZQ L k = some t → k = i ∨ i ∈ clsAt cls k
 | 0, _, k, hk, _ => by omega
 | m + 1, h, k, hk, hd => by
  unfold oldB at h
  by_cases e : k = m
  ·subst e
   simp only [hd, Nat.beq_refl, cond_true] at h
   cases e1 : Nat.beq k i with
   | true => exact .inl (Nat.eq_of_beq_eq_true e1)
   | false =>
    rw [e1] at h
    cases e2 : memB (clsAt cls k) i with
    | true => exact .inr (ZA.1 e2)
    | false => rw [e2] at h; cases h
  ·refine QA5 (m := m) ?_ k (by omega) hd
   revert h
   generalize (match ZQ L m with
   | some d => bif Nat.beq d t then (bif Nat.beq m i then true else memB (clsAt cls m) i) else true
   | none => true) = b
   cases b <;> simp
theorem QBR {cls : List (List Nat)} {j : Nat} : ∀ {l : List Edge}, QDO cls j l = true → ∃ e ∈ l, Region.binds .any e = true ∧ (e.on = j ∨ j ∈ clsAt cls e.on)
 | [], h => by cases h
 | e :: l, h => by
  unfold QDO at h
  cases hb : Region.binds .any e with
  | false => rw [hb] at h; obtain ⟨e', h1, h2⟩ := QBR h; exact ⟨e', by simp [h1], h2⟩
  | true =>
   rw [hb] at h
   cases h1 : Nat.beq e.on j with
   | true => exact ⟨e, by simp, hb, .inl (Nat.eq_of_beq_eq_true h1)⟩
   | false =>
    rw [h1] at h
    cases h2 : memB (clsAt cls e.on) j with
    | true => exact ⟨e, by simp, hb, .inr (ZA.1 h2)⟩
    | false => rw [h2] at h; obtain ⟨e', h3, h4⟩ := QBR h; exact ⟨e', by simp [h3], h4⟩
theorem QDk {cls : List (List Nat)} {af : List Edge} : ∀ {l : List Nat}, QFr cls af l = true → ∀ j ∈ l, QDO cls j af = true
 | [], _, j, h => by cases h
 | k :: l, h, j, hj => by
  unfold QFr at h
  cases h1 : QDO cls k af with
  | false => rw [h1] at h; cases h
  | true =>
   rw [h1] at h
   rcases List.mem_cons.1 hj with rfl | hj
   ·exact h1
   ·exact QDk h j hj
theorem QBL {l : List Nat} : ∀ {k : Nat}, QAN l k = true → ∀ j, j < k → j ∈ l
 | 0, _, j, h => by omega
 | k + 1, h, j, hj => by
  unfold QAN at h
  cases h1 : memB l k with
  | false => rw [h1] at h; cases h
  | true =>
   rw [h1] at h
   by_cases e : j = k
   ·subst e; exact ZA.1 h1
   ·exact QBL h j (by omega)
theorem QC9 {d : Nat} : ∀ {l : List Oper} {k : Nat}, Yw.noDst d l k = true → ∀ j o, l[j]? = some o → j < k → o.dst ≠ some d
 | [], _, _, j, o, h, _ => by simp at h
 | x :: l, 0, _, j, o, h, hj => by omega
 | x :: l, k + 1, h, j, o, ho, hj => by
  unfold Yw.noDst at h
  have hx : x.dst ≠ some d ∧ Yw.noDst d l k = true := by
   cases hd : x.dst with
   | none => rw [hd] at h; exact ⟨by simp, h⟩
   | some e =>
    rw [hd] at h
    simp only at h
    cases h1 : Nat.beq d e with
    | true => rw [h1] at h; cases h
    | false =>
     rw [h1] at h;refine ⟨fun e' => ?_, h⟩
     injection e' with e'
     exact Nat.ne_of_beq_eq_false h1 e'.symm
  cases j with
  | zero => simp at ho; subst ho; exact hx.1
  | succ j => exact QC9 hx.2 j o (by simpa using ho) (by omega)
structure HeadOk (n : Nat) (cls : List (List Nat)) (m : Nat) (L : List Oper) : Prop where
 dep : ∀ i o, L[i]? = some o → ∀ j ∈ clsAt cls i, ∃ e ∈ o.after, Region.binds .any e = true ∧ (e.on = j ∨ j ∈ clsAt cls e.on)
 back : ∀ i o, L[i]? = some o → ∀ e ∈ o.after, Region.binds .any e = true → e.on < i
 small : ∀ i o d, L[i]? = some o → i < m → o.dst = some d → d < n
 dist : ∀ i j o p d, L[i]? = some o → L[j]? = some p → i < j → j < m → o.dst = some d → p.dst ≠ some d
 tail : ∀ i o, L[i]? = some o → m ≤ i → ∀ j, j < i → j ∈ clsAt cls i
theorem QDR {n : Nat} {cls : List (List Nat)} {m : Nat} : ∀ {l : List Oper} {k : Nat}, Yw n cls m k l = true →
  (∀ i o, l[i]? = some o → ∀ j ∈ clsAt cls (k + i), ∃ e ∈ o.after, Region.binds .any e = true ∧ (e.on = j ∨ j ∈ clsAt cls e.on)) ∧
  (∀ i o, l[i]? = some o → ∀ e ∈ o.after, Region.binds .any e = true → e.on < k + i) ∧
  (∀ i o d, l[i]? = some o → k + i < m → o.dst = some d → d < n) ∧
  (∀ i j o p d, l[i]? = some o → l[j]? = some p → i < j → k + j < m → o.dst = some d → p.dst ≠ some d) ∧
  (∀ i o, l[i]? = some o → m ≤ k + i → ∀ j, j < k + i → j ∈ clsAt cls (k + i))
 | [], k, _ => ⟨by simp, by simp, by simp, by simp, by simp⟩
 | o :: l, k, h => by
  unfold Yw at h
  cases h1 : QEC k o.after.toList with
  | false => rw [h1] at h; cases h
  | true =>
  rw [h1] at h
  cases h2 : QFr cls o.after.toList (clsAt cls k) with
  | false => rw [h2] at h; cases h
  | true =>
  rw [h2] at h
  simp only [cond_true] at h
  have hrec : Yw n cls m (k + 1) l = true := by
   revert h
   cases Nat.blt k m
   ·cases QAN (clsAt cls k) k <;> simp
   ·simp only [cond_true]
    generalize (match o.dst with
    | some d => bif Nat.blt d n then Yw.noDst d l (m - (k + 1)) else false
    | none => true) = b
    cases b <;> simp
  obtain ⟨a1, a2, a3, a4, a5⟩ := QDR hrec;refine ⟨?_, ?_, ?_, ?_, ?_⟩
  ·intro i p hp j hj
   cases i with
   | zero =>
    simp at hp; subst hp
    obtain ⟨e, he, hb⟩ := QBR (QDk h2 j hj)
    exact ⟨e, by simpa using he, hb⟩
   | succ i => exact a1 i p (by simpa using hp) j (by rwa [show k + (i + 1) = k + 1 + i by omega] at hj)
  ·intro i p hp e he hb
   cases i with
   | zero => simp at hp; subst hp; exact QEw h1 e (by simpa using he) hb
   | succ i => have := a2 i p (by simpa using hp) e he hb; omega
  ·intro i p d hp hlt hd
   cases i with
   | zero =>
    simp at hp; subst hp
    have hb : Nat.blt k m = true := by simpa [Nat.blt_eq] using hlt
    rw [hb, hd] at h
    simp only [cond_true] at h
    cases h3 : Nat.blt d n with
    | true => simpa [Nat.blt_eq] using h3
    | false => rw [h3] at h; cases h
   | succ i => exact a3 i p d (by simpa using hp) (by omega) hd
  ·intro i j p q d hp hq hij hlt hd
   cases i with
   | zero =>
    simp at hp; subst hp
    have hb : Nat.blt k m = true := by have : k < m := by omega
                                       simpa [Nat.blt_eq] using this
    rw [hb, hd] at h
    simp only [cond_true] at h
    cases h3 : Nat.blt d n with
    | false => rw [h3] at h; cases h
    | true =>
    rw [h3] at h
    simp only [cond_true] at h
    cases h4 : Yw.noDst d l (m - (k + 1)) with
    | false => rw [h4] at h; cases h
    | true =>
    cases j with
    | zero => omega
    | succ j => exact QC9 h4 j q (by simpa using hq) (by omega)
   | succ i =>
    cases j with
    | zero => omega
    | succ j => exact a4 i j p q d (by simpa using hp) (by simpa using hq) (by omega) (by omega) hd
  ·intro i p hp hm j hj
   cases i with
   | zero =>
    have hb : Nat.blt k m = false := by
     rw [← Bool.not_eq_true, Nat.blt_eq]; omega
    rw [hb] at h
    simp only [cond_false] at h
    cases h4 : QAN (clsAt cls k) k with
    | false => rw [h4] at h; cases h
    | true => exact QBL h4 j hj
   | succ i =>
    rw [show k + (i + 1) = k + 1 + i by omega]
    exact a5 i p (by simpa using hp) (by omega) j (by omega)
theorem QDS {n : Nat} {cls : List (List Nat)} {m : Nat} {L : List Oper} (h : Yw n cls m 0 L = true) : HeadOk n cls m L := by
 obtain ⟨a1, a2, a3, a4, a5⟩ := QDR h
 simp only [Nat.zero_add] at a1 a2 a3 a4 a5
 exact ⟨a1, a2, a3, a4, a5⟩
section
variable {P : Program} {n : Nat} {σ : Sg} {w : World} {Q : Exit → Act → World → Prop} {L : List Oper}
/-- what stands in the way of operation i of the head -/
def QJn (P : Program) (n : Nat) (L : List Oper) (Q : Exit → Act → World → Prop) (cls : List (List Nat)) (m : Nat) (alc : List Nat) (σ : Sg) (w : World) (Φ : Nat → (Nat → Value) → World → Prop) (i : Nat) : Prop :=
 ∀ (val : Nat → Value) (w1 : World) (a : Act), Below w.heap.size w w1 → Env n (sgAt L cls m σ val i) a → (∀ j, j ∈ clsAt cls i → Φ j (res val j (clsAt cls j)) w1) →
  wpOp P L.toArray Q i (fun a' w' => ∃ v, a' = a.put (ZQ L i) v ∧ Below w1.heap.size w1 w' ∧ Φ i (res (upd val i v) i (clsAt cls i)) w' ∧ (i ∈ alc → v = .pointer (some ⟨w1.heap.size, 0, none⟩) ∧ w1.heap.size < w'.heap.size)) a w1
/-- the blocks that were made here are apart -/
def Alc (alc : List Nat) (m : Nat) (val : Nat → Value) (w w' : World) : Prop :=
 (∀ i ∈ alc, i < m → ∃ g, val i = .pointer (some ⟨g, 0, none⟩) ∧ w.heap.size ≤ g ∧ g < w'.heap.size) ∧ ∀ i ∈ alc, ∀ j ∈ alc, i < m → j < m → i ≠ j → val i ≠ val j
/-- when some of the head have come up -/
structure HInv (n : Nat) (L : List Oper) (cls : List (List Nat)) (m : Nat) (alc : List Nat) (σ : Sg) (w : World) (Φ : Nat → (Nat → Value) → World → Prop) (D : Array Bool) (val : Nat → Value) (a : Act) (w' : World) : Prop where
 below : Below w.heap.size w w'
 size : a.tmps.size = n
 defers : a.defers = []
 new : ∀ i d, i < m → D.getD i false = true → ZQ L i = some d → a.tmps[d]? = some (val i)
 old : ∀ t v, σ t = some v → (∀ k, k < m → D.getD k false = true → ZQ L k ≠ some t) → a.tmps[t]? = some v
 says : ∀ i, i < m → D.getD i false = true → Φ i (res val i (clsAt cls i)) w'
 down : ∀ i, D.getD i false = true → ∀ j ∈ clsAt cls i, D.getD j false = true
 alc1 : ∀ i ∈ alc, i < m → D.getD i false = true → ∃ g, val i = .pointer (some ⟨g, 0, none⟩) ∧ w.heap.size ≤ g ∧ g < w'.heap.size
 alc2 : ∀ i ∈ alc, ∀ j ∈ alc, i < m → j < m → D.getD i false = true → D.getD j false = true → i ≠ j → val i ≠ val j
 high : ∀ i, m ≤ i → D.getD i false = false
theorem QCf {val : Nat → Value} {i j : Nat} {v : Value} {l : List Nat} (hj : j ≠ i) (hl : i ∉ l) : res (upd val i v) j l = res val j l := by
 funext k
 unfold res
 cases e : Nat.beq k j with
 | true => have := Nat.eq_of_beq_eq_true e; subst this; simp [upd, hj]
 | false =>
  cases e2 : memB l k with
  | true =>
   have : k ≠ i := fun h => hl (h ▸ ZA.1 e2)
   simp [upd, this]
  | false => rfl
theorem QAH {D : Array Bool} {i : Nat} (hi : i < D.size) (h : D.getD i true = false) : D.getD i false = false := by
 simp [Array.getD, hi] at h ⊢
 exact h
theorem set_get {D : Array Bool} {i : Nat} (hi : i < D.size) (k : Nat) : (D.setIfInBounds i true).getD k false = if k = i then true else D.getD k false := by
 by_cases e : k = i
 ·subst e; simp [Array.getD, hi]
 ·rw [if_neg e]
  by_cases hk : k < D.size
  ·simp [Array.getD, hk, Ne.symm e]
  ·simp [Array.getD, hk]
/-- in every order -/
def RO (P : Program) (ops : Array Oper) (Q : Exit → Act → World → Prop) (a : Act) (w : World) : Prop := ∀ t, wpOps P ops Q (Region.schedule (P.follows .mixedOrders) ops t) a { w with drawn := w.drawn + 1 }
theorem QLB {P : Program} {ops : Array Oper} {Q : Exit → Act → World → Prop} {a : Act} {w : World} (hm : P.follows .mixedOrders = true) (h : wpAny P .any ops Q ops.size (Array.replicate ops.size false) a { w with drawn := w.drawn + 1 }) : RO P ops Q a w := fun t => by
 simp only [Region.schedule, hm, Bool.true_or, if_true]
 exact wpAny_sound ops.size t _ a _ h
theorem QIk {P : Program} {ops : Array Oper} {Q : Exit → Act → World → Prop} {a : Act} {w : World} (hm : P.follows .mixedOrders = true) (hback : QCU ops = true) (I : Array Bool → Act → World → Prop)
  (h0 : I (Array.replicate ops.size false) a { w with drawn := w.drawn + 1 })
  (hstep : ∀ (L : Array Bool) (a : Act) (w : World) (i : Nat) (o : Oper), L.size = ops.size → I L a w → L.getD i true = false → ops[i]? = some o → (∀ e ∈ o.after, Region.binds .any e = true → L.getD e.on false = true) →
   wpOp P ops Q i (I (L.setIfInBounds i true)) a w)
  (hend : ∀ (L : Array Bool) (a : Act) (w : World), L.size = ops.size → I L a w → (∀ i, i < ops.size → L.getD i false = true) → Q .normal a w) : RO P ops Q a w := by
 refine QLB hm (QHK hback I hstep hend _ _ _ _ (by simp) ?_ h0)
 unfold QC7
 exact Nat.le_trans (List.length_filter_le _ _) (by simp)
theorem EO.regionP (cls : List (List Nat)) (m : Nat) (alc : List Nat) (Φ : Nat → (Nat → Value) → World → Prop) (hf : P.follows .mixedOrders = true) (hq : Yw n cls m 0 L = true) (hml : Nat.ble m L.length = true)
  (hmono : ∀ i r w1 w2, Below w1.heap.size w1 w2 → Φ i r w1 → Φ i r w2)
  (hstep : ∀ i, i < m → QJn P n L Q cls m alc σ w Φ i)
  (hend : ∀ val w', Below w.heap.size w w' → Alc alc m val w w' → (∀ i, i < m → Φ i (res val i (clsAt cls i)) w') → EL P n L Q (L.drop m) (sgEnd L σ val m) w') : ∀ a, Env n σ a → RO P L.toArray Q a w := by
 have hm : m ≤ L.length := by simpa [Nat.ble_eq] using hml
 have H := QDS hq;have hback : QCU L.toArray = true := by
  refine List.all_eq_true.2 fun i hi => ?_
  have hi' : i < L.length := by simpa using hi
  have ho : L.toArray[i]? = some L[i] := by simp [hi']
  rw [ho];refine Array.all_eq_true_iff_forall_mem.2 fun e he => ?_
  cases hb : Region.binds .any e with
  | false => rfl
  | true => simpa using H.back i L[i] (by simp [hi']) e he hb
 intro a ha
 -- the tail's part
 have tailDone : ∀ (D : Array Bool) (i : Nat) (o : Oper), (∀ i, D.getD i false = true → ∀ j ∈ clsAt cls i, D.getD j false = true) → L[i]? = some o → (∀ e ∈ o.after, Region.binds .any e = true → D.getD e.on false = true) → ∀ j ∈ clsAt cls i, D.getD j false = true := by
  intro D i o hdown ho hdep j hj;obtain ⟨e, he, hb, h⟩ := H.dep i o ho j hj
  rcases h with rfl | h
  ·exact hdep e he hb
  ·exact hdown _ (hdep e he hb) j h
 have hEnd : ∀ (D : Array Bool) (val : Nat → Value) (a : Act) (w' : World), HInv n L cls m alc σ w Φ D val a w' → (∀ i, i < m → D.getD i false = true) → wpList P L.toArray Q (L.drop m) a w' := by
  intro D val a w' I hall;refine hend val w' I.below ⟨fun i hi hlt => I.alc1 i hi hlt (hall i hlt), fun i hi j hj h1 h2 hne => I.alc2 i hi j hj h1 h2 (hall i h1) (hall j h2) hne⟩ (fun i hi => I.says i hi (hall i hi)) a ⟨I.size, I.defers, ?_⟩
  have : ∀ k, k ≤ m → ∀ t v, sgEnd L σ val k t = some v → (∀ j, k ≤ j → j < m → ZQ L j ≠ some t) → a.tmps[t]? = some v := by
   intro k
   induction k with
   | zero => intro _ t v ht hn; exact I.old t v ht fun j hj _ => hn j (Nat.zero_le _) hj
   | succ k ih =>
    intro hk t v ht hn
    unfold sgEnd at ht
    cases hd : ZQ L k with
    | none =>
     simp only [hd] at ht
     exact ih (by omega) t v ht fun j h1 h2 => by
      rcases Nat.lt_or_ge k j with h | h
      ·exact hn j h h2
      ·obtain rfl : j = k := by omega
       rw [hd]; simp
    | some d =>
     simp only [hd] at ht
     unfold ins at ht
     cases e : Nat.beq t d with
     | true =>
      rw [e] at ht;have e' := Nat.eq_of_beq_eq_true e;subst e';rw [I.new k t (by omega) (hall k (by omega)) hd]
      exact ht
     | false =>
      rw [e] at ht
      exact ih (by omega) t v ht fun j h1 h2 => by
       rcases Nat.lt_or_ge k j with h | h
       ·exact hn j h h2
       ·obtain rfl : j = k := by omega
        rw [hd];intro e2
        injection e2 with e2
        exact Nat.ne_of_beq_eq_false e e2.symm
  exact fun t v ht => this m (Nat.le_refl _) t v ht fun j h1 h2 => by omega
 refine QIk hf hback (fun D a w' => (∃ val, HInv n L cls m alc σ w Φ D val a w') ∨ ∃ k, m < k ∧ k ≤ L.length ∧ (∀ i, D.getD i false = decide (i < k)) ∧ wpList P L.toArray Q (L.drop k) a w') ?_ ?_ ?_
 ·left
  have hno : ∀ i, (Array.replicate L.toArray.size false).getD i false = false := fun i => by
   by_cases h : i < L.toArray.size
   ·simp [Array.getD]
   ·simp [Array.getD]
  refine ⟨fun _ => undef, ⟨⟨rfl, rfl, rfl, Nat.le_refl _, fun _ _ => rfl⟩, ha.size, ha.defers, ?_, fun t v ht _ => ha.get t v ht, ?_, ?_, ?_, ?_, fun i _ => hno i⟩⟩
  ·intro i d _ h; rw [hno] at h; cases h
  ·intro i _ h; rw [hno] at h; cases h
  ·intro i h; rw [hno] at h; cases h
  ·intro i _ _ h; rw [hno] at h; cases h
  ·intro i _ j _ _ _ h; rw [hno] at h; cases h
 ·intro D a w1 i o hs hI hni ho hdep
  have hs' : D.size = L.length := by simpa using hs
  have ho' : L[i]? = some o := by simpa using ho
  have hil : i < L.length := (List.getElem?_eq_some_iff.1 ho').1;have hnd : D.getD i false = false := QAH (by omega) hni
  have takeTail : ∀ (k : Nat), k = i → m ≤ k → (∀ j, D.getD j false = decide (j < k)) → wpList P L.toArray Q (L.drop k) a w1 →
    wpOp P L.toArray Q i (fun a w' => (∃ val, HInv n L cls m alc σ w Φ (D.setIfInBounds i true) val a w') ∨ ∃ k, m < k ∧ k ≤ L.length ∧ (∀ j, (D.setIfInBounds i true).getD j false = decide (j < k)) ∧ wpList P L.toArray Q (L.drop k) a w') a w1 := by
   intro k hk hmk hD hw;subst hk;rw [List.drop_eq_getElem_cons hil] at hw;have e : L[k] = o := by rw [List.getElem?_eq_getElem hil] at ho'; injection ho'
   rw [e] at hw
   unfold wpList at hw
   have hnext : ∀ a w', wpList P L.toArray Q (L.drop (k + 1)) a w' → (∃ val, HInv n L cls m alc σ w Φ (D.setIfInBounds k true) val a w') ∨ ∃ k', m < k' ∧ k' ≤ L.length ∧ (∀ j, (D.setIfInBounds k true).getD j false = decide (j < k')) ∧ wpList P L.toArray Q (L.drop k') a w' := fun a w' h => .inr ⟨k + 1, by omega, by omega, fun j => by
    rw [set_get (by omega)]
    by_cases e : j = k
    ·subst e; simp
    ·rw [if_neg e, hD]
     by_cases h : j < k
     ·simp [h]; omega
     ·simp [h]; omega, h⟩
   unfold wpOp
   simp only [ho]
   split
   ·rename_i hw'
    rw [if_pos hw'] at hw
    rcases hw with h | h
    ·exact .inl (Oper.wp_mono hnext h)
    ·exact .inr h
   ·rename_i hw'
    rw [if_neg hw'] at hw
    exact hnext _ _ hw
  rcases hI with ⟨val, I⟩ | ⟨k, hmk, hkl, hD, hw⟩
  ·have hcd := tailDone D i o I.down ho' hdep
   rcases Nat.lt_or_ge i m with him | him
   ·have henv : Env n (sgAt L cls m σ val i) a := by
     refine ⟨I.size, I.defers, fun t v ht => ?_⟩
     unfold sgAt at ht
     cases hfw : QCS L t (clsAt cls i) with
     | some j =>
      simp only [hfw] at ht
      obtain ⟨h1, h2⟩ := Y6 hfw
      injection ht with ht
      have hj := hcd j h1;have hjm : j < m := by
       rcases Nat.lt_or_ge j m with h | h
       ·exact h
       ·rw [I.high j h] at hj; cases hj
      rw [I.new j t hjm hj h2, ht]
     | none =>
      simp only [hfw] at ht
      cases hob : oldB L cls i t m with
      | false => rw [hob] at ht; cases ht
      | true =>
       rw [hob] at ht;refine I.old t v ht fun k hk hdk hd => ?_
       rcases QA5 hob k hk hd with rfl | h
       ·rw [hnd] at hdk; cases hdk
       ·have := I.down k hdk i h
        rw [hnd] at this; cases this
    have hjm : ∀ j, D.getD j false = true → j < m := fun j hj => by
     rcases Nat.lt_or_ge j m with h | h
     ·exact h
     ·rw [I.high j h] at hj; cases hj
    refine wpOp_mono ?_ (hstep i him val w1 a I.below henv fun j hj => I.says j (hjm j (hcd j hj)) (hcd j hj))
    rintro a' w' ⟨v, rfl, hb, hphi, halc⟩
    left
    have hgrow : Below w.heap.size w w' := I.below.trans (hb.mono I.below.size);have hdi : ZQ L i = o.dst := dstOf_at ho';refine ⟨upd val i v, ⟨hgrow, ?_, ?_, ?_, ?_, ?_, ?_, ?_, ?_, ?_⟩⟩
    ·rw [QBa]; exact I.size
    ·cases ZQ L i <;> exact I.defers
    ·intro k d hk hdk hd
     rw [set_get (by omega)] at hdk
     by_cases e : k = i
     ·subst e
      have hdn : d < n := H.small k o d ho' hk (by rw [← hdi]; exact hd)
      rw [hd]
      simp only [Act.put, upd, if_true]
      rw [Array.getElem?_setIfInBounds_self_of_lt (by rw [I.size]; exact hdn)]
     ·rw [if_neg e] at hdk
      have hok : ∃ p, L[k]? = some p := ⟨L[k]'(by omega), by simp [show k < L.length by omega]⟩
      obtain ⟨p, hp⟩ := hok;have hne : ZQ L i ≠ some d := by
       intro h'
       rcases Nat.lt_or_gt_of_ne e with hlt | hgt
       ·exact H.dist k i p o d hp ho' hlt him (by rw [← dstOf_at hp]; exact hd) (by rw [← hdi]; exact h')
       ·exact H.dist i k o p d ho' hp hgt hk (by rw [← hdi]; exact h') (by rw [← dstOf_at hp]; exact hd)
      have := I.new k d hk hdk hd
      simp only [upd, if_neg e]
      cases hdi' : ZQ L i with
      | none => exact this
      | some d' =>
       have : d' ≠ d := fun h => hne (by rw [hdi', h])
       simp only [Act.put, Array.getElem?_setIfInBounds_ne this]
       assumption
    ·intro t u ht hno
     have h1 : a.tmps[t]? = some u := I.old t u ht fun k hk hdk => hno k hk (by rw [set_get (by omega)]; split <;> simp [hdk])
     have h2 : ZQ L i ≠ some t := hno i him (by rw [set_get (by omega), if_pos rfl])
     cases hdi' : ZQ L i with
     | none => exact h1
     | some d' =>
      have : d' ≠ t := fun h => h2 (by rw [hdi', h])
      simp only [Act.put, Array.getElem?_setIfInBounds_ne this]
      exact h1
    ·intro k hk hdk
     rw [set_get (by omega)] at hdk
     by_cases e : k = i
     ·subst e; exact hphi
     ·rw [if_neg e] at hdk
      have hni' : i ∉ clsAt cls k := fun h => by
       have := I.down k hdk i h;rw [hnd] at this; cases this
      rw [QCf e hni']
      exact hmono k _ w1 w' hb (I.says k hk hdk)
    ·intro k hdk j hj
     rw [set_get (by omega)] at hdk ⊢
     by_cases e : k = i
     ·subst e
      rw [hcd j hj]; simp
     ·rw [if_neg e] at hdk
      rw [I.down k hdk j hj]; simp
    ·intro k hk hkm hdk
     rw [set_get (by omega)] at hdk
     by_cases e : k = i
     ·subst e
      obtain ⟨h1, h2⟩ := halc hk
      exact ⟨w1.heap.size, by simp [upd, h1], I.below.size, h2⟩
     ·rw [if_neg e] at hdk
      obtain ⟨g, h1, h2, h3⟩ := I.alc1 k hk hkm hdk
      exact ⟨g, by simp [upd, e, h1], h2, Nat.lt_of_lt_of_le h3 hb.size⟩
    ·intro k hk j hj hkm hjm' hdk hdj hne
     rw [set_get (by omega)] at hdk hdj
     by_cases e : k = i
     ·subst e
      have e2 : j ≠ k := Ne.symm hne;rw [if_neg e2] at hdj;obtain ⟨h1, _⟩ := halc hk;obtain ⟨g, h3, _, h5⟩ := I.alc1 j hj hjm' hdj
      simp only [upd, if_true, if_neg e2, h1, h3]
      intro h
      injection h with h
      injection h with h
      injection h with h
      omega
     ·rw [if_neg e] at hdk
      by_cases e2 : j = i
      ·subst e2
       obtain ⟨h1, _⟩ := halc hj;obtain ⟨g, h3, _, h5⟩ := I.alc1 k hk hkm hdk
       simp only [upd, if_true, if_neg e, h1, h3]
       intro h
       injection h with h
       injection h with h
       injection h with h
       omega
      ·rw [if_neg e2] at hdj
       simp only [upd, if_neg e, if_neg e2]
       exact I.alc2 k hk j hj hkm hjm' hdk hdj hne
    ·intro k hk
     rw [set_get (by omega), if_neg (by omega)]
     exact I.high k hk
   ·have hall : ∀ j, j < i → D.getD j false = true := fun j hj => hcd j (H.tail i o ho' him j hj)
    have him' : i = m := by
     rcases Nat.lt_or_ge m i with h | h
     ·have := hall m h
      rw [I.high m (Nat.le_refl _)] at this; cases this
     ·omega
    subst him'
    exact takeTail i rfl (Nat.le_refl _) (fun j => by
     by_cases h : j < i
     ·rw [hall j h]; simp [h]
     ·rw [I.high j (by omega)]; simp [h]) (hEnd D val a w1 I hall)
  ·have hcd : ∀ j, j < i → D.getD j false = true := fun j hj => by
    have hmi : m ≤ i := by
     have := hD i;rw [hnd] at this;have : ¬ i < k := by simpa using this.symm
     omega
    have hdn : ∀ i, D.getD i false = true → ∀ j ∈ clsAt cls i, D.getD j false = true := by
     intro x hx y hy;rw [hD] at hx ⊢;have hx' : x < k := by simpa using hx
     obtain ⟨p, hp⟩ : ∃ p, L[x]? = some p := ⟨L[x]'(by omega), by simp [show x < L.length by omega]⟩
     have : ∀ (x : Nat) (p : Oper), L[x]? = some p → ∀ y ∈ clsAt cls x, y < x := by
      intro x
      induction x using Nat.strongRecOn with
      | ind x ih =>
       intro p hp y hy;obtain ⟨e, he, hb, h⟩ := H.dep x p hp y hy;have h1 := H.back x p hp e he hb
       rcases h with rfl | h
       ·exact h1
       ·obtain ⟨q, hq⟩ : ∃ q, L[e.on]? = some q := by
         have : x < L.length := (List.getElem?_eq_some_iff.1 hp).1
         exact ⟨L[e.on]'(by omega), by simp [show e.on < L.length by omega]⟩
        have := ih e.on h1 q hq y h
        omega
     have := this x p hp y hy
     simp
     omega
    exact tailDone D i o hdn ho' hdep j (H.tail i o ho' hmi j hj)
   have hik : k = i := by
    have h1 := hD i;rw [hnd] at h1;have h2 : ¬ i < k := by simpa using h1.symm
    rcases Nat.lt_or_ge k i with h | h
    ·have := hcd k h
     rw [hD] at this
     simp at this
    ·omega
   exact takeTail k hik (by omega) hD hw
 ·intro D a w1 hs hI hall
  have hs' : D.size = L.length := by simpa using hs
  rcases hI with ⟨val, I⟩ | ⟨k, hmk, hkl, hD, hw⟩
  ·have hmL : m = L.length := by
    rcases Nat.lt_or_ge m L.length with h | h
    ·have := hall m (by simpa using h)
     rw [I.high m (Nat.le_refl _)] at this; cases this
    ·omega
   have := hEnd D val a w1 I fun i hi => hall i (by simp; omega)
   rw [hmL, List.drop_length] at this
   exact this
  ·have hk : k = L.length := by
    rcases Nat.lt_or_ge k L.length with h | h
    ·have := hall k (by simpa using h)
     rw [hD] at this
     simp at this
    ·omega
   rw [hk, List.drop_length] at hw
   exact hw
theorem EC.regionP {id : Nat} (cls : List (List Nat)) (m : Nat) (alc : List Nat) (Φ : Nat → (Nat → Value) → World → Prop) (hf : P.follows .mixedOrders = true) (hq : Yw n cls m 0 L = true) (hml : Nat.ble m L.length = true)
  (hmono : ∀ i r w1 w2, Below w1.heap.size w1 w2 → Φ i r w1 → Φ i r w2)
  (hstep : ∀ i, i < m → QJn P n L Q cls m alc σ w Φ i)
  (hend : ∀ val w', Below w.heap.size w w' → Alc alc m val w w' → (∀ i, i < m → Φ i (res val i (clsAt cls i)) w') → EL P n L Q (L.drop m) (sgEnd L σ val m) w') : EC P n (.region id L.toArray true) Q σ w := fun a ha => wp_region_draw (EO.regionP cls m alc Φ hf hq hml hmono hstep hend a ha)
end
theorem ZD {w w' : World} (hb : Below w.heap.size w w') {p : Addr} {v : Value} (h : w.cell? p = some v) : w'.cell? p = some v := (hb.cell (block_lt_of_cell h)).trans h
def nth : List Value → Nat → Option Value
 | [], _ => none
 | v :: _, 0 => some v
 | _ :: l, k + 1 => nth l k
theorem QIp : ∀ (l : List Value) (k : Nat), nth l k = l[k]?
 | [], _ => rfl
 | _ :: _, 0 => rfl
 | _ :: l, k + 1 => by simpa [nth] using QIp l k
def ovr : List Value → List Value → List Value
 | l, [] => l
 | [], _ => []
 | _ :: l, v :: vs => v :: ovr l vs
/-- what is stored at offset o -/
def spl : List Value → Nat → List Value → List Value
 | l, 0, vs => ovr l vs
 | [], _, _ => []
 | x :: l, o + 1, vs => x :: spl l o vs
theorem QIn : ∀ (l vs : List Value), vs.length ≤ l.length → ovr l vs = vs ++ l.drop vs.length
 | l, [], _ => by cases l <;> simp [ovr]
 | [], v :: vs, h => by simp at h
 | x :: l, v :: vs, h => by simp [ovr, QIn l vs (by simpa using h)]
theorem QAR : ∀ (l : List Value) (o : Nat) (vs : List Value), o + vs.length ≤ l.length → spl l o vs = l.take o ++ vs ++ l.drop (o + vs.length)
 | [], 0, vs, h => by
  have e : vs = [] := List.eq_nil_of_length_eq_zero (by simpa using h)
  subst e
  rfl
 | x :: l, 0, vs, h => by
  have := QIn (x :: l) vs (by simpa using h)
  simp [spl, this]
 | [], o + 1, vs, h => by simp at h
 | x :: l, o + 1, vs, h => by
  have := QAR l o vs (by simp at h; omega)
  simp [spl, this, show o + 1 + vs.length = o + vs.length + 1 by omega]
def lenV : List Value → Nat
 | [] => 0
 | _ :: l => lenV l + 1
theorem Ya : ∀ l : List Value, lenV l = l.length
 | [] => rfl
 | _ :: l => by simp [lenV, Ya l]
def QAx : List Value → Bool
 | [] => true
 | v :: l => bif v.oneCell' then QAx l else false
theorem QDi : ∀ {l : List Value}, QAx l = true → ∀ v ∈ l, v.oneCell' = true
 | [], _, v, h => by cases h
 | x :: l, h, v, hv => by
  unfold QAx at h
  cases hx : x.oneCell' with
  | false => rw [hx] at h; cases h
  | true =>
   rw [hx] at h
   rcases List.mem_cons.1 hv with rfl | hv
   ·exact hx
   ·exact QDi h v hv
section
variable {w w' : World} {g : Nat} {T : TypeId} {l : List Value}
theorem Blk.at {v : Value} (h : Blk w g T l.toArray) {j : Nat} (hj : nth l j = some v) : w.cell? ⟨g, j, none⟩ = some v := by
 rw [h.cell, ← hj, QIp]
 simp
end
section
variable {P : Program} {n : Nat} {σ : Sg} {w : World} {Q : Exit → Act → World → Prop} {L : List Oper} {rest : List Oper}
theorem QAh {t T : TypeId} {g o k : Nat} {l l' : List Value} {v : Value} (hs : (P.info? t).map (·.size) = some k) (hb : Blk w g T l.toArray) (hv : v.cells.toList = l') (hk : lenV l' = k) (ho : Nat.ble (o + k) (lenV l) = true) (h1 : QAx l' = true) :
  (Instr.storeAt t (.pointer (some ⟨g, o, none⟩)) v).run P w = .ok () (w.setRow g (spl l o l').toArray) := by
 have hl : l'.length = k := by rw [← Ya]; exact hk
 have hlo : o + k ≤ l.length := by rw [← Ya]; simpa [Nat.ble_eq] using ho
 have hsz : v.cells.size = k := by rw [← hl, ← hv, Array.length_toList]
 have hst := run_storeCells_at P g o T l' 0 l.toArray w hb (by simp; omega) (QDi h1)
 rw [QAR l o l' (by omega)]
 cases hq : P.info? t with
 | none => rw [hq] at hs; cases hs
 | some i =>
  have hi : i.size = k := by simpa [hq] using hs
  simp only [Nat.add_zero] at hst
  simp [Instr.storeAt, Instr.sureAddr, storeVar, sizeOf, typeInfo, hq, hi, hsz, hv, hst]
theorem Y2 {g : Nat} {T : TypeId} {cs ds : Array Value} (h : Blk w g T cs) : Blk (w.setRow g ds) g T ds := setRow_heap w g cs ds T (0, 0) h
theorem YY (w : World) (g : Nat) (ds : Array Value) : w.grownBy (w.setRow g ds) (some g) := by
 have e : ∀ k, k ≠ g → (w.setRow g ds).heap[k]? = w.heap[k]? := fun k hk => by
  unfold World.setRow
  simp only [Array.getElem?_modify]
  rw [if_neg (Ne.symm hk)]
 exact ⟨rfl, rfl, rfl, by simp [World.setRow], fun k _ hne => e k (fun h => hne (by rw [h]))⟩
/-- a store into one's own block -/
theorem EL.store {ty t T g o k : Nat} {x y : Operand} {pos : String} {af : Array Edge} {l l' : List Value} {v : Value} (hx : evS σ x = some (.pointer (some ⟨g, o, none⟩))) (hy : evS σ y = some v) (hb : Blk w g T l.toArray) (hs : (P.info? t).map (·.size) = some k) (hv : v.cells.toList = l') (hk : lenV l' = k) (ho : Nat.ble (o + k) (lenV l) = true) (h1 : QAx l' = true)
  (next : ∀ w', Blk w' g T (spl l o l').toArray → w.grownBy w' (some g) → EL P n L Q rest σ w') : EL P n L Q (⟨none, .store t x y, ty, pos, af, none⟩ :: rest) σ w := fun a ha => by
 unfold wpList
 rw [if_pos (ZX rfl _)]
 left
 unfold Oper.wp
 have hr : (execOp a.eval ⟨none, .store t x y, ty, pos, af, none⟩).run P w = .ok .skip (w.setRow g (spl l o l').toArray) := by
  simp only [execOp, ha.eval hx, ha.eval hy, Sem.run_bind, QAh hs hb hv hk ho h1, Result.andThen_ok]
  rfl
 rw [hr, Oper.upon_skip]
 exact next _ (Y2 hb) (YY _ _ _) a ha
/-- a new block -/
theorem EL.new {d ty : Nat} {op : Op} {pos : String} {af : Array Edge} {cs : Array Value} {T : TypeId} {v : Nat → Value} (h : ∀ a, Env n σ a → (execOp a.eval ⟨some d, op, ty, pos, af, none⟩).run P w = .ok (.value (v w.heap.size)) (w.alloc (.cells cs T))) (hd : Nat.blt d n = true)
  (next : ∀ g w', Blk w' g T cs → Below w.heap.size w w' → w.heap.size ≤ g → w.heap.size < w'.heap.size → EL P n L Q rest (ins σ d (v g)) w') : EL P n L Q (⟨some d, op, ty, pos, af, none⟩ :: rest) σ w :=
 EL.turn _ _ h hd (next _ _ (Blk.new w T cs) ((Below.refl _ _).alloc (Nat.le_refl _) _) (Nat.le_refl _) (by simp))
theorem EL.newP {d ty : Nat} {op : Op} {pos : String} {af : Array Edge} {cs : Array Value} {T : TypeId} (h : ∀ a, Env n σ a → (execOp a.eval ⟨some d, op, ty, pos, af, none⟩).run P w = .ok (.value (.pointer (some ⟨w.heap.size, 0, none⟩))) (w.alloc (.cells cs T))) (hd : Nat.blt d n = true)
  (next : ∀ g w', Blk w' g T cs → Below w.heap.size w w' → w.heap.size ≤ g → w.heap.size < w'.heap.size → EL P n L Q rest (ins σ d (.pointer (some ⟨g, 0, none⟩))) w') : EL P n L Q (⟨some d, op, ty, pos, af, none⟩ :: rest) σ w :=
 EL.new (v := fun g => .pointer (some ⟨g, 0, none⟩)) h hd next
theorem EL.newS {d ty m c : Nat} {op : Op} {pos : String} {af : Array Edge} {cs : Array Value} {T : TypeId} (h : ∀ a, Env n σ a → (execOp a.eval ⟨some d, op, ty, pos, af, none⟩).run P w = .ok (.value (.slice (some ⟨w.heap.size, 0, none⟩) m c)) (w.alloc (.cells cs T))) (hd : Nat.blt d n = true)
  (next : ∀ g w', Blk w' g T cs → Below w.heap.size w w' → w.heap.size ≤ g → w.heap.size < w'.heap.size → EL P n L Q rest (ins σ d (.slice (some ⟨g, 0, none⟩) m c)) w') : EL P n L Q (⟨some d, op, ty, pos, af, none⟩ :: rest) σ w :=
 EL.new (v := fun g => .slice (some ⟨g, 0, none⟩) m c) h hd next
theorem ZC {w0 w w' : World} {g : Nat} (hb : Below w0.heap.size w0 w) (hg : w.grownBy w' (some g)) (h : w0.heap.size ≤ g) : Below w0.heap.size w0 w' :=
 hb.grown hg hb.size fun k hk => by injection hk with hk; omega
theorem YE {t : TypeId} {s x : Operand} {o : Oper} {v v' : Value} {src : Value} {w' : World} {a : Act} (ho : o.op = .call { callee := .builtin .append, args := #[s, x], argTypes := #[t, t] }) (hs : a.eval s = v) (hx : a.eval x = src) (hr : (Builtin.append_ #[t, t] o.type #[v, src]).run P w = .ok v' w') :
  (execOp a.eval o).run P w = .ok (.value v') w' := by
 unfold execOp
 simp only [ho, resolve, invoke, builtin, Sem.run_bind, Sem.run_pure, Result.andThen_ok, List.map_toArray, List.map_cons, List.map_nil, hs, hx, hr]
theorem QAi {t e : TypeId} {size bytes base B m k ty : Nat} (E : Elem P t e size bytes) {v src : Value} {xs news : List Value} (hown : w.ownsRow base e size v k xs) (hr : Rd w B size src m news) (h1 : ∀ u ∈ news, u.oneCell' = true) (hm : k + m ≤ 1048576) (hby : bytes ≤ 1048576) (hbase : base ≤ w.heap.size) :
  ∃ v' w', (Builtin.append_ #[t, t] ty #[v, src]).run P w = .ok v' w' ∧ w'.ownsRow base e size v' (k + m) (xs ++ news) ∧ w.grownBy w' v.ownBlock ∧ Below base w w' ∧ (v'.ownBlock = v.ownBlock ∨ v'.ownBlock = some w.heap.size) := by
 obtain ⟨i, z, hi, hz, hsize, hb, hzs⟩ := E.hi;have hmul : (k + m) * bytes ≤ 140737488355328 := by
  have h1 : (k + m) * bytes ≤ 1048576 * bytes := Nat.mul_le_mul_right _ hm
  omega
 obtain ⟨v', w', h2, h3, h4, h5⟩ := run_append_rd (P := P) w base t ty e i z size bytes E.ht hi hz hsize hb hzs E.hs v k xs hown B src m news hr h1 (by simp only [maxLen]; omega) hmul hbase
 exact ⟨v', w', h2, h3, h4, (Below.refl _ _).grown h4 hbase fun g hg => (hown.lt g hg).1, h5⟩
/-- an append to a row of one's own -/
theorem EL.push {d ty t e size bytes base B m k : Nat} {s x : Operand} {pos : String} {af : Array Edge} (E : Elem P t e size bytes) {v src : Value} {xs news : List Value} (hs : evS σ s = some v) (hx : evS σ x = some src) (hown : w.ownsRow base e size v k xs) (hr : Rd w B size src m news) (h1 : ∀ u ∈ news, u.oneCell' = true) (hm : k + m ≤ 1048576) (hby : Nat.ble bytes 1048576 = true) (hbase : base ≤ w.heap.size) (hd : Nat.blt d n = true)
  (next : ∀ v' w', w'.ownsRow base e size v' (k + m) (xs ++ news) → w.grownBy w' v.ownBlock → Below base w w' → (v'.ownBlock = v.ownBlock ∨ v'.ownBlock = some w.heap.size) → EL P n L Q rest (ins σ d v') w') : EL P n L Q (⟨some d, .call { callee := .builtin .append, args := #[s, x], argTypes := #[t, t] }, ty, pos, af, none⟩ :: rest) σ w := fun a ha => by
 obtain ⟨v', w', h2, h3, h4, h5, h6⟩ := QAi (P := P) (ty := ty) E hown hr h1 hm (by simpa [Nat.ble_eq] using hby) hbase
 exact QAQ (ZX rfl _) (YE rfl (ha.eval hs) (ha.eval hx) h2) (next v' w' h3 h4 h5 h6 _ (ha.put hd v'))
end
/-- one element in a block -/
theorem QB9 {w : World} {g size T : Nat} {l : List Value} (h : Blk w g T l.toArray) (hl : lenV l = size) : Rd w w.heap.size size (.slice (some ⟨g, 0, none⟩) 1 1) 1 l := by
 have hl' : l.length = size := by rw [← Ya]; exact hl
 refine ⟨by omega, _, _, rfl, Nat.le_refl _, fun _ => ⟨g, 0, rfl, h.lt, fun j u hu => ?_⟩⟩
 rw [Nat.zero_add, h.cell]
 simpa using hu
section
variable {P : Program} {n : Nat} {σ : Sg} {w : World}
theorem QLi {fn : Func} {c : Tmp} {t : TypeId} {p : Addr} {v : Value} (h : fn.results = #[.cell c t]) (hc : σ c = some (.pointer (some p))) (hl : (loadVar t p).run P w = .ok v w) (a : Act) (ha : Env n σ a) : (results fn a.tmps).run P w = .ok v w := by
 have h1 : a.tmps.getD c undef = .pointer (some p) := ha.eval (x := .tmp c) hc;rw [Array.getD_eq_getD_getElem?] at h1
 simp [results, h, h1, asAddr, hl]
theorem QLh {fn : Func} {c s : Tmp} {t : TypeId} {p : Addr} {v u : Value} (h : fn.results = #[.cell c t, .tmp s]) (hc : σ c = some (.pointer (some p))) (hs : σ s = some u) (hl : (loadVar t p).run P w = .ok v w) (a : Act) (ha : Env n σ a) : (results fn a.tmps).run P w = .ok (.tuple #[v, u]) w := by
 have h1 : a.tmps.getD c undef = .pointer (some p) := ha.eval (x := .tmp c) hc;have h2 : a.tmps.getD s undef = u := ha.eval (x := .tmp s) hs;rw [Array.getD_eq_getD_getElem?] at h1 h2
 simp [results, h, h1, h2, asAddr, hl]
end
/-- several elements in a block -/
theorem YG {w : World} {g size k T : Nat} {l : List Value} (h : Blk w g T l.toArray) (hl : lenV l = k * size) : Rd w w.heap.size size (.slice (some ⟨g, 0, none⟩) k k) k l := by
 have hl' : l.length = k * size := by rw [← Ya]; exact hl
 refine ⟨hl', _, _, rfl, Nat.le_refl _, fun _ => ⟨g, 0, rfl, h.lt, fun j u hu => ?_⟩⟩
 rw [Nat.zero_add, h.cell]
 simpa using hu
/-! ### The head of a drawn region -/
section
variable {P : Program} {n : Nat} {L : List Oper} {Q : Exit → Act → World → Prop} {cls : List (List Nat)} {m : Nat} {alc : List Nat} {w w1 : World} {Φ : Nat → (Nat → Value) → World → Prop} {i : Nat} {val : Nat → Value} {a : Act} {σ : Sg}
abbrev HK (L : List Oper) (cls : List (List Nat)) (alc : List Nat) (Φ : Nat → (Nat → Value) → World → Prop) (i : Nat) (val : Nat → Value) (a : Act) (w1 : World) : Act → World → Prop :=
 fun a' w' => ∃ v, a' = a.put (ZQ L i) v ∧ Below w1.heap.size w1 w' ∧ Φ i (res (upd val i v) i (clsAt cls i)) w' ∧ (i ∈ alc → v = .pointer (some ⟨w1.heap.size, 0, none⟩) ∧ w1.heap.size < w'.heap.size)
theorem opL {o : Oper} (ho : nthO L i = some o) : L.toArray[i]? = some o ∧ ZQ L i = o.dst := by
 have : ∀ (L : List Oper) (i : Nat), nthO L i = some o → L[i]? = some o := by
  intro L
  induction L with
  | nil => intro i h; cases h
  | cons x L ih =>
   intro i h
   cases i with
   | zero => simpa [nthO] using h
   | succ i => simpa using ih i h
 have h := this L i ho
 exact ⟨by simpa using h, dstOf_at h⟩
theorem QGD {o : Oper} {v : Value} {w' : World} (ho : nthO L i = some o) (hg : o.guard = none) (hr : (execOp a.eval o).run P w1 = .ok (.value v) w') (hb : Below w1.heap.size w1 w') (hΦ : Φ i (res (upd val i v) i (clsAt cls i)) w') (halc : i ∈ alc → v = .pointer (some ⟨w1.heap.size, 0, none⟩) ∧ w1.heap.size < w'.heap.size) :
  wpOp P L.toArray Q i (HK L cls alc Φ i val a w1) a w1 := by
 obtain ⟨h1, h2⟩ := opL ho
 unfold wpOp
 simp only [h1]
 rw [if_pos (ZX hg _)]
 left
 unfold Oper.wp
 rw [hr]
 exact ⟨v, by rw [h2], hb, hΦ, halc⟩
/-- a value, the world as it was -/
theorem ZB {o : Oper} {v : Value} (ha : Env n σ a) (ho : nthO L i = some o) (hg : o.guard = none) (hr : ZE P n σ w1 o v) (hΦ : Φ i (res (upd val i v) i (clsAt cls i)) w1) (halc : memB alc i = false) : wpOp P L.toArray Q i (HK L cls alc Φ i val a w1) a w1 :=
 QGD ho hg (hr a ha) ⟨rfl, rfl, rfl, Nat.le_refl _, fun _ _ => rfl⟩ hΦ fun h => by rw [ZA.2 h] at halc; cases halc
theorem QJK {o : Oper} {cs : Array Value} {T : TypeId} {v : Nat → Value} (ho : nthO L i = some o) (hg : o.guard = none) (hr : ∀ a, Env n σ a → (execOp a.eval o).run P w1 = .ok (.value (v w1.heap.size)) (w1.alloc (.cells cs T))) (ha : Env n σ a)
  (hv : memB alc i = true → v = fun g => .pointer (some ⟨g, 0, none⟩)) (hΦ : ∀ g w', Blk w' g T cs → Below w1.heap.size w1 w' → w1.heap.size ≤ g → Φ i (res (upd val i (v g)) i (clsAt cls i)) w') : wpOp P L.toArray Q i (HK L cls alc Φ i val a w1) a w1 :=
 QGD ho hg (hr a ha) ((Below.refl _ _).alloc (Nat.le_refl _) _) (hΦ _ _ (Blk.new w1 T cs) ((Below.refl _ _).alloc (Nat.le_refl _) _) (Nat.le_refl _)) fun h => by rw [hv (ZA.2 h)]; exact ⟨rfl, by simp⟩
theorem QG7 {o : Oper} {cs : Array Value} {T : TypeId} (ha : Env n σ a) (ho : nthO L i = some o) (hg : o.guard = none) (hr : ∀ a, Env n σ a → (execOp a.eval o).run P w1 = .ok (.value (.pointer (some ⟨w1.heap.size, 0, none⟩))) (w1.alloc (.cells cs T)))
  (hΦ : ∀ g w', Blk w' g T cs → Below w1.heap.size w1 w' → w1.heap.size ≤ g → Φ i (res (upd val i (.pointer (some ⟨g, 0, none⟩))) i (clsAt cls i)) w') : wpOp P L.toArray Q i (HK L cls alc Φ i val a w1) a w1 :=
 QJK (v := fun g => .pointer (some ⟨g, 0, none⟩)) ho hg hr ha (fun _ => rfl) hΦ
theorem YB {o : Oper} {m c : Nat} {cs : Array Value} {T : TypeId} (ha : Env n σ a) (ho : nthO L i = some o) (hg : o.guard = none) (hr : ∀ a, Env n σ a → (execOp a.eval o).run P w1 = .ok (.value (.slice (some ⟨w1.heap.size, 0, none⟩) m c)) (w1.alloc (.cells cs T))) (halc : memB alc i = false)
  (hΦ : ∀ g w', Blk w' g T cs → Below w1.heap.size w1 w' → w1.heap.size ≤ g → Φ i (res (upd val i (.slice (some ⟨g, 0, none⟩) m c)) i (clsAt cls i)) w') : wpOp P L.toArray Q i (HK L cls alc Φ i val a w1) a w1 :=
 QJK (v := fun g => .slice (some ⟨g, 0, none⟩) m c) ho hg hr ha (fun h => by rw [halc] at h; cases h) hΦ
theorem Zf {o : Oper} {f : FuncId} {args : Array Value} {R : Ending → World → Prop} (ha : Env n σ a) (ho : nthO L i = some o) (hg : o.guard = none) (hr : ∀ a, Env n σ a → (execOp a.eval o).run P w1 = .ok (.enter f args) w1) (hc : Calls P f args w1 R)
  (halc : memB alc i = false) (hΦ : ∀ e w', R e w' → ∃ v, e = .returned v ∧ Below w1.heap.size w1 w' ∧ Φ i (res (upd val i v) i (clsAt cls i)) w') : wpOp P L.toArray Q i (HK L cls alc Φ i val a w1) a w1 := by
 obtain ⟨h1, h2⟩ := opL ho
 unfold wpOp
 simp only [h1]
 rw [if_pos (ZX hg _)]
 left
 unfold Oper.wp
 rw [hr a ha, Oper.upon_enter];refine hc.mono fun e w' he => ?_
 obtain ⟨v, rfl, hb, hp⟩ := hΦ e w' he
 exact ⟨v, by rw [h2], hb, hp, fun h => by rw [ZA.2 h] at halc; cases halc⟩
theorem ZI {d : Nat} {u v : Value} (h : σ d = some u) (e : u = v) : σ d = some v := h.trans (congrArg some e)
theorem QCJ {w' : World} {g : Nat} (h : Alc alc m val w w') (hi : memB alc i = true) (him : Nat.blt i m = true) (e : val i = .pointer (some ⟨g, 0, none⟩)) : w.heap.size ≤ g := by
 obtain ⟨g', h1, h2, _⟩ := h.1 i (ZA.1 hi) (by simpa [Nat.blt_eq] using him)
 rw [e] at h1
 injection h1 with h1
 injection h1 with h1
 injection h1 with h1
 omega
theorem QJj {w' : World} {j g k : Nat} (h : Alc alc m val w w') (hi : memB alc i = true) (hj : memB alc j = true) (him : Nat.blt i m = true) (hjm : Nat.blt j m = true) (hij : Nat.beq i j = false) (e : val i = .pointer (some ⟨g, 0, none⟩)) (e' : val j = .pointer (some ⟨k, 0, none⟩)) : g ≠ k := fun hk => by
 have := h.2 i (ZA.1 hi) j (ZA.1 hj) (by simpa [Nat.blt_eq] using him) (by simpa [Nat.blt_eq] using hjm) (Nat.ne_of_beq_eq_false hij)
 rw [e, e', hk] at this
 exact this rfl
def Mono (F : (Nat → Value) → World → Prop) : Prop := ∀ r w1 w2, Below w1.heap.size w1 w2 → F r w1 → F r w2
theorem Zw {T k m c : Nat} {cs : (Nat → Value) → Array Value} {C : Nat → Prop} : Mono fun r w => ∃ g, r k = .slice (some ⟨g, 0, none⟩) m c ∧ Blk w g T (cs r) ∧ C g := fun _ _ _ hb ⟨g, h1, h2, h3⟩ => ⟨g, h1, h2.below hb h2.lt, h3⟩
theorem QDA {T k : Nat} {cs : Array Value} : Mono fun r w => ∃ g, r k = .pointer (some ⟨g, 0, none⟩) ∧ Blk w g T cs := fun _ _ _ hb ⟨g, h1, h2⟩ => ⟨g, h1, h2.below hb h2.lt⟩
/-! what the operations of a head tell -/
def phi (V : Nat → (Nat → Value) → Prop) : List (Nat × ((Nat → Value) → World → Prop)) → Nat → (Nat → Value) → World → Prop
 | [], i, r, _ => V i r
 | p :: l, i, r, w => match Nat.beq i p.1 with
  | true => p.2 r w
  | false => phi V l i r w
theorem ZY {V : Nat → (Nat → Value) → Prop} : ∀ i r w1 w2, Below w1.heap.size w1 w2 → phi V [] i r w1 → phi V [] i r w2 := fun _ _ _ _ _ h => h
theorem ZT {V : Nat → (Nat → Value) → Prop} {k : Nat} {F : (Nat → Value) → World → Prop} {l : List (Nat × ((Nat → Value) → World → Prop))} (hF : Mono F) (hl : ∀ i r w1 w2, Below w1.heap.size w1 w2 → phi V l i r w1 → phi V l i r w2) :
  ∀ i r w1 w2, Below w1.heap.size w1 w2 → phi V ((k, F) :: l) i r w1 → phi V ((k, F) :: l) i r w2 := by
 intro i r w1 w2 hb h
 unfold phi at h ⊢
 cases e : Nat.beq i k with
 | true => simp only [e] at h ⊢; exact hF r w1 w2 hb h
 | false => simp only [e] at h ⊢; exact hl i r w1 w2 hb h
def nthV : List Value → Nat → Value
 | [], _ => undef
 | v :: _, 0 => v
 | _ :: l, k + 1 => nthV l k
def QHJ (val : Nat → Value) : Nat → List Value → Prop
 | _, [] => True
 | k, c :: l => val k = c ∧ QHJ val (k + 1) l
theorem QDm {val : Nat → Value} : ∀ {l : List Value} {k : Nat}, QHJ val k l → ∀ j, j < l.length → val (k + j) = nthV l j
 | [], _, _, j, h => by simp at h
 | c :: l, k, h, 0, _ => h.1
 | c :: l, k, h, j + 1, hj => by
  have := QDm h.2 j (by simpa using hj)
  rw [show k + (j + 1) = k + 1 + j by omega]
  exact this
theorem QAg {v1 v2 : Nat → Value} : ∀ m, (∀ j, j < m → v1 j = v2 j) → sgEnd L σ v1 m = sgEnd L σ v2 m
 | 0, _ => rfl
 | m + 1, h => by
  unfold sgEnd
  rw [QAg m fun j hj => h j (by omega), h m (by omega)]
theorem EL.ends {rest : List Oper} {cs : List Value} (hv : QHJ val 0 cs) (hl : Nat.ble m (lenV cs) = true) (h : EL P n L Q rest (sgEnd L σ (nthV cs) m) w) : EL P n L Q rest (sgEnd L σ val m) w := by
 have hl' : m ≤ cs.length := by rw [← Ya]; simpa [Nat.ble_eq] using hl
 rw [QAg m fun j hj => by have := QDm hv j (by omega); simpa using this]
 exact h
end
section
variable {P : Program} {n : Nat} {σ : Sg} {w : World} {Q : Exit → Act → World → Prop} {L : List Oper}
def flD (sto : List Nat) (D : Array Bool) : Nat → Bool := fun k => bif memB sto k then D.getD k false else false
def fset (fl : Nat → Bool) (i : Nat) : Nat → Bool := fun k => bif Nat.beq k i then true else fl k
/-- of what is known of worlds in the region -/
structure BaseOk (w : World) (Base : (Nat → Bool) → World → Prop) : Prop where
 start : ∀ fl, (∀ k, fl k = false) → Base fl { w with drawn := w.drawn + 1 }
 grow : ∀ fl w1 w2, Base fl w1 → Below w1.heap.size w1 w2 → Base fl w2
 size : ∀ fl w1, Base fl w1 → w.heap.size ≤ w1.heap.size
def QK1 (P : Program) (n : Nat) (L : List Oper) (Q : Exit → Act → World → Prop) (cls : List (List Nat)) (m : Nat) (alc sto : List Nat) (σ : Sg) (Base : (Nat → Bool) → World → Prop) (Φ : Nat → (Nat → Bool) → (Nat → Value) → World → Prop) (i : Nat) : Prop :=
 ∀ (val : Nat → Value) (fl : Nat → Bool) (w1 : World) (a : Act), Base fl w1 → Env n (sgAt L cls m σ val i) a → (∀ j, j ∈ clsAt cls i → Φ j fl (res val j (clsAt cls j)) w1) → (∀ s ∈ sto, i ∈ clsAt cls s → fl s = false) →
  wpOp P L.toArray Q i (fun a' w' => ∃ v, a' = a.put (ZQ L i) v ∧ Below w1.heap.size w1 w' ∧ Φ i fl (res (upd val i v) i (clsAt cls i)) w' ∧ (i ∈ alc → v = .pointer (some ⟨w1.heap.size, 0, none⟩) ∧ w1.heap.size < w'.heap.size)) a w1
def QK0 (P : Program) (n : Nat) (L : List Oper) (Q : Exit → Act → World → Prop) (cls : List (List Nat)) (m : Nat) (alc sto : List Nat) (σ : Sg) (Base : (Nat → Bool) → World → Prop) (Φ : Nat → (Nat → Bool) → (Nat → Value) → World → Prop) (i : Nat) : Prop :=
 ∀ (val : Nat → Value) (fl : Nat → Bool) (w1 : World) (a : Act), Base fl w1 → fl i = false → Env n (sgAt L cls m σ val i) a → (∀ j, j ∈ clsAt cls i → Φ j fl (res val j (clsAt cls j)) w1) → (∀ s ∈ sto, i ∈ clsAt cls s → fl s = false) →
  wpOp P L.toArray Q i (fun a' w' => ∃ v, a' = a.put (ZQ L i) v ∧ w1.heap.size ≤ w'.heap.size ∧ Base (fset fl i) w' ∧ Φ i (fset fl i) (res (upd val i v) i (clsAt cls i)) w' ∧
   ∀ j, j < m → j ≠ i → i ∉ clsAt cls j → (∀ p ∈ alc, (p = j ∨ p ∈ clsAt cls j) → ∀ q ∈ alc, (q = i ∨ q ∈ clsAt cls i) → p ≠ q → val p ≠ val q) → Φ j fl (res val j (clsAt cls j)) w1 → Φ j (fset fl i) (res val j (clsAt cls j)) w') a w1
structure SInv (n : Nat) (L : List Oper) (cls : List (List Nat)) (m : Nat) (alc sto : List Nat) (σ : Sg) (w : World) (Base : (Nat → Bool) → World → Prop) (Φ : Nat → (Nat → Bool) → (Nat → Value) → World → Prop) (D : Array Bool) (val : Nat → Value) (a : Act) (w' : World) : Prop where
 base : Base (flD sto D) w'
 size : a.tmps.size = n
 defers : a.defers = []
 new : ∀ i d, i < m → D.getD i false = true → ZQ L i = some d → a.tmps[d]? = some (val i)
 old : ∀ t v, σ t = some v → (∀ k, k < m → D.getD k false = true → ZQ L k ≠ some t) → a.tmps[t]? = some v
 says : ∀ i, i < m → D.getD i false = true → Φ i (flD sto D) (res val i (clsAt cls i)) w'
 down : ∀ i, D.getD i false = true → ∀ j ∈ clsAt cls i, D.getD j false = true
 alc1 : ∀ i ∈ alc, i < m → D.getD i false = true → ∃ g, val i = .pointer (some ⟨g, 0, none⟩) ∧ w.heap.size ≤ g ∧ g < w'.heap.size
 alc2 : ∀ i ∈ alc, ∀ j ∈ alc, i < m → j < m → D.getD i false = true → D.getD j false = true → i ≠ j → val i ≠ val j
 high : ∀ i, m ≤ i → D.getD i false = false
theorem QJP {sto : List Nat} {D : Array Bool} {i : Nat} (hi : i ∉ sto) (hs : i < D.size) : flD sto (D.setIfInBounds i true) = flD sto D := by
 funext k
 unfold flD
 cases e : memB sto k with
 | false => rfl
 | true =>
  have : k ≠ i := fun h => hi (h ▸ ZA.1 e)
  rw [set_get hs, if_neg this]
theorem QKD {sto : List Nat} {D : Array Bool} {i : Nat} (hi : i ∈ sto) (hs : i < D.size) : flD sto (D.setIfInBounds i true) = fset (flD sto D) i := by
 funext k
 unfold flD fset
 rw [set_get hs]
 cases e : Nat.beq k i with
 | true =>
  have := Nat.eq_of_beq_eq_true e;subst this;rw [ZA.2 hi]
  simp
 | false =>
  have := Nat.ne_of_beq_eq_false e;rw [if_neg this]
  rfl
theorem EO.regionS (cls : List (List Nat)) (m : Nat) (alc sto : List Nat) (Base : (Nat → Bool) → World → Prop) (Φ : Nat → (Nat → Bool) → (Nat → Value) → World → Prop) (hf : P.follows .mixedOrders = true) (hq : Yw n cls m 0 L = true) (hml : Nat.ble m L.length = true) (hds : ∀ i ∈ sto, i ∉ alc ∧ i < m) (hB : BaseOk w Base)
  (hmono : ∀ i fl r w1 w2, Below w1.heap.size w1 w2 → Φ i fl r w1 → Φ i fl r w2)
  (hstep : ∀ i, i < m → i ∉ sto → QK1 P n L Q cls m alc sto σ Base Φ i) (hsto : ∀ i ∈ sto, QK0 P n L Q cls m alc sto σ Base Φ i)
  (hend : ∀ val fl w', (∀ k ∈ sto, fl k = true) → Base fl w' → Alc alc m val w w' → (∀ i, i < m → Φ i fl (res val i (clsAt cls i)) w') → EL P n L Q (L.drop m) (sgEnd L σ val m) w') : ∀ a, Env n σ a → RO P L.toArray Q a w := by
 have hm : m ≤ L.length := by simpa [Nat.ble_eq] using hml
 have H := QDS hq;have hback : QCU L.toArray = true := by
  refine List.all_eq_true.2 fun i hi => ?_
  have hi' : i < L.length := by simpa using hi
  have ho : L.toArray[i]? = some L[i] := by simp [hi']
  rw [ho];refine Array.all_eq_true_iff_forall_mem.2 fun e he => ?_
  cases hb : Region.binds .any e with
  | false => rfl
  | true => simpa using H.back i L[i] (by simp [hi']) e he hb
 intro a ha
 -- the tail's part
 have tailDone : ∀ (D : Array Bool) (i : Nat) (o : Oper), (∀ i, D.getD i false = true → ∀ j ∈ clsAt cls i, D.getD j false = true) → L[i]? = some o → (∀ e ∈ o.after, Region.binds .any e = true → D.getD e.on false = true) → ∀ j ∈ clsAt cls i, D.getD j false = true := by
  intro D i o hdown ho hdep j hj;obtain ⟨e, he, hb, h⟩ := H.dep i o ho j hj
  rcases h with rfl | h
  ·exact hdep e he hb
  ·exact hdown _ (hdep e he hb) j h
 have hEnd : ∀ (D : Array Bool) (val : Nat → Value) (a : Act) (w' : World), SInv n L cls m alc sto σ w Base Φ D val a w' → (∀ i, i < m → D.getD i false = true) → wpList P L.toArray Q (L.drop m) a w' := by
  intro D val a w' I hall;refine hend val (flD sto D) w' (fun k hk => by unfold flD; rw [ZA.2 hk]; exact hall k (hds k hk).2) I.base ⟨fun i hi hlt => I.alc1 i hi hlt (hall i hlt), fun i hi j hj h1 h2 hne => I.alc2 i hi j hj h1 h2 (hall i h1) (hall j h2) hne⟩ (fun i hi => I.says i hi (hall i hi)) a ⟨I.size, I.defers, ?_⟩
  have : ∀ k, k ≤ m → ∀ t v, sgEnd L σ val k t = some v → (∀ j, k ≤ j → j < m → ZQ L j ≠ some t) → a.tmps[t]? = some v := by
   intro k
   induction k with
   | zero => intro _ t v ht hn; exact I.old t v ht fun j hj _ => hn j (Nat.zero_le _) hj
   | succ k ih =>
    intro hk t v ht hn
    unfold sgEnd at ht
    cases hd : ZQ L k with
    | none =>
     simp only [hd] at ht
     exact ih (by omega) t v ht fun j h1 h2 => by
      rcases Nat.lt_or_ge k j with h | h
      ·exact hn j h h2
      ·obtain rfl : j = k := by omega
       rw [hd]; simp
    | some d =>
     simp only [hd] at ht
     unfold ins at ht
     cases e : Nat.beq t d with
     | true =>
      rw [e] at ht;have e' := Nat.eq_of_beq_eq_true e;subst e';rw [I.new k t (by omega) (hall k (by omega)) hd]
      exact ht
     | false =>
      rw [e] at ht
      exact ih (by omega) t v ht fun j h1 h2 => by
       rcases Nat.lt_or_ge k j with h | h
       ·exact hn j h h2
       ·obtain rfl : j = k := by omega
        rw [hd];intro e2
        injection e2 with e2
        exact Nat.ne_of_beq_eq_false e e2.symm
  exact fun t v ht => this m (Nat.le_refl _) t v ht fun j h1 h2 => by omega
 refine QIk hf hback (fun D a w' => (∃ val, SInv n L cls m alc sto σ w Base Φ D val a w') ∨ ∃ k, m < k ∧ k ≤ L.length ∧ (∀ i, D.getD i false = decide (i < k)) ∧ wpList P L.toArray Q (L.drop k) a w') ?_ ?_ ?_
 ·left
  have hno : ∀ i, (Array.replicate L.toArray.size false).getD i false = false := fun i => by
   by_cases h : i < L.toArray.size
   ·simp [Array.getD]
   ·simp [Array.getD]
  refine ⟨fun _ => undef, ⟨hB.start _ (fun k => by unfold flD; rw [hno]; cases memB sto k <;> rfl), ha.size, ha.defers, ?_, fun t v ht _ => ha.get t v ht, ?_, ?_, ?_, ?_, fun i _ => hno i⟩⟩
  ·intro i d _ h; rw [hno] at h; cases h
  ·intro i _ h; rw [hno] at h; cases h
  ·intro i h; rw [hno] at h; cases h
  ·intro i _ _ h; rw [hno] at h; cases h
  ·intro i _ j _ _ _ h; rw [hno] at h; cases h
 ·intro D a w1 i o hs hI hni ho hdep
  have hs' : D.size = L.length := by simpa using hs
  have ho' : L[i]? = some o := by simpa using ho
  have hil : i < L.length := (List.getElem?_eq_some_iff.1 ho').1;have hnd : D.getD i false = false := QAH (by omega) hni
  have takeTail : ∀ (k : Nat), k = i → m ≤ k → (∀ j, D.getD j false = decide (j < k)) → wpList P L.toArray Q (L.drop k) a w1 →
    wpOp P L.toArray Q i (fun a w' => (∃ val, SInv n L cls m alc sto σ w Base Φ (D.setIfInBounds i true) val a w') ∨ ∃ k, m < k ∧ k ≤ L.length ∧ (∀ j, (D.setIfInBounds i true).getD j false = decide (j < k)) ∧ wpList P L.toArray Q (L.drop k) a w') a w1 := by
   intro k hk hmk hD hw;subst hk;rw [List.drop_eq_getElem_cons hil] at hw;have e : L[k] = o := by rw [List.getElem?_eq_getElem hil] at ho'; injection ho'
   rw [e] at hw
   unfold wpList at hw
   have hnext : ∀ a w', wpList P L.toArray Q (L.drop (k + 1)) a w' → (∃ val, SInv n L cls m alc sto σ w Base Φ (D.setIfInBounds k true) val a w') ∨ ∃ k', m < k' ∧ k' ≤ L.length ∧ (∀ j, (D.setIfInBounds k true).getD j false = decide (j < k')) ∧ wpList P L.toArray Q (L.drop k') a w' := fun a w' h => .inr ⟨k + 1, by omega, by omega, fun j => by
    rw [set_get (by omega)]
    by_cases e : j = k
    ·subst e; simp
    ·rw [if_neg e, hD]
     by_cases h : j < k
     ·simp [h]; omega
     ·simp [h]; omega, h⟩
   unfold wpOp
   simp only [ho]
   split
   ·rename_i hw'
    rw [if_pos hw'] at hw
    rcases hw with h | h
    ·exact .inl (Oper.wp_mono hnext h)
    ·exact .inr h
   ·rename_i hw'
    rw [if_neg hw'] at hw
    exact hnext _ _ hw
  rcases hI with ⟨val, I⟩ | ⟨k, hmk, hkl, hD, hw⟩
  ·have hcd := tailDone D i o I.down ho' hdep
   rcases Nat.lt_or_ge i m with him | him
   ·have henv : Env n (sgAt L cls m σ val i) a := by
     refine ⟨I.size, I.defers, fun t v ht => ?_⟩
     unfold sgAt at ht
     cases hfw : QCS L t (clsAt cls i) with
     | some j =>
      simp only [hfw] at ht
      obtain ⟨h1, h2⟩ := Y6 hfw
      injection ht with ht
      have hj := hcd j h1;have hjm : j < m := by
       rcases Nat.lt_or_ge j m with h | h
       ·exact h
       ·rw [I.high j h] at hj; cases hj
      rw [I.new j t hjm hj h2, ht]
     | none =>
      simp only [hfw] at ht
      cases hob : oldB L cls i t m with
      | false => rw [hob] at ht; cases ht
      | true =>
       rw [hob] at ht;refine I.old t v ht fun k hk hdk hd => ?_
       rcases QA5 hob k hk hd with rfl | h
       ·rw [hnd] at hdk; cases hdk
       ·have := I.down k hdk i h
        rw [hnd] at this; cases this
    have hjm : ∀ j, D.getD j false = true → j < m := fun j hj => by
     rcases Nat.lt_or_ge j m with h | h
     ·exact h
     ·rw [I.high j h] at hj; cases hj
    by_cases his : i ∈ sto
    ·have hfi : flD sto D i = false := by unfold flD; rw [ZA.2 his]; exact hnd
     refine wpOp_mono ?_ (hsto i his val (flD sto D) w1 a I.base hfi henv (fun j hj => I.says j (hjm j (hcd j hj)) (hcd j hj)) fun s hs' hi' => by
       unfold flD; rw [ZA.2 hs']
       rcases Bool.eq_false_or_eq_true (D.getD s false) with h | h
       ·have := I.down s h i hi'; rw [hnd] at this; cases this
       ·exact h)
     rintro a' w' ⟨v, rfl, hgsz, hbase, hphi, hkeep⟩
     left
     have hsz := hB.size _ _ I.base;have hfl := QKD (D := D) his (by omega)
     obtain ⟨hal0, _⟩ := hds i his;have hdi : ZQ L i = o.dst := dstOf_at ho';refine ⟨upd val i v, ⟨by rw [hfl]; exact hbase, ?_, ?_, ?_, ?_, ?_, ?_, ?_, ?_, ?_⟩⟩
     ·rw [QBa]; exact I.size
     ·cases ZQ L i <;> exact I.defers
     ·intro k d hk hdk hd
      rw [set_get (by omega)] at hdk
      by_cases e : k = i
      ·subst e
       have hdn : d < n := H.small k o d ho' hk (by rw [← hdi]; exact hd)
       rw [hd]
       simp only [Act.put, upd, if_true]
       rw [Array.getElem?_setIfInBounds_self_of_lt (by rw [I.size]; exact hdn)]
      ·rw [if_neg e] at hdk
       have hok : ∃ p, L[k]? = some p := ⟨L[k]'(by omega), by simp [show k < L.length by omega]⟩
       obtain ⟨p, hp⟩ := hok;have hne : ZQ L i ≠ some d := by
        intro h'
        rcases Nat.lt_or_gt_of_ne e with hlt | hgt
        ·exact H.dist k i p o d hp ho' hlt him (by rw [← dstOf_at hp]; exact hd) (by rw [← hdi]; exact h')
        ·exact H.dist i k o p d ho' hp hgt hk (by rw [← hdi]; exact h') (by rw [← dstOf_at hp]; exact hd)
       have := I.new k d hk hdk hd
       simp only [upd, if_neg e]
       cases hdi' : ZQ L i with
       | none => exact this
       | some d' =>
        have : d' ≠ d := fun h => hne (by rw [hdi', h])
        simp only [Act.put, Array.getElem?_setIfInBounds_ne this]
        assumption
     ·intro t u ht hno
      have h1 : a.tmps[t]? = some u := I.old t u ht fun k hk hdk => hno k hk (by rw [set_get (by omega)]; split <;> simp [hdk])
      have h2 : ZQ L i ≠ some t := hno i him (by rw [set_get (by omega), if_pos rfl])
      cases hdi' : ZQ L i with
      | none => exact h1
      | some d' =>
       have : d' ≠ t := fun h => h2 (by rw [hdi', h])
       simp only [Act.put, Array.getElem?_setIfInBounds_ne this]
       exact h1
     ·intro k hk hdk
      rw [set_get (by omega)] at hdk
      rw [hfl]
      by_cases e : k = i
      ·subst e; exact hphi
      ·rw [if_neg e] at hdk
       have hni' : i ∉ clsAt cls k := fun h => by
        have := I.down k hdk i h;rw [hnd] at this; cases this
       rw [QCf e hni'];refine hkeep k hk e hni' (fun p hp hpk q hq hqi hne => ?_) (I.says k hk hdk)
       have hpd : D.getD p false = true := by
        rcases hpk with rfl | h
        ·exact hdk
        ·exact I.down k hdk p h
       have hqd : D.getD q false = true := by
        rcases hqi with rfl | h
        ·exact absurd hq hal0
        ·exact hcd q h
       exact I.alc2 p hp q hq (hjm p hpd) (hjm q hqd) hpd hqd hne
     ·intro k hdk j hj
      rw [set_get (by omega)] at hdk ⊢
      by_cases e : k = i
      ·subst e
       rw [hcd j hj]; simp
      ·rw [if_neg e] at hdk
       rw [I.down k hdk j hj]; simp
     ·intro k hk hkm hdk
      rw [set_get (by omega)] at hdk
      by_cases e : k = i
      ·subst e; exact absurd hk hal0
      ·rw [if_neg e] at hdk
       obtain ⟨g, h1, h2, h3⟩ := I.alc1 k hk hkm hdk
       exact ⟨g, by simp [upd, e, h1], h2, Nat.lt_of_lt_of_le h3 hgsz⟩
     ·intro k hk j hj hkm hjm' hdk hdj hne
      rw [set_get (by omega)] at hdk hdj
      by_cases e : k = i
      ·subst e; exact absurd hk hal0
      ·by_cases e2 : j = i
       ·subst e2; exact absurd hj hal0
       ·rw [if_neg e] at hdk
        rw [if_neg e2] at hdj
        simp only [upd, if_neg e, if_neg e2]
        exact I.alc2 k hk j hj hkm hjm' hdk hdj hne
     ·intro k hk
      rw [set_get (by omega), if_neg (by omega)]
      exact I.high k hk
    refine wpOp_mono ?_ (hstep i him his val (flD sto D) w1 a I.base henv (fun j hj => I.says j (hjm j (hcd j hj)) (hcd j hj)) fun s hs' hi' => by
      unfold flD; rw [ZA.2 hs']
      rcases Bool.eq_false_or_eq_true (D.getD s false) with h | h
      ·have := I.down s h i hi'; rw [hnd] at this; cases this
      ·exact h)
    rintro a' w' ⟨v, rfl, hb, hphi, halc⟩
    left
    have hsz := hB.size _ _ I.base;have hfl := QJP (D := D) his (by omega)
    have hdi : ZQ L i = o.dst := dstOf_at ho';refine ⟨upd val i v, ⟨by rw [hfl]; exact hB.grow _ _ _ I.base hb, ?_, ?_, ?_, ?_, ?_, ?_, ?_, ?_, ?_⟩⟩
    ·rw [QBa]; exact I.size
    ·cases ZQ L i <;> exact I.defers
    ·intro k d hk hdk hd
     rw [set_get (by omega)] at hdk
     by_cases e : k = i
     ·subst e
      have hdn : d < n := H.small k o d ho' hk (by rw [← hdi]; exact hd)
      rw [hd]
      simp only [Act.put, upd, if_true]
      rw [Array.getElem?_setIfInBounds_self_of_lt (by rw [I.size]; exact hdn)]
     ·rw [if_neg e] at hdk
      have hok : ∃ p, L[k]? = some p := ⟨L[k]'(by omega), by simp [show k < L.length by omega]⟩
      obtain ⟨p, hp⟩ := hok;have hne : ZQ L i ≠ some d := by
       intro h'
       rcases Nat.lt_or_gt_of_ne e with hlt | hgt
       ·exact H.dist k i p o d hp ho' hlt him (by rw [← dstOf_at hp]; exact hd) (by rw [← hdi]; exact h')
       ·exact H.dist i k o p d ho' hp hgt hk (by rw [← hdi]; exact h') (by rw [← dstOf_at hp]; exact hd)
      have := I.new k d hk hdk hd
      simp only [upd, if_neg e]
      cases hdi' : ZQ L i with
      | none => exact this
      | some d' =>
       have : d' ≠ d := fun h => hne (by rw [hdi', h])
       simp only [Act.put, Array.getElem?_setIfInBounds_ne this]
       assumption
    ·intro t u ht hno
     have h1 : a.tmps[t]? = some u := I.old t u ht fun k hk hdk => hno k hk (by rw [set_get (by omega)]; split <;> simp [hdk])
     have h2 : ZQ L i ≠ some t := hno i him (by rw [set_get (by omega), if_pos rfl])
     cases hdi' : ZQ L i with
     | none => exact h1
     | some d' =>
      have : d' ≠ t := fun h => h2 (by rw [hdi', h])
      simp only [Act.put, Array.getElem?_setIfInBounds_ne this]
      exact h1
    ·intro k hk hdk
     rw [set_get (by omega)] at hdk
     rw [hfl]
     by_cases e : k = i
     ·subst e; exact hphi
     ·rw [if_neg e] at hdk
      have hni' : i ∉ clsAt cls k := fun h => by
       have := I.down k hdk i h;rw [hnd] at this; cases this
      rw [QCf e hni']
      exact hmono k _ _ w1 w' hb (I.says k hk hdk)
    ·intro k hdk j hj
     rw [set_get (by omega)] at hdk ⊢
     by_cases e : k = i
     ·subst e
      rw [hcd j hj]; simp
     ·rw [if_neg e] at hdk
      rw [I.down k hdk j hj]; simp
    ·intro k hk hkm hdk
     rw [set_get (by omega)] at hdk
     by_cases e : k = i
     ·subst e
      obtain ⟨h1, h2⟩ := halc hk
      exact ⟨w1.heap.size, by simp [upd, h1], hsz, h2⟩
     ·rw [if_neg e] at hdk
      obtain ⟨g, h1, h2, h3⟩ := I.alc1 k hk hkm hdk
      exact ⟨g, by simp [upd, e, h1], h2, Nat.lt_of_lt_of_le h3 hb.size⟩
    ·intro k hk j hj hkm hjm' hdk hdj hne
     rw [set_get (by omega)] at hdk hdj
     by_cases e : k = i
     ·subst e
      have e2 : j ≠ k := Ne.symm hne;rw [if_neg e2] at hdj;obtain ⟨h1, _⟩ := halc hk;obtain ⟨g, h3, _, h5⟩ := I.alc1 j hj hjm' hdj
      simp only [upd, if_true, if_neg e2, h1, h3]
      intro h
      injection h with h
      injection h with h
      injection h with h
      omega
     ·rw [if_neg e] at hdk
      by_cases e2 : j = i
      ·subst e2
       obtain ⟨h1, _⟩ := halc hj;obtain ⟨g, h3, _, h5⟩ := I.alc1 k hk hkm hdk
       simp only [upd, if_true, if_neg e, h1, h3]
       intro h
       injection h with h
       injection h with h
       injection h with h
       omega
      ·rw [if_neg e2] at hdj
       simp only [upd, if_neg e, if_neg e2]
       exact I.alc2 k hk j hj hkm hjm' hdk hdj hne
    ·intro k hk
     rw [set_get (by omega), if_neg (by omega)]
     exact I.high k hk
   ·have hall : ∀ j, j < i → D.getD j false = true := fun j hj => hcd j (H.tail i o ho' him j hj)
    have him' : i = m := by
     rcases Nat.lt_or_ge m i with h | h
     ·have := hall m h
      rw [I.high m (Nat.le_refl _)] at this; cases this
     ·omega
    subst him'
    exact takeTail i rfl (Nat.le_refl _) (fun j => by
     by_cases h : j < i
     ·rw [hall j h]; simp [h]
     ·rw [I.high j (by omega)]; simp [h]) (hEnd D val a w1 I hall)
  ·have hcd : ∀ j, j < i → D.getD j false = true := fun j hj => by
    have hmi : m ≤ i := by
     have := hD i;rw [hnd] at this;have : ¬ i < k := by simpa using this.symm
     omega
    have hdn : ∀ i, D.getD i false = true → ∀ j ∈ clsAt cls i, D.getD j false = true := by
     intro x hx y hy;rw [hD] at hx ⊢;have hx' : x < k := by simpa using hx
     obtain ⟨p, hp⟩ : ∃ p, L[x]? = some p := ⟨L[x]'(by omega), by simp [show x < L.length by omega]⟩
     have : ∀ (x : Nat) (p : Oper), L[x]? = some p → ∀ y ∈ clsAt cls x, y < x := by
      intro x
      induction x using Nat.strongRecOn with
      | ind x ih =>
       intro p hp y hy;obtain ⟨e, he, hb, h⟩ := H.dep x p hp y hy;have h1 := H.back x p hp e he hb
       rcases h with rfl | h
       ·exact h1
       ·obtain ⟨q, hq⟩ : ∃ q, L[e.on]? = some q := by
         have : x < L.length := (List.getElem?_eq_some_iff.1 hp).1
         exact ⟨L[e.on]'(by omega), by simp [show e.on < L.length by omega]⟩
        have := ih e.on h1 q hq y h
        omega
     have := this x p hp y hy
     simp
     omega
    exact tailDone D i o hdn ho' hdep j (H.tail i o ho' hmi j hj)
   have hik : k = i := by
    have h1 := hD i;rw [hnd] at h1;have h2 : ¬ i < k := by simpa using h1.symm
    rcases Nat.lt_or_ge k i with h | h
    ·have := hcd k h
     rw [hD] at this
     simp at this
    ·omega
   exact takeTail k hik (by omega) hD hw
 ·intro D a w1 hs hI hall
  have hs' : D.size = L.length := by simpa using hs
  rcases hI with ⟨val, I⟩ | ⟨k, hmk, hkl, hD, hw⟩
  ·have hmL : m = L.length := by
    rcases Nat.lt_or_ge m L.length with h | h
    ·have := hall m (by simpa using h)
     rw [I.high m (Nat.le_refl _)] at this; cases this
    ·omega
   have := hEnd D val a w1 I fun i hi => hall i (by simp; omega)
   rw [hmL, List.drop_length] at this
   exact this
  ·have hk : k = L.length := by
    rcases Nat.lt_or_ge k L.length with h | h
    ·have := hall k (by simpa using h)
     rw [hD] at this
     simp at this
    ·omega
   rw [hk, List.drop_length] at hw
   exact hw
theorem EC.regionS {id : Nat} (cls : List (List Nat)) (m : Nat) (alc sto : List Nat) (Base : (Nat → Bool) → World → Prop) (Φ : Nat → (Nat → Bool) → (Nat → Value) → World → Prop) (hf : P.follows .mixedOrders = true) (hq : Yw n cls m 0 L = true) (hml : Nat.ble m L.length = true) (hds : ∀ i ∈ sto, i ∉ alc ∧ i < m) (hB : BaseOk w Base)
  (hmono : ∀ i fl r w1 w2, Below w1.heap.size w1 w2 → Φ i fl r w1 → Φ i fl r w2)
  (hstep : ∀ i, i < m → i ∉ sto → QK1 P n L Q cls m alc sto σ Base Φ i) (hsto : ∀ i ∈ sto, QK0 P n L Q cls m alc sto σ Base Φ i)
  (hend : ∀ val fl w', (∀ k ∈ sto, fl k = true) → Base fl w' → Alc alc m val w w' → (∀ i, i < m → Φ i fl (res val i (clsAt cls i)) w') → EL P n L Q (L.drop m) (sgEnd L σ val m) w') : EC P n (.region id L.toArray true) Q σ w := fun a ha => wp_region_draw (EO.regionS cls m alc sto Base Φ hf hq hml hds hB hmono hstep hsto hend a ha)
theorem QBT (w : World) : BaseOk w fun _ w1 => Below w.heap.size w w1 :=
 ⟨fun _ _ => ⟨rfl, rfl, rfl, Nat.le_refl _, fun _ _ => rfl⟩, fun _ _ _ h hb => h.trans (hb.mono h.size), fun _ _ h => h.size⟩
end
section
variable {P : Program} {n : Nat} {L : List Oper} {Q : Exit → Act → World → Prop} {cls : List (List Nat)} {m : Nat} {alc : List Nat} {w w1 : World} {Φ : Nat → (Nat → Bool) → (Nat → Value) → World → Prop} {i : Nat} {val : Nat → Value} {a : Act} {σ : Sg} {fl : Nat → Bool}
abbrev SK (fl : Nat → Bool) (L : List Oper) (cls : List (List Nat)) (alc : List Nat) (Φ : Nat → (Nat → Bool) → (Nat → Value) → World → Prop) (i : Nat) (val : Nat → Value) (a : Act) (w1 : World) : Act → World → Prop :=
 fun a' w' => ∃ v, a' = a.put (ZQ L i) v ∧ Below w1.heap.size w1 w' ∧ Φ i fl (res (upd val i v) i (clsAt cls i)) w' ∧ (i ∈ alc → v = .pointer (some ⟨w1.heap.size, 0, none⟩) ∧ w1.heap.size < w'.heap.size)
theorem QIS {o : Oper} {v : Value} {w' : World} (ho : nthO L i = some o) (hg : o.guard = none) (hr : (execOp a.eval o).run P w1 = .ok (.value v) w') (hb : Below w1.heap.size w1 w') (hΦ : Φ i fl (res (upd val i v) i (clsAt cls i)) w') (halc : i ∈ alc → v = .pointer (some ⟨w1.heap.size, 0, none⟩) ∧ w1.heap.size < w'.heap.size) :
  wpOp P L.toArray Q i (SK fl L cls alc Φ i val a w1) a w1 := by
 obtain ⟨h1, h2⟩ := opL ho
 unfold wpOp
 simp only [h1]
 rw [if_pos (ZX hg _)]
 left
 unfold Oper.wp
 rw [hr]
 exact ⟨v, by rw [h2], hb, hΦ, halc⟩
/-- a value, the world as it was -/
theorem ZJ {o : Oper} {v : Value} (ha : Env n σ a) (ho : nthO L i = some o) (hg : o.guard = none) (hr : ZE P n σ w1 o v) (hΦ : Φ i fl (res (upd val i v) i (clsAt cls i)) w1) (halc : memB alc i = false) : wpOp P L.toArray Q i (SK fl L cls alc Φ i val a w1) a w1 :=
 QIS ho hg (hr a ha) ⟨rfl, rfl, rfl, Nat.le_refl _, fun _ _ => rfl⟩ hΦ fun h => by rw [ZA.2 h] at halc; cases halc
theorem QIT {o : Oper} {cs : Array Value} {T : TypeId} {v : Nat → Value} (ho : nthO L i = some o) (hg : o.guard = none) (hr : ∀ a, Env n σ a → (execOp a.eval o).run P w1 = .ok (.value (v w1.heap.size)) (w1.alloc (.cells cs T))) (ha : Env n σ a)
  (hv : memB alc i = true → v = fun g => .pointer (some ⟨g, 0, none⟩)) (hΦ : ∀ g w', Blk w' g T cs → Below w1.heap.size w1 w' → w1.heap.size ≤ g → Φ i fl (res (upd val i (v g)) i (clsAt cls i)) w') : wpOp P L.toArray Q i (SK fl L cls alc Φ i val a w1) a w1 :=
 QIS ho hg (hr a ha) ((Below.refl _ _).alloc (Nat.le_refl _) _) (hΦ _ _ (Blk.new w1 T cs) ((Below.refl _ _).alloc (Nat.le_refl _) _) (Nat.le_refl _)) fun h => by rw [hv (ZA.2 h)]; exact ⟨rfl, by simp⟩
theorem QCa {o : Oper} {cs : Array Value} {T : TypeId} (ha : Env n σ a) (ho : nthO L i = some o) (hg : o.guard = none) (hr : ∀ a, Env n σ a → (execOp a.eval o).run P w1 = .ok (.value (.pointer (some ⟨w1.heap.size, 0, none⟩))) (w1.alloc (.cells cs T)))
  (hΦ : ∀ g w', Blk w' g T cs → Below w1.heap.size w1 w' → w1.heap.size ≤ g → Φ i fl (res (upd val i (.pointer (some ⟨g, 0, none⟩))) i (clsAt cls i)) w') : wpOp P L.toArray Q i (SK fl L cls alc Φ i val a w1) a w1 :=
 QIT (v := fun g => .pointer (some ⟨g, 0, none⟩)) ho hg hr ha (fun _ => rfl) hΦ
theorem QGc {o : Oper} {m c : Nat} {cs : Array Value} {T : TypeId} (ha : Env n σ a) (ho : nthO L i = some o) (hg : o.guard = none) (hr : ∀ a, Env n σ a → (execOp a.eval o).run P w1 = .ok (.value (.slice (some ⟨w1.heap.size, 0, none⟩) m c)) (w1.alloc (.cells cs T))) (halc : memB alc i = false)
  (hΦ : ∀ g w', Blk w' g T cs → Below w1.heap.size w1 w' → w1.heap.size ≤ g → Φ i fl (res (upd val i (.slice (some ⟨g, 0, none⟩) m c)) i (clsAt cls i)) w') : wpOp P L.toArray Q i (SK fl L cls alc Φ i val a w1) a w1 :=
 QIT (v := fun g => .slice (some ⟨g, 0, none⟩) m c) ho hg hr ha (fun h => by rw [halc] at h; cases h) hΦ
theorem QBY {o : Oper} {f : FuncId} {args : Array Value} {R : Ending → World → Prop} (ha : Env n σ a) (ho : nthO L i = some o) (hg : o.guard = none) (hr : ∀ a, Env n σ a → (execOp a.eval o).run P w1 = .ok (.enter f args) w1) (hc : Calls P f args w1 R)
  (halc : memB alc i = false) (hΦ : ∀ e w', R e w' → ∃ v, e = .returned v ∧ Below w1.heap.size w1 w' ∧ Φ i fl (res (upd val i v) i (clsAt cls i)) w') : wpOp P L.toArray Q i (SK fl L cls alc Φ i val a w1) a w1 := by
 obtain ⟨h1, h2⟩ := opL ho
 unfold wpOp
 simp only [h1]
 rw [if_pos (ZX hg _)]
 left
 unfold Oper.wp
 rw [hr a ha, Oper.upon_enter];refine hc.mono fun e w' he => ?_
 obtain ⟨v, rfl, hb, hp⟩ := hΦ e w' he
 exact ⟨v, by rw [h2], hb, hp, fun h => by rw [ZA.2 h] at halc; cases halc⟩
def phiS (V : Nat → (Nat → Value) → Prop) : List (Nat × ((Nat → Bool) → (Nat → Value) → World → Prop)) → Nat → (Nat → Bool) → (Nat → Value) → World → Prop
 | [], i, _, r, _ => V i r
 | p :: l, i, fl, r, w => match Nat.beq i p.1 with
  | true => p.2 fl r w
  | false => phiS V l i fl r w
def QDn (F : (Nat → Bool) → (Nat → Value) → World → Prop) : Prop := ∀ fl r w1 w2, Below w1.heap.size w1 w2 → F fl r w1 → F fl r w2
theorem YZ {V : Nat → (Nat → Value) → Prop} : ∀ i fl r w1 w2, Below w1.heap.size w1 w2 → phiS V [] i fl r w1 → phiS V [] i fl r w2 := fun _ _ _ _ _ _ h => h
theorem ZU {V : Nat → (Nat → Value) → Prop} {k : Nat} {F : (Nat → Bool) → (Nat → Value) → World → Prop} {l : List (Nat × ((Nat → Bool) → (Nat → Value) → World → Prop))} (hF : QDn F) (hl : ∀ i fl r w1 w2, Below w1.heap.size w1 w2 → phiS V l i fl r w1 → phiS V l i fl r w2) :
  ∀ i fl r w1 w2, Below w1.heap.size w1 w2 → phiS V ((k, F) :: l) i fl r w1 → phiS V ((k, F) :: l) i fl r w2 := by
 intro i fl r w1 w2 hb h
 unfold phiS at h ⊢
 cases e : Nat.beq i k with
 | true => simp only [e] at h ⊢; exact hF fl r w1 w2 hb h
 | false => simp only [e] at h ⊢; exact hl i fl r w1 w2 hb h
theorem ZG {V : Nat → (Nat → Value) → Prop} {s k : Nat} {w2 : World} {C : Nat → Prop} {F : (Nat → Bool) → (Nat → Value) → World → Prop} {l : List (Nat × ((Nat → Bool) → (Nat → Value) → World → Prop))} (hF : C k → F fl (res val k (clsAt cls k)) w1 → F (fset fl s) (res val k (clsAt cls k)) w2)
  (hl : ∀ j, C j → phiS V l j fl (res val j (clsAt cls j)) w1 → phiS V l j (fset fl s) (res val j (clsAt cls j)) w2) :
  ∀ j, C j → phiS V ((k, F) :: l) j fl (res val j (clsAt cls j)) w1 → phiS V ((k, F) :: l) j (fset fl s) (res val j (clsAt cls j)) w2 := by
 intro j hc h
 unfold phiS at h ⊢
 cases e : Nat.beq j k with
 | true =>
  have e' := Nat.eq_of_beq_eq_true e;subst e'
  simp only [e] at h ⊢
  exact hF hc h
 | false => simp only [e] at h ⊢; exact hl j hc h
/-- a block made here, till it is stored into -/
theorem QAD {T k s B : Nat} {cs : Array Value} : QDn fun fl r w => ∃ g, r k = .pointer (some ⟨g, 0, none⟩) ∧ B ≤ g ∧ (fl s = false → Blk w g T cs) := fun _ _ _ _ hb ⟨g, h1, h2, h3⟩ => ⟨g, h1, h2, fun h => (h3 h).below hb (h3 h).lt⟩
theorem QAm {T k : Nat} {cs : (Nat → Value) → Array Value} : QDn fun _ r w => ∃ g, r k = .pointer (some ⟨g, 0, none⟩) ∧ Blk w g T (cs r) := fun _ _ _ _ hb ⟨g, h1, h3⟩ => ⟨g, h1, h3.below hb h3.lt⟩
theorem Y0 {T g : Nat} {cs : (Nat → Value) → Array Value} : QDn fun _ r w => Blk w g T (cs r) := fun _ _ _ _ hb h3 => h3.below hb h3.lt
theorem QHj {T e size base k : Nat} {xs : List Value} {C : Value → Prop} : QDn fun _ r w => w.ownsRow base T size (r e) k xs ∧ C (r e) := fun _ _ _ _ hb ⟨h1, h2⟩ => ⟨own_below h1 hb (Nat.le_refl _), h2⟩
/-- what is dropped once a store has come -/
theorem Y4 {s : Nat} {F : (Nat → Value) → World → Prop} (h : Mono F) : QDn fun fl r w => fl s = false → F r w := fun _ r w1 w2 hb hf e => h r w1 w2 hb (hf e)
theorem Zs {s : Nat} : fset fl s s = true := by simp [fset]
theorem Yj {s k : Nat} (h : Nat.beq k s = false) : fset fl s k = fl k := by simp [fset, h]
theorem QAL {w w1 w2 : World} {g : Nat} (h : w.grownBy w1 (some g)) (k : w1.grownBy w2 (some g)) : w.grownBy w2 (some g) :=
 ⟨k.os.trans h.os, k.tape.trans h.tape, k.output.trans h.output, Nat.le_trans h.size k.size, fun i hi hne => (k.block i (Nat.lt_of_lt_of_le hi h.size) hne).trans (h.block i hi hne)⟩
theorem QB0 {w : World} {g T s : Nat} {cs : Array Value} (hq : Blk w g T cs) : BaseOk w fun fl w1 => w.grownBy w1 (some g) ∧ (fl s = false → Blk w1 g T cs) :=
 ⟨fun _ _ => ⟨⟨rfl, rfl, rfl, Nat.le_refl _, fun _ _ _ => rfl⟩, fun _ => hq⟩, fun _ _ _ ⟨h1, h2⟩ hb => ⟨grown_below h1 hb, fun h => (h2 h).below hb (h2 h).lt⟩, fun _ _ h => h.1.size⟩
theorem QJc {w : World} {base e size k s : Nat} {v : Value} {xs : List Value} (ho : w.ownsRow base e size v k xs) : BaseOk w fun fl w1 => w.grownBy w1 v.ownBlock ∧ (fl s = false → w1.ownsRow base e size v k xs) :=
 ⟨fun _ _ => ⟨⟨rfl, rfl, rfl, Nat.le_refl _, fun _ _ _ => rfl⟩, fun _ => own_drewN ho 1⟩, fun _ _ _ ⟨h1, h2⟩ hb => ⟨grown_below h1 hb, fun h => own_below (h2 h) hb (Nat.le_refl _)⟩, fun _ _ h => h.1.size⟩
theorem QFd {w w1 w2 : World} {row : Option Nat} (h : w.grownBy w1 row) (k : w1.grownBy w2 row) : w.grownBy w2 row :=
 ⟨k.os.trans h.os, k.tape.trans h.tape, k.output.trans h.output, Nat.le_trans h.size k.size, fun i hi hne => (k.block i (Nat.lt_of_lt_of_le hi h.size) hne).trans (h.block i hi hne)⟩
theorem Zb {w w1 : World} {base e size k : Nat} {v : Value} {xs : List Value} (ho : w.ownsRow base e size v k xs) (h : w.grownBy w1 v.ownBlock) (hb : base ≤ w.heap.size) : Below base w w1 :=
 (Below.refl _ _).grown h hb fun g hg => (ho.lt g hg).1
/-- an append to one's own row, in a head -/
theorem QJs {d ty t e size bytes base B mm k : Nat} {s x : Operand} {pos : String} {af : Array Edge} (E : Elem P t e size bytes) {v src : Value} {xs news : List Value} {K : Act → World → Prop} (ha : Env n σ a) (ho : nthO L i = some ⟨some d, .call { callee := .builtin .append, args := #[s, x], argTypes := #[t, t] }, ty, pos, af, none⟩) (hs : evS σ s = some v) (hx : evS σ x = some src)
  (hown : w1.ownsRow base e size v k xs) (hr : Rd w1 B size src mm news) (h1 : ∀ u ∈ news, u.oneCell' = true) (hm : k + mm ≤ 1048576) (hby : Nat.ble bytes 1048576 = true) (hbase : base ≤ w1.heap.size)
  (next : ∀ v' w', w'.ownsRow base e size v' (k + mm) (xs ++ news) → w1.grownBy w' v.ownBlock → (v'.ownBlock = v.ownBlock ∨ v'.ownBlock = some w1.heap.size) → K (a.put (ZQ L i) v') w') : wpOp P L.toArray Q i K a w1 := by
 obtain ⟨v', w', h2, h3, h4, _, h6⟩ := QAi (P := P) (ty := ty) E hown hr h1 hm (by simpa [Nat.ble_eq] using hby) hbase
 obtain ⟨h7, h8⟩ := opL ho
 unfold wpOp
 simp only [h7]
 rw [if_pos (ZX rfl _)]
 left
 unfold Oper.wp
 rw [YE rfl (ha.eval hs) (ha.eval hx) h2];have := next v' w' h3 h4 h6;rw [h8] at this
 exact this
/-- a store, in a head -/
theorem YD {ty t T g o k : Nat} {x y : Operand} {pos : String} {af : Array Edge} {l l' : List Value} {v : Value} {K : Act → World → Prop} (ha : Env n σ a) (ho : nthO L i = some ⟨none, .store t x y, ty, pos, af, none⟩) (hx : evS σ x = some (.pointer (some ⟨g, o, none⟩))) (hy : evS σ y = some v) (hb : Blk w1 g T l.toArray) (hs : (P.info? t).map (·.size) = some k) (hv : v.cells.toList = l') (hk : lenV l' = k) (hok : Nat.ble (o + k) (lenV l) = true) (h1 : QAx l' = true)
  (next : ∀ w', Blk w' g T (spl l o l').toArray → w1.grownBy w' (some g) → K a w') : wpOp P L.toArray Q i K a w1 := by
 obtain ⟨h2, _⟩ := opL ho
 unfold wpOp
 simp only [h2]
 rw [if_pos (ZX rfl _)]
 left
 unfold Oper.wp
 have hr : (execOp a.eval ⟨none, .store t x y, ty, pos, af, none⟩).run P w1 = .ok .skip (w1.setRow g (spl l o l').toArray) := by
  simp only [execOp, ha.eval hx, ha.eval hy, Sem.run_bind, QAh hs hb hv hk hok h1, Result.andThen_ok]
  rfl
 rw [hr, Oper.upon_skip]
 exact next _ (Y2 hb) (YY _ _ _)
end
section
variable {P : Program} {n g T : Nat} {cs : Array Value} {w w' : World} {Q : Exit → Act → World → Prop} {L rest : List Oper} {σ τ : Sg} {a : Act}
theorem Blk.bl (h : Blk w g T cs) (hb : Below w.heap.size w w') : Blk w' g T cs := h.below hb h.lt
theorem Blk.na {k : Nat} (h : Blk w g T cs) (hk : w.heap.size ≤ k) : g ≠ k := Nat.ne_of_lt (Nat.lt_of_lt_of_le h.lt hk)
theorem Blk.gr {k : Nat} (h : Blk w g T cs) (hg : w.grownBy w' (some k)) (hn : g ≠ k) : Blk w' g T cs := h.grown hg fun e => hn (Option.some.inj e)
theorem bo_ {a b c : World} (h : Below a.heap.size a b) (k : Below b.heap.size b c) : Below a.heap.size a c := Below.on h k h.size
theorem EL.mv {d ty : Nat} {x : Operand} {pos : String} {af : Array Edge} {v : Value} (h : evS σ x = some v) (hd : Nat.blt d n = true) (k : EL P n L Q rest (ins σ d v) w) : EL P n L Q (⟨some d, .move x, ty, pos, af, none⟩ :: rest) σ w := EL.val (ZH h) hd k
theorem EL.as {d ty : Nat} {x : Operand} {pos : String} {af : Array Edge} {v : Value} (h : evS σ x = some v) (hd : Nat.blt d n = true) (k : EL P n L Q rest (ins σ d v) w) : EL P n L Q (⟨some d, .assign x, ty, pos, af, none⟩ :: rest) σ w := EL.val (Zh h) hd k
theorem Env.s0 {d : Nat} {v : Value} (h : Env n σ a) (hd : σ d = some v) : Env n (ins (fun _ => none) d v) a := h.sub (Sub.ins (Sub.nil _) hd)
theorem Env.s1 {d : Nat} {u v : Value} (h : Env n σ a) (hd : σ d = some u) (e : u = v) : Env n (ins (fun _ => none) d v) a := h.sub (Sub.ins (Sub.nil _) (ZI hd e))
theorem Env.s2 {d e : Nat} {u v x y : Value} (h : Env n σ a) (hd : σ d = some u) (p : u = v) (he : σ e = some x) (q : x = y) : Env n (ins (ins (fun _ => none) e y) d v) a := h.sub (Sub.ins (Sub.ins (Sub.nil _) (ZI he q)) (ZI hd p))
theorem sp_ {σ0 : Sg} {ds : List Nat} {d : Nat} {v : Value} (hd : memB ds d = true) (h : Sub (del σ0 ds) τ) : Sub (del σ0 ds) (ins τ d v) := QIQ hd h
theorem sd_ {σ0 : Sg} {ds ds2 : List Nat} (hd : QDj ds2 ds = true) (h : Sub (del σ0 ds) τ) : Sub (del σ0 ds) (del τ ds2) := QJv hd h
theorem sn_ {σ0 : Sg} (h : Sub σ0 τ) : Sub σ0 (insL τ []) := QEO h
theorem EL.mg {d ty j t : Nat} {b : Bool} {x : Operand} {pos : String} {af : Array Edge} {v : Value} (hj : ZQ L j = some t) (ht : σ t = some (.bool b)) (h : evS σ x = some v) (hd : Nat.blt d n = true) (k : EL P n L Q rest (ins σ d v) w) : EL P n L Q (⟨some d, .move x, ty, pos, af, some (j, b)⟩ :: rest) σ w := EL.valg hj ht (ZH h) hd k
theorem EL.pt {d ty : Nat} {x y z : Operand} {pos : String} {af : Array Edge} {v : Value} (hx : evS σ x = some (.bool true)) (hy : evS σ y = some v) (hd : Nat.blt d n = true) (k : EL P n L Q rest (ins σ d v) w) : EL P n L Q (⟨some d, .pick x y z, ty, pos, af, none⟩ :: rest) σ w := EL.val (Yn hx hy) hd k
theorem EL.pf {d ty : Nat} {x y z : Operand} {pos : String} {af : Array Edge} {v : Value} (hx : evS σ x = some (.bool false)) (hy : evS σ z = some v) (hd : Nat.blt d n = true) (k : EL P n L Q rest (ins σ d v) w) : EL P n L Q (⟨some d, .pick x y z, ty, pos, af, none⟩ :: rest) σ w := EL.val (YC hx hy) hd k
theorem EL.xt {d ty i : Nat} {x : Operand} {pos : String} {af : Array Edge} {vs : Array Value} {v : Value} (hx : evS σ x = some (.tuple vs)) (hi : vs[i]? = some v) (hd : Nat.blt d n = true) (k : EL P n L Q rest (ins σ d v) w) : EL P n L Q (⟨some d, .extract x i, ty, pos, af, none⟩ :: rest) σ w := EL.val (Z1 hx hi) hd k
end
theorem EC.cutD {P : Program} {n : Nat} {Q : Exit → Act → World → Prop} {σ : Sg} {w : World} {x y : Code} {ι : Type} (ds : List Nat) (vs : ι → List (Nat × Value)) (I : ι → World → Prop)
  (h : EC P n x (Exit.then (fun a' w' => ∃ i, Env n (insL (del σ ds) (vs i)) a' ∧ I i w') Q) σ w)
  (k : ∀ i w', I i w' → EC P n y Q (insL (del σ ds) (vs i)) w') : EC P n (.seq x y) Q σ w := fun a ha =>
 wp_seq (wp_mono (h a ha) fun e a' w' hq => by
  cases e with
  | normal =>
   obtain ⟨i, h1, h2⟩ := hq
   exact k i w' h2 a' h1
  | _ => exact hq)
theorem EX.cutE {n : Nat} {Q : Exit → Act → World → Prop} {σ : Sg} {w : World} {ι : Type} {σ0 : Sg} {ds : List Nat} {vs : ι → List (Nat × Value)} {I : ι → World → Prop} (i : ι) (hv : QBU σ (vs i)) (hd : Sub (del σ0 ds) σ) (hI : I i w) : EX n (Exit.then (fun a' w' => ∃ i, Env n (insL (del σ0 ds) (vs i)) a' ∧ I i w') Q) .normal σ w :=
 fun _ ha => ⟨i, ha.sub (QAJ hd hv), hI⟩
theorem QFt {σ : Sg} {t : Nat} {a b : Int} (h : a = b) (hs : σ t = some (.int .i64 a)) : σ t = some (.int .i64 b) := by rw [hs, h]
theorem QGd {l : List Value} {o : Nat} {vs : List Value} (h : o + vs.length ≤ l.length) : (spl l o vs).length = l.length := by
 rw [QAR l o vs h]
 simp
 omega
theorem QIU {l : List Value} {o N : Nat} {vs : List Value} (h : o + vs.length ≤ N) (hN : N ≤ l.length) : (spl l o vs).take N = spl (l.take N) o vs := by
 rw [QAR l o vs (by omega), QAR (l.take N) o vs (by rw [List.length_take]; omega)]
 apply List.ext_getElem?
 intro i
 simp only [List.getElem?_take, List.getElem?_append, List.getElem?_drop, List.length_append, List.length_take]
 by_cases h1 : i < N
 ·rw [if_pos h1]
  by_cases h2 : i < o
  ·rw [if_pos (by omega), if_pos (by omega), if_pos h2, if_pos (by omega), if_pos (by omega), if_pos h2, if_pos h1]
  ·by_cases h3 : i < o + vs.length
   ·rw [if_pos (by omega), if_neg (by omega), if_pos (by omega), if_neg (by omega)]
    congr 1
    omega
   ·rw [if_neg (by omega), if_neg (by omega), if_pos (by omega)]
    congr 1
    omega
 ·rw [if_neg h1, if_neg (by omega), if_neg (by omega)]
section
variable {P : Program} {n : Nat} {σ : Sg} {w : World} {Q : Exit → Act → World → Prop} {L : List Oper} {rest : List Oper}
theorem EL.newSg {d ty m c j t : Nat} {b : Bool} {op : Op} {pos : String} {af : Array Edge} {cs : Array Value} {T : TypeId} (hj : ZQ L j = some t) (ht : σ t = some (.bool b)) (h : ∀ a, Env n σ a → (execOp a.eval ⟨some d, op, ty, pos, af, some (j, b)⟩).run P w = .ok (.value (.slice (some ⟨w.heap.size, 0, none⟩) m c)) (w.alloc (.cells cs T))) (hd : Nat.blt d n = true)
  (next : ∀ g w', Blk w' g T cs → Below w.heap.size w w' → w.heap.size ≤ g → w.heap.size < w'.heap.size → EL P n L Q rest (ins σ d (.slice (some ⟨g, 0, none⟩) m c)) w') : EL P n L Q (⟨some d, op, ty, pos, af, some (j, b)⟩ :: rest) σ w :=
 fun a ha => QAQ (by simp [Region.wanted, Ym ha hj ht]) (h a ha) (next _ _ (Blk.new w T cs) ((Below.refl _ _).alloc (Nat.le_refl _) _) (Nat.le_refl _) (by simp) _ (ha.put hd _))
theorem EL.storeRow {ty t g o k base e size m cap : Nat} {x y : Operand} {pos : String} {af : Array Edge} {l' xs : List Value} {v : Value} (hx : evS σ x = some (.pointer (some ⟨g, o, none⟩))) (hy : evS σ y = some v) (hown : w.ownsRow base e size (.slice (some ⟨g, 0, none⟩) m cap) m xs) (hs : (P.info? t).map (·.size) = some k) (hv : v.cells.toList = l') (hk : lenV l' = k) (ho : o + k ≤ xs.length) (h1 : QAx l' = true)
  (next : ∀ w', w'.ownsRow base e size (.slice (some ⟨g, 0, none⟩) m cap) m (spl xs o l') → w.grownBy w' (some g) → EL P n L Q rest σ w') : EL P n L Q (⟨none, .store t x y, ty, pos, af, none⟩ :: rest) σ w := by
 obtain ⟨hl, ⟨h, _⟩ | ⟨g', cap', cur, h, hb, hg, hc1, hc2, hc3, hc4⟩⟩ := hown
 ·cases h
 ·injection h with h _ h2
  injection h with h
  injection h with h _
  subst h;subst h2;have hlk : l'.length = k := by rw [← Ya]; exact hk
  have hle : m * size ≤ cur.toList.length := by rw [Array.length_toList, hc3]; exact Nat.mul_le_mul_right _ hc1
  have hq : Blk w g e cur.toList.toArray := hg;refine EL.store hx hy hq hs hv hk (by simp only [Nat.ble_eq, Ya]; omega) h1 fun w' hq' hgr => next w' ?_ hgr
  have hx2 : spl xs o l' = (spl cur.toList o l').take (m * size) := by rw [QIU (by omega) hle, hc4]
  refine ⟨by rw [QGd (by omega)]; exact hl, .inr ⟨g, cap, _, rfl, hb, hq', hc1, hc2, ?_, ?_⟩⟩
  ·rw [List.size_toArray, QGd (by omega), Array.length_toList]; exact hc3
  ·rw [hx2]
end
section
variable {P : Program} {n : Nat} {L : List Oper} {Q : Exit → Act → World → Prop} {cls : List (List Nat)} {m : Nat} {alc : List Nat} {w w1 : World} {i : Nat} {val : Nat → Value} {a : Act} {σ : Sg} {fl : Nat → Bool}
end
section
variable {w w' : World} {base base' e size n g T : Nat} {v u : Value} {xs : List Value} {cs : Array Value}
theorem ZF (h : w.ownsRow base e size v n xs) (hq : Blk w g T cs) (hT : Nat.beq T e = false) (hg : w.grownBy w' (some g)) : w'.ownsRow base e size v n xs :=
 h.kept hg (by
  obtain ⟨_, ⟨rfl, _⟩ | ⟨k, cap, cur, rfl, _, hk, _⟩⟩ := h
  ·exact .inl rfl
  ·refine .inr fun h' => ?_
   have h1 : k = g := by simpa [Value.ownBlock] using h'
   subst h1
   unfold Blk at hq
   have h2 : some (Obj.cells cs T (0, 0)) = some (Obj.cells cur e (0, 0)) := hq.symm.trans hk
   injection h2 with h2
   injection h2 with _ h3
   exact Nat.ne_of_beq_eq_false hT h3)
end
theorem QJ0 {w : World} {base e size n m c g : Nat} {xs : List Value} (h : w.ownsRow base e size (.slice (some ⟨g, 0, none⟩) n c) m xs) : ∃ cs, Blk w g e cs := by
 obtain ⟨_, ⟨h0, _⟩ | ⟨g', cap, cur, h1, _, hg, _⟩⟩ := h
 ·cases h0
 ·injection h1 with h1
  injection h1 with h1
  injection h1 with h1 _
  subst h1
  exact ⟨cur, hg⟩
theorem QCe {w : World} {base e size n m c g k T : Nat} {xs : List Value} {cs : Array Value} (h : w.ownsRow base e size (.slice (some ⟨g, 0, none⟩) n c) m xs) (hq : Blk w k T cs) (hT : Nat.beq T e = false) : k ≠ g := fun e1 => by
 subst e1;obtain ⟨ds, h1⟩ := QJ0 h
 unfold Blk at hq h1
 rw [hq] at h1
 injection h1 with h1
 injection h1 with _ h3
 exact Nat.ne_of_beq_eq_false hT h3
theorem QHg {w : World} {base e size m c : Nat} {A : Option Addr} {xs : List Value} (h : w.ownsRow base e size (.slice A m c) m xs) (hm : 0 < m) : ∃ g, A = some ⟨g, 0, none⟩ := by
 obtain ⟨_, ⟨_, h0⟩ | ⟨g, _, _, h1, _⟩⟩ := h
 ·omega
 ·injection h1 with h1; exact ⟨g, h1⟩
theorem Yh {w w' : World} {base e e' size size' n n' base' : Nat} {v u : Value} {xs ys : List Value} (h : w.ownsRow base e size v n xs) (hu : w.ownsRow base' e' size' u n' ys) (hT : Nat.beq e' e = false) (hg : w.grownBy w' u.ownBlock) : w'.ownsRow base e size v n xs := by
 refine own_apart h hg fun g h1 h2 => ?_
 obtain ⟨_, ⟨rfl, _⟩ | ⟨k, cap, cur, rfl, _, hk, _⟩⟩ := hu
 ·cases h1
 ·obtain ⟨_, ⟨rfl, _⟩ | ⟨k2, cap2, cur2, rfl, _, hk2, _⟩⟩ := h
  ·cases h2
  ·have e1 : k = g := by simpa [Value.ownBlock] using h1
   have e2 : k2 = g := by simpa [Value.ownBlock] using h2
   subst e1;subst e2;rw [hk] at hk2
   injection hk2 with hk2
   injection hk2 with _ h3
   exact Nat.ne_of_beq_eq_false hT h3
theorem YM {w w' : World} {g T e' size' n' base' : Nat} {u : Value} {ys : List Value} {cs : Array Value} (h : Blk w g T cs) (hu : w.ownsRow base' e' size' u n' ys) (hT : Nat.beq e' T = false) (hg : w.grownBy w' u.ownBlock) : Blk w' g T cs := h.grown hg fun e => by
 obtain ⟨_, ⟨rfl, _⟩ | ⟨k, cap, cur, rfl, _, hk, _⟩⟩ := hu
 ·cases e
 ·have e1 : g = k := by simpa [Value.ownBlock] using e
  subst e1
  unfold Blk at h
  rw [hk] at h
  injection h with h
  injection h with _ h3
  exact Nat.ne_of_beq_eq_false hT h3
theorem QD1 {w : World} {g T base : Nat} (size : Nat) (h : Blk w g T #[]) (hb : base ≤ g) : w.ownsRow base T size (.slice (some ⟨g, 0, none⟩) 0 0) 0 [] :=
 ⟨by simp, .inr ⟨g, 0, #[], rfl, hb, h, Nat.le_refl _, Nat.zero_le _, by simp, by simp⟩⟩
section
variable {P : Program} {w : World}
theorem QIi {t e : TypeId} {size bytes base B m ty g : Nat} (E : Elem P t e size bytes) {src : Value} {news : List Value} (hq : Blk w g e #[]) (hg : base ≤ g) (hr : Rd w B size src m news) (h1 : ∀ u ∈ news, u.oneCell' = true) (hm : m ≤ 1048576) (hby : bytes ≤ 1048576) (hbase : base ≤ w.heap.size) :
  ∃ v' w', (Builtin.append_ #[t, t] ty #[.slice (some ⟨g, 0, none⟩) 0 0, src]).run P w = .ok v' w' ∧ w'.ownsRow base e size v' m news ∧ Below w.heap.size w w' := by
 have hown := QD1 (base := base) size hq hg;obtain ⟨v', w', h2, h3, h4, h5, _⟩ := QAi (ty := ty) E hown hr h1 (by omega) hby hbase
 rw [Nat.zero_add, List.nil_append] at h3;refine ⟨v', w', h2, h3, ?_⟩;have key : w'.heap[g]? = w.heap[g]? := by
  obtain ⟨i, z, hi, hz, hsize, hb, hzs⟩ := E.hi;obtain ⟨hl, A, c, rfl, hnc, hr⟩ := hr
  rcases Nat.eq_zero_or_pos m with hm0 | hm0
  ·subst hm0
   have hn : news = [] := List.eq_nil_of_length_eq_zero (by simpa using hl)
   subst hn
   rcases A with _ | ad
   ·have h6 := run_append_of_nil (P := P) w base t ty e i size E.ht hi _ 0 [] hown c
    rw [h2] at h6
    injection h6 with _ h6
    rw [h6]
   ·have h6 := run_append_room (P := P) w t ty e i E.ht hi g 0 0 #[] hq ad 0 c [] (by simp) (by simp) (by simp) (by simp) (by simp)
    rw [h2] at h6
    injection h6 with _ h6
    have h7 := Y2 (ds := (List.take (0 * i.size) (#[] : Array Value).toList ++ [] ++ List.drop (0 * i.size + ([] : List Value).length) (#[] : Array Value).toList).toArray) hq;rw [← h6] at h7
    unfold Blk at h7 hq
    rw [h7, hq]
    simp
  ·obtain ⟨b, off, rfl, _, hc⟩ := hr hm0
   have hmul : m * i.bytes ≤ 1048576 * i.bytes := Nat.mul_le_mul_right _ hm;have h6 := run_append_grow (P := P) w t ty e i z E.ht hi hz ⟨g, 0, none⟩ 0 0 [] (by simp) (by simp) ⟨b, off, none⟩ m c news (by rw [hsize]; exact hl) (fun j u hu => by rw [Addr.add_lit]; exact hc j u hu) (by omega) (by omega) (by rw [Nat.zero_add, nextslicecap_zero hm0]; omega)
   rw [h2] at h6
   injection h6 with _ h6
   rw [h6];have hlt := hq.lt
   simp only [World.alloc, World.drew]
   rw [Array.getElem?_push_lt hlt, Array.getElem?_eq_getElem hlt]
 exact ⟨h4.os, h4.tape, h4.output, h4.size, fun k hk => by
  by_cases e : k = g
  ·subst e; exact key
  ·exact h4.block k hk (fun h => e (by simpa [Value.ownBlock] using h))⟩
end
section
variable {P : Program} {n : Nat} {σ : Sg} {L : List Oper} {cls : List (List Nat)} {alc : List Nat} {val : Nat → Value} {a : Act} {w1 : World} {i : Nat} {Q : Exit → Act → World → Prop}
end
/-- a world of which some blocks are turned -/
structure Touch (w w1 : World) (gs : List Nat) : Prop where
 os : w1.os = w.os
 tape : w1.tape = w.tape
 output : w1.output = w.output
 size : w.heap.size ≤ w1.heap.size
 block : ∀ k, k < w.heap.size → k ∉ gs → w1.heap[k]? = w.heap[k]?
section
variable {w w1 w2 : World} {gs : List Nat} {g T : Nat} {cs : Array Value}
theorem Touch.start (w : World) (gs : List Nat) : Touch w { w with drawn := w.drawn + 1 } gs := ⟨rfl, rfl, rfl, Nat.le_refl _, fun _ _ _ => rfl⟩
theorem Touch.below (h : Touch w w1 gs) (hb : Below w1.heap.size w1 w2) : Touch w w2 gs :=
 ⟨hb.os.trans h.os, hb.tape.trans h.tape, hb.output.trans h.output, Nat.le_trans h.size hb.size, fun k hk hn => (hb.block k (Nat.lt_of_lt_of_le hk h.size)).trans (h.block k hk hn)⟩
theorem Touch.grown (h : Touch w w1 gs) (hg : w1.grownBy w2 (some g)) (hm : g ∈ gs) : Touch w w2 gs :=
 ⟨hg.os.trans h.os, hg.tape.trans h.tape, hg.output.trans h.output, Nat.le_trans h.size hg.size, fun k hk hn => (hg.block k (Nat.lt_of_lt_of_le hk h.size) (fun e => hn (by injection e with e; rw [e]; exact hm))).trans (h.block k hk hn)⟩
theorem Touch.anchor (h : Touch w w1 gs) {w0 : World} (ha : Below w0.heap.size w0 w) (hle : ∀ g ∈ gs, w0.heap.size ≤ g) : Below w0.heap.size w0 w1 :=
 ⟨h.os.trans ha.os, h.tape.trans ha.tape, h.output.trans ha.output, Nat.le_trans ha.size h.size, fun k hk => (h.block k (Nat.lt_of_lt_of_le hk ha.size) (fun hm => by have := hle k hm; omega)).trans (ha.block k hk)⟩
theorem Blk.touch (hq : Blk w g T cs) (h : Touch w w1 gs) (hn : g ∉ gs) : Blk w1 g T cs := (h.block g hq.lt hn).trans hq
end
/-- a row that has come into a new element; the append's own world -/
theorem Rows.push0 {W w' : World} {base e osize n tb size : Nat} {vf v' l : Value} {outer outer' : List Value} {fs : List Value} {F : List (Nat × List Value)} (h : Rows W base e osize vf n outer tb size fs F) {m : Nat} {cells : List Value} (hl : W.ownsRow base tb size l m cells) (ha : Apart vf l)
  (hown : w'.ownsRow base e osize v' (n + 1) outer') (hg : W.grownBy w' vf.ownBlock) (hat : v'.ownBlock = vf.ownBlock ∨ v'.ownBlock = some W.heap.size) :
  Rows w' base e osize v' (n + 1) outer' tb size (fs ++ [l]) (F ++ [(m, cells)]) := by
 have key : ∀ {u : Value} {k : Nat} {ys : List Value}, W.ownsRow base tb size u k ys → Apart vf u → Apart v' u := fun hu hvu g h1 h2 => by
  rcases hat with h3 | h3
  ·exact hvu g (h3 ▸ h1) h2
  ·rw [h3] at h1; injection h1 with h1; have := (hu.lt g h2).2; omega
 refine ⟨hown, by simp [h.len], fun i hi => ?_, fun i hi => ?_⟩
 ·rw [getD_snoc, getD_snoc, h.len]
  by_cases h1 : i < F.length
  ·rw [if_pos h1, if_pos h1]
   exact own_apart (h.each i h1) hg (h.apart i h1)
  ·have h2 : i = F.length := by simp at hi; omega
   rw [if_neg h1, if_neg h1, if_pos h2, if_pos h2]
   exact own_apart hl hg ha
 ·rw [getD_snoc, h.len]
  by_cases h1 : i < F.length
  ·rw [if_pos h1]
   exact key (h.each i h1) (h.apart i h1)
  ·have h2 : i = F.length := by simp at hi; omega
   rw [if_neg h1, if_pos h2]
   exact key hl ha
/-- a new row is apart from what was there -/
theorem QFq {w : World} {base e size n : Nat} {vf l : Value} {xs : List Value} (h : w.ownsRow base e size vf n xs) (hl : ∀ g, l.ownBlock = some g → w.heap.size ≤ g) : Apart vf l := fun g h1 h2 => by
 have := (h.lt g h1).2;have := hl g h2
 omega
def QFD (l : List Reach) : List (Nat × List Value) := l.map fun x => (x.curve.length, rowsC x.curve)
theorem QDz (l : List Reach) : (QFD l).length = l.length := by simp [QFD]
theorem QIj (l : List Reach) (i : Nat) (hi : i < l.length) : (QFD l).getD i (0, []) = ((l.getD i reach0).curve.length, rowsC (l.getD i reach0).curve) := by
 simp [QFD, hi]
theorem Rows.reaches {w : World} {base e tb : Nat} {vf : Value} {fs : List Value} {l : List Reach} (h : Rows w base e 9 vf l.length ((l.zip fs).flatMap reachC) tb 2 fs (QFD l)) : RdReaches w w.heap.size vf l fs :=
 ⟨by rw [h.len, QDz], Rd.of_own h.own, fun i hi => by
  have := Rd.of_own (h.each i (by rw [QDz]; exact hi))
  rw [QIj l i hi] at this
  exact this⟩
theorem Rows.keepB {w w' : World} {base e osize n tb size C : Nat} {vf : Value} {outer : List Value} {fs : List Value} {F : List (Nat × List Value)} (h : Rows w base e osize vf n outer tb size fs F) (hb : Below C w w') (h1 : ∀ g, vf.ownBlock = some g → g < C) (h2 : ∀ j, j < F.length → ∀ g, (fs.getD j undef).ownBlock = some g → g < C) : Rows w' base e osize vf n outer tb size fs F := by
 have key : ∀ {u : Value} {b t s k : Nat} {ys : List Value}, w.ownsRow b t s u k ys → (∀ g, u.ownBlock = some g → g < C) → w'.ownsRow b t s u k ys := fun hu hlt => by
  obtain ⟨hl, ⟨rfl, rfl⟩ | ⟨g, cap, cur, rfl, hbg, hg, r⟩⟩ := hu
  ·exact ⟨hl, .inl ⟨rfl, rfl⟩⟩
  ·exact ⟨hl, .inr ⟨g, cap, cur, rfl, hbg, by rw [hb.block g (hlt g rfl)]; exact hg, r⟩⟩
 exact ⟨key h.own h1, h.len, fun i hi => key (h.each i hi) (h2 i hi), h.apart⟩
section
variable {w w' : World} {base base' e size n g T : Nat} {v u : Value} {xs : List Value} {cs : Array Value}
theorem Rows.type {osize tb : Nat} {outer : List Value} {fs : List Value} {F : List (Nat × List Value)} (h : Rows w base e osize v n outer tb size fs F) (hq : Blk w g T cs) (hT : Nat.beq T e = false) (hT2 : Nat.beq T tb = false) (hg : w.grownBy w' (some g)) : Rows w' base e osize v n outer tb size fs F :=
 ⟨ZF h.own hq hT hg, h.len, fun i hi => ZF (h.each i hi) hq hT2 hg, h.apart⟩
theorem Rows.less {osize tb : Nat} {outer : List Value} {fs : List Value} {F : List (Nat × List Value)} (h : Rows w base e osize v n outer tb size fs F) (hb : base' ≤ base) : Rows w base' e osize v n outer tb size fs F :=
 ⟨own_less h.own hb, h.len, fun i hi => own_less (h.each i hi) hb, h.apart⟩
end
section
variable {w w' : World} {base base' : Nat} {v u s : Value} {r : River} {vs ss : List Value} {l : List (List Bd)}
end
theorem QD7 {w : World} {B g : Nat} {r : River} {sides : List (List Bd)} {v u vf : Value} {vs fs : List Value} (h : StreamOk w B g r sides v u vf vs fs) :
  Calls Try.prog 73 #[.pointer (some ⟨g, 0, none⟩)] w fun e w' => e = .returned (.int .i64 (sides.getD 0 []).length) ∧ Below w.heap.size w w' :=
 (hours_any h).mono fun e w' h => ⟨h.1, by rw [← h.2]; exact Below.refl _ _⟩
section
variable {n : Nat} {σ : Sg} {w : World} {dst : Option Tmp} {ty : TypeId} {pos : String} {af : Array Edge} {g : Option (Nat × Bool)} {x y z : Operand} {at' : Array TypeId}
theorem QLO {v0 v1 v2 v3 v4 v5 v6 v7 v8 v9 v10 : Value} (hx : evS σ x = some (.agg #[v0, v1, v2, v3, v4, v5, v6, v7, v8, v9, v10])) (a : Act) (ha : Env n σ a) : (execOp a.eval ⟨dst, .box 138 x, ty, pos, af, g⟩).run Try.prog w = .ok (.value (.pointer (some ⟨w.heap.size, 0, none⟩))) (w.alloc (.cells #[v0, v1, v2, v3, v4, v5, v6, v7, v8, v9, v10] 138)) := by
 simp only [execOp, ha.eval hx]
 simp [go_sem]
theorem QAO (a : Act) (_ : Env n σ a) : (execOp a.eval ⟨dst, .alloc 25, ty, pos, af, g⟩).run Try.prog w = .ok (.value (.pointer (some ⟨w.heap.size, 0, none⟩))) (w.alloc (.cells #[.int .i64 0, .int .i64 0] 25)) := by
 simp only [execOp]
 simp [go_sem]
theorem QJR {b o : Nat} (hx : evS σ x = some (.pointer (some ⟨b, o, none⟩))) : ZE Try.prog n σ w ⟨dst, .fieldAddr 138 x 1, ty, pos, af, g⟩ (.pointer (some ⟨b, o + 9, none⟩)) := fun a ha => by
 simp only [execOp, ha.eval hx]
 simp [go_sem]
theorem ld_3 {b o : Nat} {v0 : Value} (hx : evS σ x = some (.pointer (some ⟨b, o, none⟩))) (c0 : w.cell? ⟨b, o, none⟩ = some v0) : ZE Try.prog n σ w ⟨dst, .load 3 x, ty, pos, af, g⟩ (v0) := fun a ha => by
 simp only [execOp, ha.eval hx]
 simp [go_sem, c0]
def cF (F : FuncId) : Prop := ∀ vs w, (callFunc F vs).run Try.prog w = .ok (.enter F vs) w
theorem cA3 {F : FuncId} (hF : cF F) {x0 x1 x2 : Operand} {v0 v1 v2 : Value} (h0 : evS σ x0 = some v0) (h1 : evS σ x1 = some v1) (h2 : evS σ x2 = some v2) (a : Act) (ha : Env n σ a) : (execOp a.eval ⟨dst, .call { callee := .value (.func F), args := #[x0, x1, x2], argTypes := at' }, ty, pos, af, g⟩).run Try.prog w = .ok (.enter F #[v0, v1, v2]) w := by
 simp only [execOp, resolve, List.map_toArray, List.map_cons, List.map_nil, ha.eval h0, ha.eval h1, ha.eval h2]
 simp [go_sem, Act.eval, hF _ _]
theorem cF74 : cF 74 := fun _ _ => by simp [go_sem]
theorem QEe {b o : Nat} {v0 v1 v2 v3 v4 v5 v6 v7 v8 v9 v10 : Value} (hx : evS σ x = some (.pointer (some ⟨b, o, none⟩))) (c0 : w.cell? ⟨b, o, none⟩ = some v0) (c1 : w.cell? ⟨b, o + 1, none⟩ = some v1) (c2 : w.cell? ⟨b, o + 2, none⟩ = some v2) (c3 : w.cell? ⟨b, o + 3, none⟩ = some v3) (c4 : w.cell? ⟨b, o + 4, none⟩ = some v4) (c5 : w.cell? ⟨b, o + 5, none⟩ = some v5) (c6 : w.cell? ⟨b, o + 6, none⟩ = some v6) (c7 : w.cell? ⟨b, o + 7, none⟩ = some v7) (c8 : w.cell? ⟨b, o + 8, none⟩ = some v8) (c9 : w.cell? ⟨b, o + 9, none⟩ = some v9) (c10 : w.cell? ⟨b, o + 10, none⟩ = some v10) : ZE Try.prog n σ w ⟨dst, .load 138 x, ty, pos, af, g⟩ (.agg #[v0, v1, v2, v3, v4, v5, v6, v7, v8, v9, v10]) := fun a ha => by
 simp only [execOp, ha.eval hx]
 simp [go_sem, c0, c1, c2, c3, c4, c5, c6, c7, c8, c9, c10]
theorem cA2 {F : FuncId} (hF : cF F) {x0 x1 : Operand} {v0 v1 : Value} (h0 : evS σ x0 = some v0) (h1 : evS σ x1 = some v1) (a : Act) (ha : Env n σ a) : (execOp a.eval ⟨dst, .call { callee := .value (.func F), args := #[x0, x1], argTypes := at' }, ty, pos, af, g⟩).run Try.prog w = .ok (.enter F #[v0, v1]) w := by
 simp only [execOp, resolve, List.map_toArray, List.map_cons, List.map_nil, ha.eval h0, ha.eval h1]
 simp [go_sem, Act.eval, hF _ _]
theorem cF75 : cF 75 := fun _ _ => by simp [go_sem]
theorem Z7 : (Try.prog.info? 25).map (·.size) = some 2 := by kernel_rfl
theorem ZS {b o : Nat} (hx : evS σ x = some (.pointer (some ⟨b, o, none⟩))) : ZE Try.prog n σ w ⟨dst, .fieldAddr 25 x 0, ty, pos, af, g⟩ (.pointer (some ⟨b, o, none⟩)) := fun a ha => by
 simp only [execOp, ha.eval hx]
 simp [go_sem]
theorem ZR {b o : Nat} (hx : evS σ x = some (.pointer (some ⟨b, o, none⟩))) : ZE Try.prog n σ w ⟨dst, .fieldAddr 25 x 1, ty, pos, af, g⟩ (.pointer (some ⟨b, o + 1, none⟩)) := fun a ha => by
 simp only [execOp, ha.eval hx]
 simp [go_sem]
theorem QAn {p q r : Int} (hx : evS σ x = some (.int .i64 p)) (hy : evS σ y = some (.int .i64 q)) (hr : max p q = r) : ZE Try.prog n σ w ⟨dst, .call { callee := .builtin .max, args := #[x, y], argTypes := at' }, ty, pos, af, g⟩ (.int .i64 r) := fun a ha => by
 simp only [execOp, resolve, List.map_toArray, List.map_cons, List.map_nil, ha.eval hx, ha.eval hy]
 subst hr
 simp [go_sem, Int.max_def]
 split <;> split <;> omega
theorem Zu {x0 x1 : Operand} {z0 : Int} {z1 : Int} (h0 : evS σ x0 = some (.int .i64 z0)) (h1 : evS σ x1 = some (.int .i64 z1)) : ZE Try.prog n σ w ⟨dst, .build 25 #[(0, x0), (1, x1)], ty, pos, af, g⟩ (.agg #[.int .i64 z0, .int .i64 z1]) := fun a ha => by
 simp only [execOp, List.map_toArray, List.map_cons, List.map_nil, ha.eval h0, ha.eval h1]
 go_simp
theorem QAK {b o : Nat} {v0 v1 : Value} (c0 : w.cell? ⟨b, o, none⟩ = some v0) (c1 : w.cell? ⟨b, o + 1, none⟩ = some v1) : (loadVar 25 ⟨b, o, none⟩).run Try.prog w = .ok (.agg #[v0, v1]) w := by
 simp [go_sem, loadVar, c0, c1]
end
theorem QCs {N : Int} {t : Int} : ∀ {l : List Shoal} {b : Bd}, (∀ j, j < l.length → shoalB N (l.getD j shoal0) = true) → -400 ≤ t → t ≤ 400 → (-20000 ≤ b.lo ∧ b.lo ≤ 30000) → (-20000 ≤ b.hi ∧ b.hi ≤ 30000) →
  (-20000 ≤ (topOf t b l).lo ∧ (topOf t b l).lo ≤ 30000) ∧ -20000 ≤ (topOf t b l).hi ∧ (topOf t b l).hi ≤ 30000
 | [], b, _, _, _, h1, h2 => ⟨h1, h2⟩
 | s :: l, b, hs, ht, ht', h1, h2 => by
  have h3 := bedOf_bd (hs 0 (by simp)) ht ht'
  rw [show (s :: l).getD 0 shoal0 = s from rfl] at h3
  exact QCs (l := l) (b := b.top (bedOf s t)) (fun j hj => by have := hs (j + 1) (by simp; omega); simpa using this) ht ht' (by simp only [Bd.top]; omega) (by simp only [Bd.top]; omega)
theorem QH6 {w : World} {B g : Nat} {r : River} {sides : List (List Bd)} {v u vf : Value} {vs fs : List Value} (h : StreamOk w B g r sides v u vf vs fs) (hB : B ≤ w.heap.size) (i t : Nat) (hi : i < r.reaches.length) (ht : t < (sides.getD 0 []).length)
  (A1 : Option Addr) (n1 c1 : Nat) (A : Option Addr) (c : Nat) (l : List Shoal) (hl : Rd w B 6 (.slice A l.length c) l.length (shoalsC l)) (hs : ∀ j, j < l.length → shoalB (placesOf r.reaches) (l.getD j shoal0) = true) (hll : l.length ≤ 40) :
  Calls Try.prog 50 #[.pointer (some ⟨g, 0, none⟩), .agg (placeV (r.reaches.getD i reach0) (.slice A1 n1 c1) (i : Nat) (.slice A l.length c)), .int .i64 t] w fun e w' =>
   e = .returned (.agg #[.int .i64 (max 0 ((levelAt (r.reaches.getD i reach0) (flowIn r.reaches sides i t)).lo - (topOf t (r.reaches.getD i reach0).bottom l).hi)), .int .i64 (max 0 ((levelAt (r.reaches.getD i reach0) (flowIn r.reaches sides i t)).hi - (topOf t (r.reaches.getD i reach0).bottom l).lo))]) ∧ Below w.heap.size w w' := by
 have hreach := h.ok.river.reach i hi;have hh := h.ok.hours;have hlb := levelAt_bd hreach (flowIn r.reaches sides i t);have htb := QCs (t := (t : Int)) (l := l) (N := placesOf r.reaches) (b := (r.reaches.getD i reach0).bottom) hs (by omega) (by omega) (by have := hreach.bottom; omega) (by have := hreach.bottom; omega)
 have hlev := fun W (hb : Below w.heap.size w W) => slevel_any (h.below (hb.mono hB)) (Nat.le_trans hB hb.size) i t hi (by omega)
 have hbed := fun W (hb : Below w.heap.size w W) => bed_any (r.reaches.getD i reach0) (.slice A1 n1 c1) (i : Nat) A c B l (t : Int) (placesOf r.reaches) W (hl.below (hb.mono hB)) (Nat.le_trans hB hb.size) ⟨_, _, _, rfl⟩ hs (by omega) (by omega) (by have := hreach.bottom; omega)
 obtain ⟨x, ex⟩ : ∃ x, x = r.reaches.getD i reach0 := ⟨_, rfl⟩;rw [← ex] at hbed htb hlev hlb ⊢;obtain ⟨⟨ll, lh⟩, e1⟩ : ∃ y, y = levelAt x (flowIn r.reaches sides i t) := ⟨_, rfl⟩;rw [← e1] at hlev hlb ⊢;obtain ⟨⟨bl, bh⟩, e2⟩ : ∃ y, y = topOf t x.bottom l := ⟨_, rfl⟩;rw [← e2] at hbed htb ⊢
 simp only at hlb htb ⊢
 have hw1 : IntKind.i64.wrap (ll - bh) = ll - bh := IntWalk.i64_in _ ⟨by omega, by omega⟩
 have hw2 : IntKind.i64.wrap (lh - bl) = lh - bl := IntWalk.i64_in _ ⟨by omega, by omega⟩
 have hbw := Below.refl w.heap.size w;refine EC.enter 30 Try.func50 rfl rfl rfl ?_
 -- body
 refine EC.seq (EC.region (EL.newP (QLO rfl) rfl ?_));intro g1 w1 q1 hb1 hg1 hl1;have bhbw_1 := Nat.le_trans hbw.size hg1;replace hbw := bo_ hbw hb1;clear hb1 hg1 hl1;refine EL.newP QAO rfl ?_;intro g2 w2 q2 hb2 hg2 hl2;have n1_2 := q1.na hg2;have bhbw_2 := Nat.le_trans hbw.size hg2;replace q1 := q1.bl hb2;replace hbw := bo_ hbw hb2;clear hb2 hg2 hl2;refine EL.nil (EX.seq (EC.seq ?_));have lt_1 := q1.lt;have lt_2 := q2.lt;refine EC.regionP [[], [], [1], [], [0, 1, 2, 3], [], [], [0, 1, 2, 3, 4, 5, 6], [], [], [0, 1, 2, 3, 4, 5, 6, 7, 8, 9], [0, 1, 2, 3, 4, 5, 6, 7, 8, 9, 10]] 10 [8, 9] (phi (fun i_ r => match i_ with | 0 => r 0 = .pointer (some ⟨g, 0, none⟩) | 1 => r 1 = .pointer (some ⟨g1, 9, none⟩) | 2 => r 2 = .int .i64 (i : Nat) | 3 => r 3 = .int .i64 (t : Nat) | 4 => r 4 = .agg #[.int .i64 ll, .int .i64 lh] | 5 => r 5 = .agg (placeV x (.slice A1 n1 c1) (i : Nat) (.slice A l.length c)) | 6 => r 6 = .int .i64 (t : Nat) | 7 => r 7 = .agg #[.int .i64 bl, .int .i64 bh] | _ => True) [(8, fun r w_ => ∃ g_, r 8 = .pointer (some ⟨g_, 0, none⟩) ∧ Blk w_ g_ 25 #[.int .i64 0, .int .i64 0]), (9, fun r w_ => ∃ g_, r 9 = .pointer (some ⟨g_, 0, none⟩) ∧ Blk w_ g_ 25 #[.int .i64 0, .int .i64 0])]) (by kernel_rfl) rfl rfl (ZT QDA (ZT QDA (ZY))) (fun i_ hi_ => ?_) ?_
 ·match i_, hi_ with
  | 0, _ =>
   intro val w1 a hb ha hd;have ha := ha.s0 (d := 0) rfl
   exact ZB ha rfl rfl (ZH rfl) rfl rfl
  | 1, _ =>
   intro val w1 a hb ha hd;have ha := ha.s0 (d := 4) rfl
   exact ZB ha rfl rfl (QJR rfl) rfl rfl
  | 2, _ =>
   intro val w1 a hb ha hd;have e1 : val 1 = _ := hd 1 (ZA.1 rfl);have ha := ha.s1 (d := 10) rfl e1
   exact ZB ha rfl rfl (ld_3 rfl ((q1.below hb q1.lt).at (j := 9) rfl)) rfl rfl
  | 3, _ =>
   intro val w1 a hb ha hd;have ha := ha.s0 (d := 2) rfl
   exact ZB ha rfl rfl (ZH rfl) rfl rfl
  | 4, _ =>
   intro val w1 a hb ha hd;have e0 : val 0 = _ := hd 0 (ZA.1 rfl);have e2 : val 2 = _ := hd 2 (ZA.1 rfl);have e3 : val 3 = _ := hd 3 (ZA.1 rfl);have ha := ha.sub (Sub.ins (d := 12) (Sub.ins (d := 11) (Sub.ins (d := 9) (Sub.nil _) (ZI rfl e0)) (ZI rfl e2)) (ZI rfl e3));refine Zf ha rfl rfl (cA3 cF74 rfl rfl rfl) (hlev _ (Below.on hbw hb hbw.size)) rfl ?_
   rintro e w' ⟨rfl, hb'⟩
   exact ⟨_, rfl, hb', rfl⟩
  | 5, _ =>
   intro val w1 a hb ha hd;have ha := ha.s0 (d := 4) rfl
   exact ZB ha rfl rfl (QEe rfl ((q1.below hb q1.lt).at (j := 0) rfl) ((q1.below hb q1.lt).at (j := 1) rfl) ((q1.below hb q1.lt).at (j := 2) rfl) ((q1.below hb q1.lt).at (j := 3) rfl) ((q1.below hb q1.lt).at (j := 4) rfl) ((q1.below hb q1.lt).at (j := 5) rfl) ((q1.below hb q1.lt).at (j := 6) rfl) ((q1.below hb q1.lt).at (j := 7) rfl) ((q1.below hb q1.lt).at (j := 8) rfl) ((q1.below hb q1.lt).at (j := 9) rfl) ((q1.below hb q1.lt).at (j := 10) rfl)) rfl rfl
  | 6, _ =>
   intro val w1 a hb ha hd;have ha := ha.s0 (d := 2) rfl
   exact ZB ha rfl rfl (ZH rfl) rfl rfl
  | 7, _ =>
   intro val w1 a hb ha hd;have e5 : val 5 = _ := hd 5 (ZA.1 rfl);have e6 : val 6 = _ := hd 6 (ZA.1 rfl);have ha := ha.s2 (d := 15) (e := 14) rfl e6 rfl e5;refine Zf ha rfl rfl (cA2 cF75 rfl rfl) (hbed _ (Below.on hbw hb hbw.size)) rfl ?_
   rintro e w' ⟨rfl, hb'⟩
   exact ⟨_, rfl, hb', rfl⟩
  | 8, _ =>
   intro val w1 a hb ha hd;have ha := ha.sub (Sub.nil _)
   exact QG7 ha rfl rfl QAO (fun g w' hq _ _ => ⟨g, rfl, hq⟩)
  | 9, _ =>
   intro val w1 a hb ha hd;have ha := ha.sub (Sub.nil _)
   exact QG7 ha rfl rfl QAO (fun g w' hq _ _ => ⟨g, rfl, hq⟩)
  | k + 10, h => exact absurd h (by omega)
 ·intro val w' hb halc hd
  have e0 : val 0 = _ := hd 0 (by omega)
  have e1 : val 1 = _ := hd 1 (by omega)
  have e2 : val 2 = _ := hd 2 (by omega)
  have e3 : val 3 = _ := hd 3 (by omega)
  have e4 : val 4 = _ := hd 4 (by omega)
  have e5 : val 5 = _ := hd 5 (by omega)
  have e6 : val 6 = _ := hd 6 (by omega)
  have e7 : val 7 = _ := hd 7 (by omega)
  obtain ⟨ga8, e8, qa8⟩ := hd 8 (by omega)
  obtain ⟨ga9, e9, qa9⟩ := hd 9 (by omega)
  refine EL.ends (cs := [_, _, _, _, _, _, _, _, _, _]) ⟨e0, e1, e2, e3, e4, e5, e6, e7, e8, e9, trivial⟩ rfl ?_;replace q1 := q1.bl hb;replace q2 := q2.bl hb;have bge3 := QCJ halc (i := 8) rfl rfl e8;have n1_3 : g1 ≠ ga8 := Nat.ne_of_lt (Nat.lt_of_lt_of_le lt_1 bge3);have n2_3 : g2 ≠ ga8 := Nat.ne_of_lt (Nat.lt_of_lt_of_le lt_2 bge3);have bhbw_3 := Nat.le_trans hbw.size bge3;have bge4 := QCJ halc (i := 9) rfl rfl e9;have n1_4 : g1 ≠ ga9 := Nat.ne_of_lt (Nat.lt_of_lt_of_le lt_1 bge4);have n2_4 : g2 ≠ ga9 := Nat.ne_of_lt (Nat.lt_of_lt_of_le lt_2 bge4);have n3_4 : ga8 ≠ ga9 := QJj halc (i := 8) (j := 9) rfl rfl rfl rfl rfl e8 e9;have bhbw_4 := Nat.le_trans hbw.size bge4;replace hbw := bo_ hbw hb;clear hb;refine EL.store rfl rfl qa8 Z7 rfl rfl rfl rfl ?_;intro w5 hq5 hg5;replace q1 := q1.gr hg5 n1_3;replace q2 := q2.gr hg5 n2_3;replace qa9 := qa9.gr hg5 n3_4.symm;replace hbw := ZC hbw hg5 bhbw_3;replace qa8 := hq5;clear hg5 hq5;refine EL.store rfl rfl qa9 Z7 rfl rfl rfl rfl ?_;intro w6 hq6 hg6;replace q1 := q1.gr hg6 n1_4;replace q2 := q2.gr hg6 n2_4;replace qa8 := qa8.gr hg6 n3_4;replace hbw := ZC hbw hg6 bhbw_4;replace qa9 := hq6;clear hg6 hq6;refine EL.nil (EX.seq (EC.seq (EC.region (EL.val (ZS rfl) rfl (EL.val (ld_3 rfl (qa8.at (j := 0) rfl)) rfl (EL.val (ZR rfl) rfl (EL.val (ld_3 rfl (qa9.at (j := 1) rfl)) rfl (EL.val (Z4 rfl rfl hw1) rfl (EL.val (QAn rfl rfl rfl) rfl ?_)))))))));refine EL.val (ZR rfl) rfl (EL.val (ld_3 rfl (qa8.at (j := 1) rfl)) rfl (EL.val (ZS rfl) rfl (EL.val (ld_3 rfl (qa9.at (j := 0) rfl)) rfl (EL.val (Z4 rfl rfl hw2) rfl (EL.val (QAn rfl rfl rfl) rfl (EL.val (Zu rfl rfl) rfl (EL.store rfl rfl q2 Z7 rfl rfl rfl rfl ?_)))))));intro w7 hq7 hg7;replace q1 := q1.gr hg7 n1_2;replace qa8 := qa8.gr hg7 n2_3.symm;replace qa9 := qa9.gr hg7 n2_4.symm;replace hbw := ZC hbw hg7 bhbw_2;replace q2 := hq7;clear hg7 hq7;refine EL.nil (EX.seq (EC.ret ?_))
  exact EX.done (QLi rfl rfl (QAK (q2.at rfl) (q2.at rfl))) ⟨rfl, hbw⟩
structure Pass where
 place : Int
 hours : Bd
def pass0 : Pass := ⟨0, bd0⟩
def passC (p : Pass) : List Value := [.int .i64 p.place, .int .i64 p.hours.lo, .int .i64 p.hours.hi]
def passesC (l : List Pass) : List Value := l.flatMap passC
theorem QA4 (s : Pass) : (passC s).length = 3 := rfl
theorem QAk (l : List Pass) : (passesC l).length = l.length * 3 := flat_len QA4 l
theorem QFJ (l : List Pass) : ∀ u ∈ passesC l, u.oneCell' = true := flat_one (by intro x u hu; simp [passC] at hu; rcases hu with rfl | rfl | rfl <;> rfl) l
structure PassAt (w : World) (b o : Nat) (s : Pass) : Prop where
 c0 : w.cell? ⟨b, o, none⟩ = some (.int .i64 s.place)
 c1 : w.cell? ⟨b, o + 1, none⟩ = some (.int .i64 s.hours.lo)
 c2 : w.cell? ⟨b, o + 2, none⟩ = some (.int .i64 s.hours.hi)
theorem Yx (l : List Pass) (k : Nat) (hk : k < l.length) (w : World) (B : Nat) (A : Option Addr) (n c : Nat) (hr : Rd w B 3 (.slice A n c) n (passesC l)) :
  ∃ b off, A = some ⟨b, off, none⟩ ∧ b < B ∧ PassAt w b (off + k * 3) (l.getD k pass0) := by
 have hl : n * 3 = l.length * 3 := by rw [← hr.len, QAk]
 obtain ⟨b, off, rfl, hb, hc⟩ := hr.at_ (by omega)
 have e : l.getD k pass0 = l[k] := by simp [hk]
 rw [e];have g := fun j hj => flat_get QA4 l k hk j hj
 exact ⟨b, off, rfl, hb, hc (k * 3) _ (g 0 (by omega)), hc (k * 3 + 1) _ (g 1 (by omega)), hc (k * 3 + 2) _ (g 2 (by omega))⟩
/-- the error of a way -/
def YL (n h : Int) : List Pass → Int
 | [] => 0
 | x :: l => if inB 0 (n - 1) x.place = false then 7 else if bdOk 0 (h - 1) x.hours = false then 3 else YL n h l
def Yu (n h : Int) (l : List Pass) : Int := if l.length = 0 then 4 else if 60 < l.length then 5 else YL n h l
def QAT (n h : Int) (x : Pass) : Prop := inB 0 (n - 1) x.place = true ∧ bdOk 0 (h - 1) x.hours = true
section
variable {n h : Int}
theorem QC5 : ∀ {l : List Pass}, (∀ j, j < l.length → QAT n h (l.getD j pass0)) → YL n h l = 0
 | [], _ => rfl
 | x :: l, H => by
  have h0 := H 0 (by simp)
  simp only [List.getD_cons_zero] at h0
  rw [YL, h0.1, h0.2, if_neg (by simp), if_neg (by simp)]
  exact QC5 fun j hj => by have := H (j + 1) (by simp; omega); simpa using this
theorem QBO : ∀ {l : List Pass} {k : Nat}, k < l.length → (∀ j, j < k → QAT n h (l.getD j pass0)) → YL n h l = if inB 0 (n - 1) (l.getD k pass0).place = false then 7 else if bdOk 0 (h - 1) (l.getD k pass0).hours = false then 3 else YL n h (l.drop (k + 1))
 | [], k, hk, _ => by simp at hk
 | x :: l, 0, _, _ => by simp [YL]
 | x :: l, k + 1, hk, H => by
  have h0 := H 0 (by omega)
  simp only [List.getD_cons_zero] at h0
  rw [YL, h0.1, h0.2, if_neg (by simp), if_neg (by simp), List.getD_cons_succ, List.drop_succ_cons]
  exact QBO (by simpa using hk) fun j hj => by have := H (j + 1) (by omega); simpa using this
theorem QHd {l : List Pass} {k : Nat} (hk : k < l.length) (H : ∀ j, j < k → QAT n h (l.getD j pass0)) (hp : inB 0 (n - 1) (l.getD k pass0).place = false) : YL n h l = 7 := by
 rw [QBO hk H, if_pos hp]
theorem QHe {l : List Pass} {k : Nat} (hk : k < l.length) (H : ∀ j, j < k → QAT n h (l.getD j pass0)) (hp : inB 0 (n - 1) (l.getD k pass0).place = true) (hh : bdOk 0 (h - 1) (l.getD k pass0).hours = false) : YL n h l = 3 := by
 rw [QBO hk H, if_neg (by rw [hp]; simp), if_pos hh]
theorem QCM : ∀ {l : List Pass}, YL n h l = 0 → ∀ j, j < l.length → QAT n h (l.getD j pass0)
 | [], _, j, hj => by simp at hj
 | x :: l, H, j, hj => by
  rw [YL] at H
  cases h1 : inB 0 (n - 1) x.place with
  | false => rw [if_pos h1] at H; omega
  | true =>
   rw [if_neg (by rw [h1]; simp)] at H
   cases h2 : bdOk 0 (h - 1) x.hours with
   | false => rw [if_pos h2] at H; omega
   | true =>
    rw [if_neg (by rw [h2]; simp)] at H
    cases j with
    | zero => exact ⟨h1, h2⟩
    | succ j => rw [List.getD_cons_succ]; exact QCM H j (by simpa using hj)
end
/-- the least depth, where and when; most: the greatest depth at this pass -/
structure Sh where
 lo : Int
 pass : Int
 hour : Int
 most : Int
def QB7 (i k : Int) (d : Bd) (s : Sh) : Sh := if d.lo < s.lo then ⟨d.lo, i, k, max s.most d.hi⟩ else ⟨s.lo, s.pass, s.hour, max s.most d.hi⟩
def shIn (D : Int → Bd) (i k0 : Int) (s : Sh) : Nat → Sh
 | 0 => s
 | n + 1 => QB7 i (k0 + n) (D (k0 + n)) (shIn D i k0 s n)
structure Shal where
 lo : Int
 hi : Int
 pass : Int
 hour : Int
def hoursN (b : Bd) : Nat := (b.hi - b.lo + 1).toNat
def QF2 (D : Int → Bd) (i : Int) (b : Bd) (s : Shal) : Shal :=
 let t := shIn D i b.lo ⟨s.lo, s.pass, s.hour, 0⟩ (hoursN b)
 ⟨t.lo, min s.hi t.most, t.pass, t.hour⟩
def shUp (rv : River) (sides : List (List Bd)) (l : List Pass) : Nat → Shal
 | 0 => ⟨1000000, 1000000, 0, 0⟩
 | j + 1 => QF2 (depthAt rv sides (l.getD j pass0).place) j (l.getD j pass0).hours (shUp rv sides l j)
theorem QDb {rv : River} {sides : List (List Bd)} (hS : StartOk rv sides) {p t : Int} (hp1 : 0 ≤ p) (hp2 : p < placesOf rv.reaches) (ht1 : 0 ≤ t) (ht2 : t < (sides.getD 0 []).length) :
  (0 ≤ (depthAt rv sides p t).lo ∧ (depthAt rv sides p t).lo ≤ 30000) ∧ 0 ≤ (depthAt rv sides p t).hi ∧ (depthAt rv sides p t).hi ≤ 30000 := by
 have hlt := reachOf_lt rv.reaches p hp1 hp2;have hx := hS.river.reach _ hlt;have hlb := levelAt_bd hx (flowIn rv.reaches sides (reachOf rv.reaches p) t);have hhr := hS.hours;have htb : (-20000 ≤ (bedAt rv p t).lo ∧ (bedAt rv p t).lo ≤ 30000) ∧ -20000 ≤ (bedAt rv p t).hi ∧ (bedAt rv p t).hi ≤ 30000 := QCs (N := placesOf rv.reaches) (fun j hj => by
  have hm : (shoalsAt rv.shoals p).getD j shoal0 ∈ rv.shoals := (List.mem_filter.1 (show _ ∈ rv.shoals.filter _ from getD_mem hj)).1;obtain ⟨k, hk, e⟩ := List.getElem_of_mem hm;have := hS.river.shoal k hk
  rwa [show rv.shoals.getD k shoal0 = (shoalsAt rv.shoals p).getD j shoal0 by simp [hk, e]] at this) (by omega) (by omega) (by have := hx.bottom; omega) (by have := hx.bottom; omega)
 simp only [depthAt]
 omega
theorem QGf {D : Int → Bd} {i k0 : Int} {s : Sh} {n : Nat} (hD : ∀ j : Nat, j < n → 0 ≤ (D (k0 + j)).lo ∧ (D (k0 + j)).lo ≤ 30000 ∧ 0 ≤ (D (k0 + j)).hi ∧ (D (k0 + j)).hi ≤ 30000) (hs : 0 ≤ s.lo ∧ s.lo ≤ 1000000) (hm : 0 ≤ s.most ∧ s.most ≤ 30000) :
  (0 ≤ (shIn D i k0 s n).lo ∧ (shIn D i k0 s n).lo ≤ 1000000) ∧ (0 ≤ (shIn D i k0 s n).most ∧ (shIn D i k0 s n).most ≤ 30000) ∧ (0 < n → (shIn D i k0 s n).lo ≤ 30000) := by
 induction n with
 | zero => exact ⟨hs, hm, fun h => absurd h (by omega)⟩
 | succ n ih =>
  obtain ⟨h1, h2, h3⟩ := ih fun j hj => hD j (by omega)
  have h4 := hD n (by omega)
  rw [shIn, QB7]
  split
  ·simp only; omega
  ·simp only; omega
theorem QCE {b : Bd} (h : b.lo ≤ b.hi) : ((hoursN b : Nat) : Int) = b.hi - b.lo + 1 := by unfold hoursN; omega
theorem QCc {rv : River} {sides : List (List Bd)} (hS : StartOk rv sides) {l : List Pass} (hl : ∀ j, j < l.length → QAT (placesOf rv.reaches) ((sides.getD 0 []).length : Nat) (l.getD j pass0)) : ∀ {j : Nat}, j ≤ l.length → (0 ≤ (shUp rv sides l j).lo ∧ (shUp rv sides l j).lo ≤ 1000000) ∧ (0 ≤ (shUp rv sides l j).hi ∧ (shUp rv sides l j).hi ≤ 1000000) ∧ (0 < j → (shUp rv sides l j).lo ≤ 30000 ∧ (shUp rv sides l j).hi ≤ 30000)
 | 0, _ => by simp [shUp]
 | j + 1, hj => by
  obtain ⟨h1, h2, h3⟩ := QCc hS hl (j := j) (by omega)
  obtain ⟨hp, hh⟩ := hl j (by omega)
  have hp := inB_iff.1 hp;have hh := bdOk_iff.1 hh;have hn := QCE hh.2.1;have key := QGf (D := depthAt rv sides (l.getD j pass0).place) (i := j) (k0 := (l.getD j pass0).hours.lo) (s := ⟨(shUp rv sides l j).lo, (shUp rv sides l j).pass, (shUp rv sides l j).hour, 0⟩) (n := hoursN (l.getD j pass0).hours) (fun m hm => by
   have := QDb hS (p := (l.getD j pass0).place) (t := (l.getD j pass0).hours.lo + m) (by omega) (by omega) (by omega) (by omega)
   omega) h1 (by simp)
  obtain ⟨k1, k2, k3⟩ := key;have k4 := k3 (by omega)
  rw [shUp, QF2]
  simp only
  omega
/-- what Shallowest returns -/
def Yg (rv : River) (sides : List (List Bd)) (l : List Pass) : Int := if startErr rv sides ≠ 0 then startErr rv sides else Yu (placesOf rv.reaches) ((sides.getD 0 []).length : Nat) l
def Yv (rv : River) (sides : List (List Bd)) (l : List Pass) : Shal := if Yg rv sides l = 0 then shUp rv sides l l.length else ⟨0, 0, 0, 0⟩
section
variable {rv : River} {sides : List (List Bd)} {l : List Pass}
theorem QIZ (h : startErr rv sides ≠ 0) : Yg rv sides l = startErr rv sides ∧ Yv rv sides l = ⟨0, 0, 0, 0⟩ := by simp [Yg, Yv, h]
theorem QCb {e : Int} (h : startErr rv sides = 0) (h2 : Yu (placesOf rv.reaches) ((sides.getD 0 []).length : Nat) l = e) (he : e ≠ 0) : Yg rv sides l = e ∧ Yv rv sides l = ⟨0, 0, 0, 0⟩ := by
 have h3 : Yg rv sides l = e := by rw [Yg, if_neg (by omega), h2]
 exact ⟨h3, by rw [Yv, h3, if_neg he]⟩
theorem QLA (h : startErr rv sides = 0) (h2 : Yu (placesOf rv.reaches) ((sides.getD 0 []).length : Nat) l = 0) : Yg rv sides l = 0 ∧ Yv rv sides l = shUp rv sides l l.length := by
 have h3 : Yg rv sides l = 0 := by rw [Yg, if_neg (by omega), h2]
 exact ⟨h3, by rw [Yv, if_pos h3]⟩
theorem QKf {n h : Int} (hl : l.length = 0) : Yu n h l = 4 := by rw [Yu, if_pos hl]
theorem QKe {n h : Int} (hl : 60 < l.length) : Yu n h l = 5 := by rw [Yu, if_neg (by omega), if_pos hl]
theorem QEG {n h : Int} (h1 : l.length ≠ 0) (h2 : ¬60 < l.length) : Yu n h l = YL n h l := by rw [Yu, if_neg h1, if_neg h2]
end
/-- the places, found: curve and shoals of each -/
def Y3 (rv : River) (q : Pass × Value × Value) : List Value := (placeV (rv.reaches.getD (reachOf rv.reaches q.1.place) reach0) q.2.1 (reachOf rv.reaches q.1.place : Nat) q.2.2).toList
theorem QC4 (rv : River) (q : Pass × Value × Value) : (Y3 rv q).length = 11 := rfl
def YK (rv : River) (l : List Pass) : List (Nat × List Value) := l.map fun x => ((shoalsAt rv.shoals x.place).length, shoalsC (shoalsAt rv.shoals x.place))
theorem QCz {rv : River} {l : List Pass} {i : Nat} (hi : i < l.length) : YK rv (l.take (i + 1)) = YK rv (l.take i) ++ [((shoalsAt rv.shoals (l.getD i pass0).place).length, shoalsC (shoalsAt rv.shoals (l.getD i pass0).place))] := by
 rw [List.take_succ_eq_append_getElem hi]
 unfold YK
 rw [List.map_append]
 simp [hi]
theorem QFI {rv : River} {l : List Pass} {ps : List (Value × Value)} {v : Value × Value} {i : Nat} (hi : i < l.length) (hf : ps.length = i) : ((l.take (i + 1)).zip (ps ++ [v])).flatMap (Y3 rv) = ((l.take i).zip ps).flatMap (Y3 rv) ++ Y3 rv (l.getD i pass0, v) := by
 rw [List.take_succ_eq_append_getElem hi, List.zip_append (by simp; omega)]
 simp [hi]
section
variable {n : Nat} {σ : Sg} {w : World} {dst : Option Tmp} {ty : TypeId} {pos : String} {af : Array Edge} {g : Option (Nat × Bool)} {x y z : Operand} {at' : Array TypeId}
theorem QKu {v0 v1 : Value} (hx : evS σ x = some (.agg #[v0, v1])) (a : Act) (ha : Env n σ a) : (execOp a.eval ⟨dst, .box 49 x, ty, pos, af, g⟩).run Try.prog w = .ok (.value (.pointer (some ⟨w.heap.size, 0, none⟩))) (w.alloc (.cells #[v0, v1] 49)) := by
 simp only [execOp, ha.eval hx]
 simp [go_sem]
theorem QGU (a : Act) (_ : Env n σ a) : (execOp a.eval ⟨dst, .alloc 138, ty, pos, af, g⟩).run Try.prog w = .ok (.value (.pointer (some ⟨w.heap.size, 0, none⟩))) (w.alloc (.cells #[.int .i64 0, .int .i64 0, .int .i64 0, .int .i64 0, .slice none 0 0, .int .i64 0, .int .i64 0, .int .i64 0, .int .i64 0, .int .i64 0, .slice none 0 0] 138)) := by
 simp only [execOp]
 simp [go_sem]
theorem QFV {b o : Nat} {v0 v1 : Value} (hx : evS σ x = some (.pointer (some ⟨b, o, none⟩))) (c0 : w.cell? ⟨b, o, none⟩ = some v0) (c1 : w.cell? ⟨b, o + 1, none⟩ = some v1) : ZE Try.prog n σ w ⟨dst, .load 49 x, ty, pos, af, g⟩ (.agg #[v0, v1]) := fun a ha => by
 simp only [execOp, ha.eval hx]
 simp [go_sem, c0, c1]
theorem cA1 {F : FuncId} (hF : cF F) {x0 : Operand} {v0 : Value} (h0 : evS σ x0 = some v0) (a : Act) (ha : Env n σ a) : (execOp a.eval ⟨dst, .call { callee := .value (.func F), args := #[x0], argTypes := at' }, ty, pos, af, g⟩).run Try.prog w = .ok (.enter F #[v0]) w := by
 simp only [execOp, resolve, List.map_toArray, List.map_cons, List.map_nil, ha.eval h0]
 simp [go_sem, Act.eval, hF _ _]
theorem cF88 : cF 88 := fun _ _ => by simp [go_sem]
theorem Zt {x0 : Operand} {z0_0 : Int} (h0 : evS σ x0 = some (.int .i64 z0_0)) (a : Act) (ha : Env n σ a) : (execOp a.eval ⟨dst, .buildSlice 56 1 #[(0, x0)], ty, pos, af, g⟩).run Try.prog w = .ok (.value (.slice (some ⟨w.heap.size, 0, none⟩) 1 1)) (w.alloc (.cells #[.int .i64 z0_0] 3)) := by
 simp only [execOp, List.map_toArray, List.map_cons, List.map_nil, ha.eval h0]
 go_simp
theorem cF72 : cF 72 := fun _ _ => by simp [go_sem]
theorem QFy : (Try.prog.info? 138).map (·.size) = some 11 := by kernel_rfl
theorem QLI {b o : Nat} {v0 v1 v2 v3 v4 v5 v6 v7 v8 v9 v10 : Value} (c0 : w.cell? ⟨b, o, none⟩ = some v0) (c1 : w.cell? ⟨b, o + 1, none⟩ = some v1) (c2 : w.cell? ⟨b, o + 2, none⟩ = some v2) (c3 : w.cell? ⟨b, o + 3, none⟩ = some v3) (c4 : w.cell? ⟨b, o + 4, none⟩ = some v4) (c5 : w.cell? ⟨b, o + 5, none⟩ = some v5) (c6 : w.cell? ⟨b, o + 6, none⟩ = some v6) (c7 : w.cell? ⟨b, o + 7, none⟩ = some v7) (c8 : w.cell? ⟨b, o + 8, none⟩ = some v8) (c9 : w.cell? ⟨b, o + 9, none⟩ = some v9) (c10 : w.cell? ⟨b, o + 10, none⟩ = some v10) : (loadVar 138 ⟨b, o, none⟩).run Try.prog w = .ok (.agg #[v0, v1, v2, v3, v4, v5, v6, v7, v8, v9, v10]) w := by
 simp [go_sem, loadVar, c0, c1, c2, c3, c4, c5, c6, c7, c8, c9, c10]
theorem cF71 : cF 71 := fun _ _ => by simp [go_sem]
theorem cF73 : cF 73 := fun _ _ => by simp [go_sem]
theorem cF48 : cF 48 := fun _ _ => by simp [go_sem]
theorem cF50 : cF 50 := fun _ _ => by simp [go_sem]
end
theorem QF5 {r : River} (hok : riverB r = true) : lensB r.reaches := by
 have hR := riverB_ok hok;have hs := hR.some
 simp only [riverB, Bool.and_eq_true] at hok
 exact lens_ok (by omega) fun x hx => by have := (reachB_ok (List.all_eq_true.1 hok.2.2.1 x hx)).len; omega
theorem QIF (p lo hi : Int) (b : Bool) (w : World) {g T : Nat} (hq : Blk w g T #[.int .i64 p]) (h : inB lo hi p = b) :
  Calls Try.prog 72 #[.int .i64 lo, .int .i64 hi, .slice (some ⟨g, 0, none⟩) 1 1] w fun e w' => e = .returned (.bool b) ∧ Below w.heap.size w w' := by
 have := within_any [p] lo hi _ 1 w w.heap.size (QB9 (l := [.int .i64 p]) hq rfl) (Nat.le_refl _) (by omega)
 have e : [p].all (inB lo hi) = b := by simp [h]
 rw [e] at this
 exact this
theorem QG5 (b : Bd) (lo hi : Int) (x : Bool) (w : World) {g T : Nat} (hq : Blk w g T #[.int .i64 b.lo, .int .i64 b.hi]) (h : bdOk lo hi b = x) :
  Calls Try.prog 69 #[.int .i64 lo, .int .i64 hi, .slice (some ⟨g, 0, none⟩) 1 1] w fun e w' => e = .returned (.bool x) ∧ Below w.heap.size w w' := by
 have := isValid_any [b] lo hi _ w w.heap.size (QB9 (l := [.int .i64 b.lo, .int .i64 b.hi]) hq rfl) (Nat.le_refl _) (by simp)
 have e : [b].all (bdOk lo hi) = x := by simp [h]
 rw [e] at this
 exact this
theorem QJQ (r : River) (v u : Value) (vs : List Value) (p : Int) (w : World) (B : Nat) (hr : RdRiver w B v u r vs) (hB : B ≤ w.heap.size) (hok : riverB r = true) (hp : inB 0 (placesOf r.reaches - 1) p = false) :
  Calls Try.prog 71 #[.agg #[v, u], .int .i64 p] w fun e w' => e = .returned (.tuple #[.agg (placeV reach0 (.slice none 0 0) 0 (.slice none 0 0)), .bool false]) ∧ Below w.heap.size w w' := by
 have hR := riverB_ok hok;have hpl := hR.places;have hl : r.reaches.length ≤ 1048576 := by have := hR.some; omega
 have hlb : lensB r.reaches := QF5 hok;have hsub : IntKind.i64.wrap (placesOf r.reaches - 1) = placesOf r.reaches - 1 := IntWalk.i64_in _ ⟨by omega, by omega⟩
 obtain ⟨A, c, rfl, _⟩ := hr.reaches.shape;obtain ⟨A', c', rfl, _⟩ := hr.shoals.shape;have hbw := Below.refl w.heap.size w;refine EC.enter 60 Try.func71 rfl rfl rfl (EC.seq (EC.region (EL.newP (QKu rfl) rfl ?_)));intro g1 w1 q1 hb1 hg1 hl1;have bhbw_1 := Nat.le_trans hbw.size hg1;replace hbw := bo_ hbw hb1;clear hb1 hg1 hl1;refine EL.newP QGU rfl ?_;intro g2 w2 q2 hb2 hg2 hl2;have n1_2 := q1.na hg2;have bhbw_2 := Nat.le_trans hbw.size hg2;replace q1 := q1.bl hb2;replace hbw := bo_ hbw hb2;clear hb2 hg2 hl2;refine EL.as rfl rfl (EL.nil (EX.seq (EC.seq (EC.seq (EC.region (EL.val (QFV rfl (q1.at (j := 0) rfl) (q1.at (j := 1) rfl)) rfl (EL.call (cA1 cF88 rfl) rfl (length_any r _ _ vs _ B (hr.below (hbw.mono hB)) (Nat.le_trans hB hbw.size) hl hlb) ?_)))))))
 rintro e w3 ⟨rfl, hc3⟩
 refine ⟨_, rfl, ?_⟩;replace q1 := q1.bl hc3;replace q2 := q2.bl hc3;replace hbw := bo_ hbw hc3;clear hc3;refine EL.val (Z4 rfl rfl hsub) rfl (EL.mv rfl rfl (EL.newS (Zt rfl) rfl ?_));intro g4 w4 q4 hb4 hg4 hl4;have n1_4 := q1.na hg4;have n2_4 := q2.na hg4;have bhbw_4 := Nat.le_trans hbw.size hg4;replace q1 := q1.bl hb4;replace q2 := q2.bl hb4;replace hbw := bo_ hbw hb4;clear hb4 hg4 hl4;refine EL.call (cA3 cF72 rfl rfl rfl) rfl (QIF _ _ _ false _ q4 hp) ?_
 rintro e w5 ⟨rfl, hc5⟩
 refine ⟨_, rfl, ?_⟩;replace q1 := q1.bl hc5;replace q2 := q2.bl hc5;replace q4 := q4.bl hc5;replace hbw := bo_ hbw hc5;clear hc5;refine EL.val (ZV rfl) rfl (EL.nil (EX.seq (EC.yes rfl (EC.seq (EC.region (EL.val (QEe rfl (q2.at (j := 0) rfl) (q2.at (j := 1) rfl) (q2.at (j := 2) rfl) (q2.at (j := 3) rfl) (q2.at (j := 4) rfl) (q2.at (j := 5) rfl) (q2.at (j := 6) rfl) (q2.at (j := 7) rfl) (q2.at (j := 8) rfl) (q2.at (j := 9) rfl) (q2.at (j := 10) rfl)) rfl (EL.store rfl rfl q2 QFy rfl rfl rfl rfl ?_)))))));intro w6 hq6 hg6;replace q1 := q1.gr hg6 n1_2;replace hbw := ZC hbw hg6 bhbw_2;replace q2 := hq6;clear hg6 hq6;refine EL.as rfl rfl (EL.nil (EX.seq (EC.ret (EX.seq_ret ?_))))
 exact EX.done (QLh rfl rfl rfl (QLI (q2.at rfl) (q2.at rfl) (q2.at rfl) (q2.at rfl) (q2.at rfl) (q2.at rfl) (q2.at rfl) (q2.at rfl) (q2.at rfl) (q2.at rfl) (q2.at rfl))) ⟨rfl, hbw⟩
theorem QKE (r : River) (v u : Value) (vs : List Value) (p : Int) (w : World) (B : Nat) (hr : RdRiver w B v u r vs) (hB : B ≤ w.heap.size) (hok : riverB r = true) (hp : inB 0 (placesOf r.reaches - 1) p = true) :
  Calls Try.prog 71 #[.agg #[v, u], .int .i64 p] w fun e w' => (∃ A1 n1 c1 A n c, e = .returned (.tuple #[.agg (placeV (r.reaches.getD (reachOf r.reaches p) reach0) (.slice A1 n1 c1) (reachOf r.reaches p : Nat) (.slice A n c)), .bool true]) ∧ w'.ownsRow w.heap.size 100 6 (.slice A n c) (shoalsAt r.shoals p).length (shoalsC (shoalsAt r.shoals p))) ∧ Below w.heap.size w w' := by
 have hR := riverB_ok hok;have hlt : reachOf r.reaches p < r.reaches.length := reachOf_lt _ _ (by have := inB_iff.1 hp; omega) (by have := inB_iff.1 hp; omega)
 obtain ⟨A1, c1, e1, _⟩ := (hr.reaches.curve _ hlt).shape;refine (find_any r v u vs p w B hr hB hok).mono fun e w' h => ?_
 obtain ⟨h | ⟨_, A, n, c, h1, h2⟩, hb⟩ := h
 ·rw [hp] at h; exact absurd h.1 (by simp)
 ·rw [e1] at h1
  exact ⟨⟨_, _, _, _, _, _, h1, h2⟩, hb⟩
theorem QIo (r : River) (sides : List (List Bd)) (v u s : Value) (vs ss : List Value) (w : World) (B : Nat) (hr : RdRiver w B v u r vs) (hs : RdSides w B s sides ss) (hB : B ≤ w.heap.size)
  (hl : r.reaches.length ≤ 1048576) (hl2 : r.shoals.length ≤ 1048576) (hcv : CurvesB r.reaches) (hl3 : sides.length ≤ 1048576) (hsb : SidesB sides) (he : startErr r sides ≠ 0) :
  Calls Try.prog 48 #[.agg #[v, u], s] w fun e w' => e = .returned (.tuple #[.pointer none, .int .i64 (startErr r sides)]) ∧ Below w.heap.size w w' := by
 refine (open_any r sides v u s vs ss w B hr hs hB hl hl2 hcv hl3 hsb).mono fun e w' h => ?_
 obtain ⟨⟨_, h1⟩ | ⟨h1, _⟩, hb⟩ := h
 ·exact ⟨h1, hb⟩
 ·exact absurd h1 he
theorem QJ1 (r : River) (sides : List (List Bd)) (v u s : Value) (vs ss : List Value) (w : World) (B : Nat) (hr : RdRiver w B v u r vs) (hs : RdSides w B s sides ss) (hB : B ≤ w.heap.size)
  (hl : r.reaches.length ≤ 1048576) (hl2 : r.shoals.length ≤ 1048576) (hcv : CurvesB r.reaches) (hl3 : sides.length ≤ 1048576) (hsb : SidesB sides) (he : startErr r sides = 0) :
  Calls Try.prog 48 #[.agg #[v, u], s] w fun e w' => (∃ g vf fs, e = .returned (.tuple #[.pointer (some ⟨g, 0, none⟩), .int .i64 0]) ∧ w.heap.size ≤ g ∧ StreamOk w' w'.heap.size g r sides v u vf vs fs ∧ Stream w' (g + 1) g v u vf fs (flowsUp r.reaches sides sides.length)) ∧ Below w.heap.size w w' := by
 refine (open_any r sides v u s vs ss w B hr hs hB hl hl2 hcv hl3 hsb).mono fun e w' h => ?_
 obtain ⟨⟨h1, _⟩ | ⟨_, g, vf, fs, h1, h2, h3⟩, hb⟩ := h
 ·exact absurd he h1
 ·exact ⟨⟨g, vf, fs, h1, h2, ⟨(startErr_ok he).2, h3.blk, h3.blk.lt, (hr.below (hb.mono hB)).more (Nat.le_trans hB hb.size), h3.sides⟩, h3⟩, hb⟩
theorem QH5 {w : World} {B C g : Nat} {r : River} {sides : List (List Bd)} {v u vf : Value} {vs fs : List Value} (h : StreamOk w B g r sides v u vf vs fs) (hB : B ≤ w.heap.size) {p t : Int} {A1 A : Option Addr} {n1 c1 n c : Nat} (hl : Rd w C 6 (.slice A n c) (shoalsAt r.shoals p).length (shoalsC (shoalsAt r.shoals p))) (hC : C ≤ w.heap.size) (hok : riverB r = true) (hp : inB 0 (placesOf r.reaches - 1) p = true) (ht : inB 0 (((sides.getD 0 []).length : Nat) - 1 : Int) t = true) :
  Calls Try.prog 50 #[.pointer (some ⟨g, 0, none⟩), .agg (placeV (r.reaches.getD (reachOf r.reaches p) reach0) (.slice A1 n1 c1) (reachOf r.reaches p : Nat) (.slice A n c)), .int .i64 t] w fun e w' =>
   e = .returned (.agg #[.int .i64 (depthAt r sides p t).lo, .int .i64 (depthAt r sides p t).hi]) ∧ Below w.heap.size w w' := by
 have hR := riverB_ok hok;have hp' := inB_iff.1 hp;have ht' := inB_iff.1 ht;have hlt : reachOf r.reaches p < r.reaches.length := reachOf_lt _ _ (by omega) (by omega)
 have et : t = (t.toNat : Int) := by omega
 have en : n = (shoalsAt r.shoals p).length := by obtain ⟨_, _, _, e, _⟩ := hl; injection e
 subst en;rw [et];have hB' : max B C ≤ w.heap.size := by omega
 exact QH6 (B := max B C) ⟨h.ok, h.blk, Nat.lt_of_lt_of_le h.gB (by omega), h.river.more (by omega), ⟨h.flows.len, h.flows.rd.more (by omega), fun i hi => (h.flows.side i hi).more (by omega)⟩⟩ hB' _ t.toNat hlt (by omega) A1 n1 c1 A c _ (hl.more (by omega)) (fun j hj => by
  have hm : (shoalsAt r.shoals p).getD j shoal0 ∈ r.shoals := (List.mem_filter.1 (show _ ∈ r.shoals.filter _ from getD_mem hj)).1
  simp only [riverB, Bool.and_eq_true] at hok
  exact List.all_eq_true.1 hok.2.2.2 _ hm) (Nat.le_trans (List.length_filter_le _ _) hR.few)
section
variable {n : Nat} {σ : Sg} {w : World} {dst : Option Tmp} {ty : TypeId} {pos : String} {af : Array Edge} {g : Option (Nat × Bool)} {x y z : Operand} {at' : Array TypeId}
theorem QFR {A : Option Addr} {m c : Nat} (hx : evS σ x = some (.slice A m c)) : ZE Try.prog n σ w ⟨dst, .call { callee := .builtin .len, args := #[x], argTypes := #[51] }, ty, pos, af, g⟩ (.int .i64 (m : Int)) := fun a ha => by
 simp only [execOp, resolve, List.map_toArray, List.map_cons, List.map_nil, ha.eval hx]
 simp [go_sem]
theorem Zp {b o : Nat} {v0 v1 : Value} (hx : evS σ x = some (.pointer (some ⟨b, o, none⟩))) (c0 : w.cell? ⟨b, o, none⟩ = some v0) (c1 : w.cell? ⟨b, o + 1, none⟩ = some v1) : ZE Try.prog n σ w ⟨dst, .load 25 x, ty, pos, af, g⟩ (.agg #[v0, v1]) := fun a ha => by
 simp only [execOp, ha.eval hx]
 simp [go_sem, c0, c1]
theorem QD6 {b o m c k : Nat} (hx : evS σ x = some (.slice (some ⟨b, o, none⟩) m c)) (hy : evS σ y = some (.int .i64 (k : Int))) (hk : k < m) : ZE Try.prog n σ w ⟨dst, .indexAddr 51 x y, ty, pos, af, g⟩ (.pointer (some ⟨b, o + k * 3, none⟩)) := fun a ha => by
 have k0 : (0 : Int) ≤ (k : Int) := Int.natCast_nonneg _;have k1 : (k : Int) < (m : Int) := by omega
 simp only [execOp, ha.eval hx, ha.eval hy]
 simp [go_sem, k0, k1]
theorem QKk {b o : Nat} {v0 v1 v2 : Value} (hx : evS σ x = some (.pointer (some ⟨b, o, none⟩))) (c0 : w.cell? ⟨b, o, none⟩ = some v0) (c1 : w.cell? ⟨b, o + 1, none⟩ = some v1) (c2 : w.cell? ⟨b, o + 2, none⟩ = some v2) : ZE Try.prog n σ w ⟨dst, .load 85 x, ty, pos, af, g⟩ (.agg #[v0, v1, v2]) := fun a ha => by
 simp only [execOp, ha.eval hx]
 simp [go_sem, c0, c1, c2]
theorem QKv (a : Act) (_ : Env n σ a) : (execOp a.eval ⟨dst, .alloc 85, ty, pos, af, g⟩).run Try.prog w = .ok (.value (.pointer (some ⟨w.heap.size, 0, none⟩))) (w.alloc (.cells #[.int .i64 0, .int .i64 0, .int .i64 0] 85)) := by
 simp only [execOp]
 simp [go_sem]
theorem QKi : (Try.prog.info? 85).map (·.size) = some 3 := by kernel_rfl
theorem QKF {b o : Nat} (hx : evS σ x = some (.pointer (some ⟨b, o, none⟩))) : ZE Try.prog n σ w ⟨dst, .fieldAddr 85 x 0, ty, pos, af, g⟩ (.pointer (some ⟨b, o, none⟩)) := fun a ha => by
 simp only [execOp, ha.eval hx]
 simp [go_sem]
theorem QFn {x0 : Operand} {v0_0 v0_1 : Value} (h0 : evS σ x0 = some (.agg #[v0_0, v0_1]))  (a : Act) (ha : Env n σ a) : (execOp a.eval ⟨dst, .buildSlice 101 1 #[(0, x0)], ty, pos, af, g⟩).run Try.prog w = .ok (.value (.slice (some ⟨w.heap.size, 0, none⟩) 1 1)) (w.alloc (.cells #[v0_0, v0_1] 25)) := by
 simp only [execOp, List.map_toArray, List.map_cons, List.map_nil, ha.eval h0]
 go_simp
theorem Yk {b o : Nat} (hx : evS σ x = some (.pointer (some ⟨b, o, none⟩))) : ZE Try.prog n σ w ⟨dst, .fieldAddr 85 x 1, ty, pos, af, g⟩ (.pointer (some ⟨b, o + 1, none⟩)) := fun a ha => by
 simp only [execOp, ha.eval hx]
 simp [go_sem]
theorem cF69 : cF 69 := fun _ _ => by simp [go_sem]
theorem QJX {x0 : Operand} {v0_0 v0_1 v0_2 v0_3 v0_4 v0_5 v0_6 v0_7 v0_8 v0_9 v0_10 : Value} (h0 : evS σ x0 = some (.agg #[v0_0, v0_1, v0_2, v0_3, v0_4, v0_5, v0_6, v0_7, v0_8, v0_9, v0_10]))  (a : Act) (ha : Env n σ a) : (execOp a.eval ⟨dst, .buildSlice 174 1 #[(0, x0)], ty, pos, af, g⟩).run Try.prog w = .ok (.value (.slice (some ⟨w.heap.size, 0, none⟩) 1 1)) (w.alloc (.cells #[v0_0, v0_1, v0_2, v0_3, v0_4, v0_5, v0_6, v0_7, v0_8, v0_9, v0_10] 138)) := by
 simp only [execOp, List.map_toArray, List.map_cons, List.map_nil, ha.eval h0]
 go_simp
theorem QLL {b o m c k : Nat} (hx : evS σ x = some (.slice (some ⟨b, o, none⟩) m c)) (hy : evS σ y = some (.int .i64 (k : Int))) (hk : k < m) : ZE Try.prog n σ w ⟨dst, .indexAddr 174 x y, ty, pos, af, g⟩ (.pointer (some ⟨b, o + k * 11, none⟩)) := fun a ha => by
 have k0 : (0 : Int) ≤ (k : Int) := Int.natCast_nonneg _;have k1 : (k : Int) < (m : Int) := by omega
 simp only [execOp, ha.eval hx, ha.eval hy]
 simp [go_sem, k0, k1]
theorem sz_3 : (Try.prog.info? 3).map (·.size) = some 1 := by kernel_rfl
end
section
variable {n : Nat} {σ : Sg} {w : World} {P : Program}
theorem QD0 {fn : Func} {c s r q : Tmp} {t : TypeId} {p : Addr} {v u x y : Value} (h : fn.results = #[.cell c t, .tmp s, .tmp r, .tmp q]) (hc : σ c = some (.pointer (some p))) (hs : σ s = some u) (hr : σ r = some x) (hq : σ q = some y) (hl : (loadVar t p).run P w = .ok v w) (a : Act) (ha : Env n σ a) : (results fn a.tmps).run P w = .ok (.tuple #[v, u, x, y]) w := by
 have h1 : a.tmps.getD c undef = .pointer (some p) := ha.eval (x := .tmp c) hc;have h2 : a.tmps.getD s undef = u := ha.eval (x := .tmp s) hs;have h3 : a.tmps.getD r undef = x := ha.eval (x := .tmp r) hr;have h4 : a.tmps.getD q undef = y := ha.eval (x := .tmp q) hq;rw [Array.getD_eq_getD_getElem?] at h1 h2 h3 h4
 simp [results, h, h1, h2, h3, h4, asAddr, hl]
end
theorem QF8 : (Try.prog.info? 138).map (fun i => (i.zero, i.size, i.bytes)) = some (some (.agg #[.int .i64 0, .int .i64 0, .int .i64 0, .int .i64 0, .slice none 0 0, .int .i64 0, .int .i64 0, .int .i64 0, .int .i64 0, .int .i64 0, .slice none 0 0]), 11, 120) := by kernel_rfl
theorem QF9 : Elem Try.prog 174 138 11 120 := Elem.mk' Try.underlying174 QF8 rfl (by omega)
/-- a block that rows do not use -/
def QAZ (vf : Value) (fs : List Value) (g : Nat) : Prop := vf.ownBlock ≠ some g ∧ ∀ v ∈ fs, v.ownBlock ≠ some g
section
variable {w w' : World} {base e osize n tb size g : Nat} {vf : Value} {outer : List Value} {fs : List Value} {F : List (Nat × List Value)}
theorem Rows.off_of (h : Rows w base e osize vf n outer tb size fs F) (hg : ∀ k, (base ≤ k ∧ k < w.heap.size) → k ≠ g) : QAZ vf fs g := by
 refine ⟨fun h1 => hg g (h.own.lt g h1) rfl, fun v hv h1 => ?_⟩
 obtain ⟨i, hi, e⟩ := List.getElem_of_mem hv;have h2 := h.each i (by rw [← h.len]; exact hi)
 rw [show fs.getD i undef = v by simp [hi, e]] at h2
 exact hg g (h2.lt g h1) rfl
theorem Rows.off_ge (h : Rows w base e osize vf n outer tb size fs F) (hg : w.heap.size ≤ g) : QAZ vf fs g := h.off_of fun k hk e => by omega
theorem Rows.off_lt (h : Rows w base e osize vf n outer tb size fs F) (hg : g < base) : QAZ vf fs g := h.off_of fun k hk e => by omega
theorem Rows.keepOff (h : Rows w base e osize vf n outer tb size fs F) (ho : QAZ vf fs g) (hg : w.grownBy w' (some g)) : Rows w' base e osize vf n outer tb size fs F := by
 have key : ∀ {u : Value} {b t s k : Nat} {ys : List Value}, w.ownsRow b t s u k ys → u.ownBlock ≠ some g → w'.ownsRow b t s u k ys := fun hu hne => hu.kept hg (.inr fun h => hne h)
 refine ⟨key h.own ho.1, h.len, fun i hi => key (h.each i hi) (ho.2 _ ?_), h.apart⟩
 rw [← h.len] at hi
 exact getD_mem hi
theorem Stream.below {v u : Value} {F : List (List Bd)} (h : Stream w base g v u vf fs F) (hb : Below w.heap.size w w') : Stream w' base g v u vf fs F := ⟨h.blk.below hb h.blk.lt, h.rows.below hb⟩
theorem Stream.keepOff {v u : Value} {F : List (List Bd)} {k : Nat} (h : Stream w base g v u vf fs F) (ho : QAZ vf fs k ∧ g ≠ k) (hg : w.grownBy w' (some k)) : Stream w' base g v u vf fs F := ⟨h.blk.grown hg (fun e => ho.2 (Option.some.inj e)), h.rows.keepOff ho.1 hg⟩
theorem Stream.off_ge {v u : Value} {F : List (List Bd)} {k : Nat} (h : Stream w base g v u vf fs F) (hk : w.heap.size ≤ k) : QAZ vf fs k ∧ g ≠ k := ⟨h.rows.off_ge hk, Nat.ne_of_lt (Nat.lt_of_lt_of_le h.blk.lt hk)⟩
theorem Stream.off_lt {v u : Value} {F : List (List Bd)} {k : Nat} (h : Stream w (g + 1) g v u vf fs F) (hk : k < g) : QAZ vf fs k ∧ g ≠ k := ⟨h.rows.off_lt (by omega), by omega⟩
theorem QB6 {rv : River} {sides : List (List Bd)} {v u : Value} {vs : List Value} {b B : Nat} (hO : StartOk rv sides) (h : Stream w b g v u vf fs (flowsUp rv.reaches sides sides.length)) (hr : RdRiver w B v u rv vs) (hB : B ≤ w.heap.size) : StreamOk w w.heap.size g rv sides v u vf vs fs :=
 ⟨hO, h.blk, h.blk.lt, hr.more hB, h.sides⟩
end
theorem QFH {rv : River} {l : List Pass} {ps : List (Value × Value)} (hps : ps.length = l.length) (k : Nat) (hk : k < l.length) (w : World) (B : Nat) (A : Option Addr) (n c : Nat) (hr : Rd w B 11 (.slice A n c) n ((l.zip ps).flatMap (Y3 rv))) :
  ∃ b off, A = some ⟨b, off, none⟩ ∧ b < B ∧ k < n ∧ ∀ j v, j < 11 → (Y3 rv (l.getD k pass0, ps.getD k (undef, undef)))[j]? = some v → w.cell? ⟨b, off + k * 11 + j, none⟩ = some v := by
 have hz : (l.zip ps).length = l.length := by simp [hps]
 have hl : n * 11 = l.length * 11 := by rw [← hr.len, flat_len (QC4 rv), hz]
 obtain ⟨b, off, rfl, hb, hc⟩ := hr.at_ (by omega)
 have e1 : l.getD k pass0 = l[k] := by simp [hk]
 have e2 : ps.getD k (undef, undef) = ps[k]'(by omega) := by simp [show k < ps.length by omega]
 refine ⟨b, off, rfl, hb, by omega, fun j v hj hv => ?_⟩
 have g := flat_get (QC4 rv) (l.zip ps) k (by omega) j hj
 rw [List.getElem_zip, ← e1, ← e2, hv] at g;rw [Nat.add_assoc]
 exact hc (k * 11 + j) _ g
/-- the program's state: nothing at the start -/
def plUp (rv : River) (sides : List (List Bd)) (l : List Pass) (j : Nat) : Shal := if j = 0 then ⟨0, 0, 0, 0⟩ else shUp rv sides l j
def plIn (rv : River) (sides : List (List Bd)) (l : List Pass) (j n : Nat) : Sh := if j = 0 ∧ n = 0 then ⟨0, 0, 0, 0⟩ else shIn (depthAt rv sides (l.getD j pass0).place) j (l.getD j pass0).hours.lo ⟨(shUp rv sides l j).lo, (shUp rv sides l j).pass, (shUp rv sides l j).hour, 0⟩ n
section
variable {rv : River} {sides : List (List Bd)} {l : List Pass} {j n : Nat}
theorem QHZ : plIn rv sides l j 0 = ⟨(plUp rv sides l j).lo, (plUp rv sides l j).pass, (plUp rv sides l j).hour, 0⟩ := by
 by_cases h : j = 0
 ·simp [plIn, plUp, h]
 ·simp [plIn, plUp, h, shIn]
theorem QF_ (h : j = 0) (hd : (depthAt rv sides (l.getD j pass0).place (l.getD j pass0).hours.lo).lo < 1000000) : plIn rv sides l j (0 + 1) = ⟨(depthAt rv sides (l.getD j pass0).place (l.getD j pass0).hours.lo).lo, (j : Nat), (l.getD j pass0).hours.lo, max 0 (depthAt rv sides (l.getD j pass0).place (l.getD j pass0).hours.lo).hi⟩ := by
 subst h;rw [plIn, if_neg (by simp), shIn, QB7]
 simp only [shIn, shUp, Int.ofNat_zero, Int.natCast_zero, Int.add_zero] at *
 rw [if_pos hd]
theorem QHa (h : ¬(j = 0 ∧ n = 0)) : plIn rv sides l j (n + 1) = QB7 j ((l.getD j pass0).hours.lo + n) (depthAt rv sides (l.getD j pass0).place ((l.getD j pass0).hours.lo + n)) (plIn rv sides l j n) := by
 rw [plIn, if_neg (by simp), plIn, if_neg h, shIn]
theorem QHY (hn : 0 < hoursN (l.getD j pass0).hours) : plUp rv sides l (j + 1) = ⟨(plIn rv sides l j (hoursN (l.getD j pass0).hours)).lo, min (shUp rv sides l j).hi (plIn rv sides l j (hoursN (l.getD j pass0).hours)).most, (plIn rv sides l j (hoursN (l.getD j pass0).hours)).pass, (plIn rv sides l j (hoursN (l.getD j pass0).hours)).hour⟩ := by
 rw [plUp, if_neg (by simp), shUp, QF2, plIn, if_neg (by omega)]
end
theorem Stream.lt_of {w : World} {base g : Nat} {v u vf : Value} {fs : List Value} {F : List (List Bd)} (h : Stream w base g v u vf fs F) : g < w.heap.size ∧ (∀ k, vf.ownBlock = some k → k < w.heap.size) ∧ ∀ x ∈ fs, ∀ k, x.ownBlock = some k → k < w.heap.size :=
 ⟨h.blk.lt, fun k hk => (h.rows.own.lt k hk).2, fun x hx k hk => by
  obtain ⟨i, hi, e⟩ := List.getElem_of_mem hx;have h2 := h.rows.each i (by rw [← h.rows.len]; exact hi)
  rw [show fs.getD i undef = x by simp [hi, e]] at h2
  exact (h2.lt k hk).2⟩
theorem Stream.keepB {w w' : World} {base g C : Nat} {v u vf : Value} {fs : List Value} {F : List (List Bd)} (h : Stream w base g v u vf fs F) (hb : Below C w w') (hlt : g < C ∧ (∀ k, vf.ownBlock = some k → k < C) ∧ ∀ x ∈ fs, ∀ k, x.ownBlock = some k → k < C) : Stream w' base g v u vf fs F :=
 ⟨h.blk.below hb hlt.1, h.rows.keepB hb hlt.2.1 fun j hj k hk => hlt.2.2 _ (getD_mem (by rw [h.rows.len]; exact hj)) k hk⟩
theorem QJz {rv : River} {sides : List (List Bd)} {l : List Pass} (hO : StartOk rv sides) (hI : ∀ j, j < l.length → QAT (placesOf rv.reaches) ((sides.getD 0 []).length : Nat) (l.getD j pass0)) {j : Nat} (hj : j < l.length) : 0 ≤ (plIn rv sides l j (hoursN (l.getD j pass0).hours)).most ∧ (plIn rv sides l j (hoursN (l.getD j pass0).hours)).most ≤ 30000 := by
 obtain ⟨hp, hh⟩ := hI j hj;have hp := inB_iff.1 hp;have hh := bdOk_iff.1 hh;have hn := QCE hh.2.1;have hub := QCc hO hI (j := j) (by omega)
 rw [plIn, if_neg (by omega)]
 exact (QGf (fun m hm => by
  have := QDb hO (p := (l.getD j pass0).place) (t := (l.getD j pass0).hours.lo + m) (by omega) (by omega) (by omega) (by omega)
  omega) hub.1 (by simp)).2.1
set_option maxHeartbeats 8000000 in
set_option maxRecDepth 100000 in
theorem QFB (rv : River) (sides : List (List Bd)) (v u s : Value) (vs ss : List Value) (l : List Pass) (vl : Value) (w : World) (B : Nat) (hr : RdRiver w B v u rv vs) (hs : RdSides w B s sides ss) (hB : B ≤ w.heap.size) (hw : Rd w B 3 vl l.length (passesC l)) (hl : rv.reaches.length ≤ 1048576) (hl2 : rv.shoals.length ≤ 1048576) (hcv : CurvesB rv.reaches) (hl3 : sides.length ≤ 1048576) (hsb : SidesB sides) :
  Calls Try.prog 56 #[.agg #[v, u], s, vl] w fun e w' => e = .returned (.tuple #[.agg #[.int .i64 (Yv rv sides l).lo, .int .i64 (Yv rv sides l).hi], .int .i64 (Yv rv sides l).pass, .int .i64 (Yv rv sides l).hour, .int .i64 (Yg rv sides l)]) ∧ Below w.heap.size w w' := by
 obtain ⟨Aw, cw, rfl, _⟩ := hw.shape;obtain ⟨A, c, rfl, _⟩ := hr.reaches.shape;obtain ⟨A', c', rfl, _⟩ := hr.shoals.shape;obtain ⟨D, d, rfl, _⟩ := hs.rd.shape;have hbw := Below.refl w.heap.size w;refine EC.enter 137 Try.func56 rfl rfl rfl (EC.seq (EC.region (EL.newP (QKu rfl) rfl ?_)));intro g1 w1 q1 hb1 hg1 hl1;have bhbw_1 := Nat.le_trans hbw.size hg1;replace hbw := bo_ hbw hb1;clear hb1 hg1 hl1;refine EL.newP QAO rfl ?_;intro g2 w2 q2 hb2 hg2 hl2;have n1_2 := q1.na hg2;have bhbw_2 := Nat.le_trans hbw.size hg2;replace q1 := q1.bl hb2;replace hbw := bo_ hbw hb2;clear hb2 hg2 hl2;refine EL.as rfl rfl (EL.as rfl rfl (EL.as rfl rfl (EL.nil (EX.seq (EC.seq (EC.region (EL.val (QFV rfl (q1.at (j := 0) rfl) (q1.at (j := 1) rfl)) rfl (EL.mv rfl rfl ?_))))))))
 by_cases hst : startErr rv sides = 0
 ·
  obtain ⟨hok, hO⟩ := startErr_ok hst;have hR_ := riverB_ok hok;have hpl := hR_.places;have hhr := hO.hours;have lo6 := q2.lt;have lo3 := q1.lt;refine EL.call (cA2 cF48 rfl rfl) rfl (QJ1 rv sides _ _ _ vs ss _ B (hr.below (hbw.mono hB)) (hs.below (hbw.mono hB)) (Nat.le_trans hB hbw.size) hl hl2 hcv hl3 hsb hst) ?_
  rintro e w3 ⟨⟨g, vf, fs, rfl, hge_, _, hT⟩, hc3⟩
  refine ⟨_, rfl, ?_⟩;replace q1 := q1.bl hc3;replace q2 := q2.bl hc3;replace hbw := bo_ hbw hc3;clear hc3;have hT6 := hT.off_lt (k := g2) (by omega)
  have hT3 := hT.off_lt (k := g1) (by omega)
  refine EL.mv rfl rfl (EL.xt rfl rfl rfl (EL.xt rfl rfl rfl (EL.as rfl rfl (EL.as rfl rfl (EL.nil (EX.seq (EC.seq (EC.block (EC.seq ?_)))))))));refine EC.region (EL.mv rfl rfl ?_);refine EL.val (Zq rfl rfl (by first | assumption | exact decide_eq_false (by omega))) rfl ?_
  refine EL.as rfl rfl (EL.nil (EX.seq (EC.no rfl (EC.seq (EC.region (EL.mv rfl rfl (EL.val (QFR rfl) rfl ?_)))))))
  by_cases h0 : l.length = 0
  ·
   obtain ⟨hve, hvr⟩ := QCb hst (QKf h0) (by omega)
   refine EL.val (Zg rfl rfl (by first | assumption | exact decide_eq_true (by omega))) rfl ?_
   refine EL.as rfl rfl (EL.nil (EX.seq (EC.yes rfl (EC.seq (EC.region (EL.val (Zp rfl (q2.at (j := 0) rfl) (q2.at (j := 1) rfl)) rfl (EL.store rfl rfl q2 Z7 rfl rfl rfl rfl ?_)))))));intro w4 hq4 hg4;replace q1 := q1.gr hg4 n1_2;replace hT := hT.keepOff hT6 hg4;replace hbw := ZC hbw hg4 bhbw_2;replace q2 := hq4;clear hg4 hq4;refine EL.as rfl rfl (EL.as rfl rfl (EL.as rfl rfl (EL.nil (EX.seq (EC.ret (EX.blk_ret (EX.seq_ret ?_)))))))
   exact EX.done (QD0 rfl rfl rfl rfl rfl (QAK (q2.at rfl) (q2.at rfl))) ⟨by rw [hve, hvr] <;> rfl, hbw⟩
  ·
   refine EL.val (Zg rfl rfl (by first | assumption | exact decide_eq_false (by omega))) rfl ?_
   refine EL.as rfl rfl (EL.nil (EX.seq (EC.no rfl (EC.seq (EC.region (EL.mv rfl rfl (EL.val (QFR rfl) rfl ?_)))))));have lo6S := q2.lt;have lo3S := q1.lt;have hwS := hbw.size;have hTlt := hT.lt_of
   by_cases h60 : 60 < l.length
   ·
    obtain ⟨hve, hvr⟩ := QCb hst (QKe h60) (by omega)
    refine EL.val (YP rfl rfl (by first | assumption | exact decide_eq_true (by omega))) rfl ?_
    refine EL.as rfl rfl (EL.nil (EX.seq (EC.yes rfl (EC.seq (EC.region (EL.val (Zp rfl (q2.at (j := 0) rfl) (q2.at (j := 1) rfl)) rfl (EL.store rfl rfl q2 Z7 rfl rfl rfl rfl ?_)))))));intro w5 hq5 hg5;replace q1 := q1.gr hg5 n1_2;replace hT := hT.keepOff hT6 hg5;replace hbw := ZC hbw hg5 bhbw_2;replace q2 := hq5;clear hg5 hq5;refine EL.as rfl rfl (EL.as rfl rfl (EL.as rfl rfl (EL.nil (EX.seq (EC.ret (EX.blk_ret (EX.seq_ret ?_)))))))
    exact EX.done (QD0 rfl rfl rfl rfl rfl (QAK (q2.at rfl) (q2.at rfl))) ⟨by rw [hve, hvr] <;> rfl, hbw⟩
   ·
    refine EL.val (YP rfl rfl (by first | assumption | exact decide_eq_false (by omega))) rfl ?_
    refine EL.as rfl rfl (EL.nil (EX.seq (EC.no rfl (EC.skip (EX.blk (EX.seq (EC.seq (EC.region (EL.as rfl rfl ?_)))))))));refine EL.nil (EX.seq (EC.seq (EC.seq (EC.region (EL.mv rfl rfl (EL.val (QFR rfl) rfl (EL.mv rfl rfl (EL.nil (EX.seq ?_)))))))));refine EC.block ?_;have hsz0 := hbw.size;have hbase : w3.heap.size ≤ w3.heap.size := Nat.le_refl _;refine EC.loopD [7, 8, 9, 11, 13, 14, 15, 44, 45, 46, 47, 48, 49, 50, 51, 52, 53, 54, 55, 56, 57, 58, 59, 60, 61, 62, 63, 64, 65, 66, 67, 68, 69, 70, 71, 72, 73] (fun x : Nat × Value × List (Value × Value) => [(44, .int .i64 (x.1 : Nat)), (11, x.2.1), (7, .int .i64 0), (8, .int .i64 0)]) (fun x W => x.1 ≤ l.length ∧ x.2.2.length = x.1 ∧ (∀ j, j < x.1 → QAT (placesOf rv.reaches) ((sides.getD 0 []).length : Nat) (l.getD j pass0)) ∧ (∀ j, j < x.1 → ∃ A n c, (x.2.2.getD j (undef, undef)).1 = .slice A n c) ∧ Rows W w3.heap.size 138 11 x.2.1 x.1 (((l.take x.1).zip x.2.2).flatMap (Y3 rv)) 100 6 (x.2.2.map Prod.snd) (YK rv (l.take x.1)) ∧ w3.heap.size ≤ W.heap.size ∧ Stream W (g + 1) g _ _ vf fs (flowsUp rv.reaches sides sides.length) ∧ Blk W g2 25 #[.int .i64 0, .int .i64 0] ∧ Blk W g1 49 #[.slice A rv.reaches.length c, .slice A' rv.shoals.length c'] ∧ Below w.heap.size w W) (fun x => l.length - x.1) (0, .slice none 0 0, []) ⟨Nat.zero_le _, rfl, fun j hj => absurd hj (Nat.not_lt_zero _), fun j hj => absurd hj (Nat.not_lt_zero _), Rows.start (own_nil _ _ _ _), hbase, hT, q2, q1, hbw⟩ ⟨rfl, rfl, rfl, rfl, trivial⟩ ?_
    clear hT q2 q1 hbw
    rintro ⟨i, vo, ps⟩ wr ⟨hi, hps, hI, hcf, hR, hbo, hT, q2, q1, hbw⟩
    simp only at hi hR hps hI hcf
    by_cases hlt : i < l.length
    ·
     have hbr := Below.refl wr.heap.size wr;obtain ⟨bc, oc, rfl, _, cc⟩ := Yx l i hlt _ _ _ _ _ hw;obtain ⟨y, ey⟩ : ∃ y, y = l.getD i pass0 := ⟨_, rfl⟩;rw [← ey] at cc;refine EC.seq (EC.region ?_);refine EL.val (ZO rfl rfl (by first | assumption | exact decide_eq_true (by omega))) rfl ?_
     refine EL.nil (EX.seq (EC.seq (EC.yes rfl (EC.skip (EX.seq (EC.seq (EC.block (EC.seq (EC.region ?_)))))))));refine EL.val (QD6 rfl rfl hlt) rfl (EL.val (QKk rfl (ZD hbw cc.c0) (ZD hbw cc.c1) (ZD hbw cc.c2)) rfl (EL.newP QKv rfl ?_));intro g6 w6 q6 hb6 hg6 hl6;have n2_6 := q2.na hg6;have n1_6 := q1.na hg6;have bhbw_6 := Nat.le_trans hbw.size hg6;have bhbr_6 := Nat.le_trans hbr.size hg6;have hT_6 := hT.off_ge hg6;replace q2 := q2.bl hb6;replace q1 := q1.bl hb6;replace hT := hT.below hb6;replace hbw := bo_ hbw hb6;replace hbr := bo_ hbr hb6;clear hb6 hg6 hl6;refine EL.store rfl rfl q6 QKi rfl rfl rfl rfl ?_;intro w7 hq7 hg7;replace q2 := q2.gr hg7 n2_6;replace q1 := q1.gr hg7 n1_6;replace hT := hT.keepOff hT_6 hg7;replace hbw := ZC hbw hg7 bhbw_6;replace hbr := ZC hbr hg7 bhbr_6;replace q6 := hq7;clear hg7 hq7;refine EL.nil (EX.seq (EC.seq (EC.region (EL.val (QFV rfl (q1.at (j := 0) rfl) (q1.at (j := 1) rfl)) rfl (EL.val (QKF rfl) rfl (EL.val (ld_3 rfl (q6.at (j := 0) rfl)) rfl ?_))))))
     cases hp : inB 0 (placesOf rv.reaches - 1) y.place
     ·
      have hce : Yu (placesOf rv.reaches) ((sides.getD 0 []).length : Nat) l = 7 := by rw [QEG h0 h60]; exact QHd hlt hI (by rw [← ey]; exact hp)
      obtain ⟨hve, hvr⟩ := QCb hst hce (by omega)
      refine EL.call (cA2 cF71 rfl rfl) rfl (QJQ rv _ _ vs y.place _ B (hr.below (hbw.mono hB)) (Nat.le_trans hB hbw.size) hok hp) ?_
      rintro e w8 ⟨rfl, hc8⟩
      refine ⟨_, rfl, ?_⟩;replace q2 := q2.bl hc8;replace q1 := q1.bl hc8;replace q6 := q6.bl hc8;replace hT := hT.below hc8;replace hbw := bo_ hbw hc8;replace hbr := bo_ hbr hc8;clear hc8;refine EL.mv rfl rfl (EL.xt rfl rfl rfl (EL.xt rfl rfl rfl (EL.newP QGU rfl ?_)));intro g9 w9 q9 hb9 hg9 hl9;have n2_9 := q2.na hg9;have n1_9 := q1.na hg9;have n6_9 := q6.na hg9;have bhbw_9 := Nat.le_trans hbw.size hg9;have bhbr_9 := Nat.le_trans hbr.size hg9;have hT_9 := hT.off_ge hg9;replace q2 := q2.bl hb9;replace q1 := q1.bl hb9;replace q6 := q6.bl hb9;replace hT := hT.below hb9;replace hbw := bo_ hbw hb9;replace hbr := bo_ hbr hb9;clear hb9 hg9 hl9;refine EL.store rfl rfl q9 QFy rfl rfl rfl rfl ?_;intro w10 hq10 hg10;replace q2 := q2.gr hg10 n2_9;replace q1 := q1.gr hg10 n1_9;replace q6 := q6.gr hg10 n6_9;replace hT := hT.keepOff hT_9 hg10;replace hbw := ZC hbw hg10 bhbw_9;replace hbr := ZC hbr hg10 bhbr_9;replace q9 := hq10;clear hg10 hq10;refine EL.as rfl rfl (EL.nil (EX.seq (EC.seq (EC.block (EC.seq (EC.region (EL.mv rfl rfl (EL.val (ZV rfl) rfl (EL.as rfl rfl ?_)))))))));refine EL.nil (EX.seq (EC.yes rfl (EC.seq (EC.region (EL.val (Zp rfl (q2.at (j := 0) rfl) (q2.at (j := 1) rfl)) rfl (EL.store rfl rfl q2 Z7 rfl rfl rfl rfl ?_))))));intro w11 hq11 hg11;replace q1 := q1.gr hg11 n1_2;replace q6 := q6.gr hg11 n2_6.symm;replace q9 := q9.gr hg11 n2_9.symm;replace hT := hT.keepOff hT6 hg11;replace hbw := ZC hbw hg11 bhbw_2;clear hbr;replace q2 := hq11;clear hg11 hq11;refine EL.as rfl rfl (EL.as rfl rfl (EL.as rfl rfl (EL.nil (EX.seq (EC.ret (EX.blk_ret (EX.seq_ret (EX.blk_ret (EX.seq_ret ?_)))))))));refine EX.seq_ret (EX.blk_ret (EX.seq_ret ?_))
      exact EX.done (QD0 rfl rfl rfl rfl rfl (QAK (q2.at rfl) (q2.at rfl))) ⟨by rw [hve, hvr] <;> rfl, hbw⟩
     ·
      have hp_ := inB_iff.1 hp;have hszc := hbr.size;refine EL.call (cA2 cF71 rfl rfl) rfl (QKE rv _ _ vs y.place _ B (hr.below (hbw.mono hB)) (Nat.le_trans hB hbw.size) hok hp) ?_
      rintro e w12 ⟨⟨A1, n1, c1, A2, n2, c2, rfl, hsh⟩, hc12⟩
      refine ⟨_, rfl, ?_⟩;replace q2 := q2.bl hc12;replace q1 := q1.bl hc12;replace q6 := q6.bl hc12;replace hT := hT.below hc12;replace hbw := bo_ hbw hc12;replace hbr := bo_ hbr hc12;clear hc12;replace hsh := own_less hsh hszc;refine EL.mv rfl rfl (EL.xt rfl rfl rfl (EL.xt rfl rfl rfl (EL.newP QGU rfl ?_)));intro g13 w13 q13 hb13 hg13 hl13;have n2_13 := q2.na hg13;have n1_13 := q1.na hg13;have n6_13 := q6.na hg13;have bhbw_13 := Nat.le_trans hbw.size hg13;have bhbr_13 := Nat.le_trans hbr.size hg13;have hT_13 := hT.off_ge hg13;replace q2 := q2.bl hb13;replace q1 := q1.bl hb13;replace q6 := q6.bl hb13;replace hT := hT.below hb13;replace hsh := own_below hsh hb13 (Nat.le_refl _);replace hbw := bo_ hbw hb13;replace hbr := bo_ hbr hb13;clear hb13 hg13 hl13;refine EL.store rfl rfl q13 QFy rfl rfl rfl rfl ?_;intro w14 hq14 hg14;replace q2 := q2.gr hg14 n2_13;replace q1 := q1.gr hg14 n1_13;replace q6 := q6.gr hg14 n6_13;replace hT := hT.keepOff hT_13 hg14;replace hsh := ZF hsh q13 rfl hg14;replace hbw := ZC hbw hg14 bhbw_13;replace hbr := ZC hbr hg14 bhbr_13;replace q13 := hq14;clear hg14 hq14;refine EL.as rfl rfl (EL.nil (EX.seq (EC.seq (EC.block (EC.seq (EC.region (EL.mv rfl rfl (EL.val (ZV rfl) rfl (EL.as rfl rfl ?_)))))))));refine EL.nil (EX.seq (EC.no rfl (EC.seq ?_)))
      cases hv : bdOk 0 (((sides.getD 0 []).length : Nat) - 1 : Int) y.hours
      ·
       have hce : Yu (placesOf rv.reaches) ((sides.getD 0 []).length : Nat) l = 3 := by rw [QEG h0 h60]; exact QHe hlt hI (by rw [← ey]; exact hp) (by rw [← ey]; exact hv)
       obtain ⟨hve, hvr⟩ := QCb hst hce (by omega)
       have lt_2 := q2.lt;have lt_1 := q1.lt;have lt_6 := q6.lt;have lt_13 := q13.lt;refine EC.regionP [[], [0], [0, 1], [], [3], [3, 4], [0, 1, 2, 3, 4, 5], [0, 1, 2, 3, 4, 5, 6], [0, 1, 2, 3, 4, 5, 6, 7]] 9 [] (phi (fun i_ r => match i_ with | 0 => r 0 = .pointer (some ⟨g, 0, none⟩) | 1 => r 1 = .int .i64 ((sides.getD 0 []).length : Nat) | 2 => r 2 = .int .i64 (((sides.getD 0 []).length : Nat) - 1 : Int) | 3 => r 3 = .pointer (some ⟨g6, 1, none⟩) | 4 => r 4 = .agg #[.int .i64 y.hours.lo, .int .i64 y.hours.hi] | 6 => r 6 = .bool false | 7 => r 7 = .bool true | 8 => r 8 = .bool true | _ => True) [(5, fun r w_ => ∃ g_, r 5 = .slice (some ⟨g_, 0, none⟩) 1 1 ∧ Blk w_ g_ 25 #[.int .i64 y.hours.lo, .int .i64 y.hours.hi] ∧ w14.heap.size ≤ g_)]) (by kernel_rfl) rfl rfl (ZT Zw (ZY)) (fun i_ hi_ => ?_) ?_
       ·match i_, hi_ with
        | 0, _ =>
         intro val w1 a hb ha hd;have ha := ha.s0 (d := 10) rfl
         exact ZB ha rfl rfl (ZH rfl) rfl rfl
        | 1, _ =>
         intro val w1 a hb ha hd;have e0 : val 0 = _ := hd 0 (ZA.1 rfl);have ha := ha.s1 (d := 60) rfl e0;refine Zf ha rfl rfl (cA1 cF73 rfl) (QD7 (QB6 hO (hT.below hb) (hr.below ((Below.on hbw hb hbw.size).mono hB)) (Nat.le_trans hB (Below.on hbw hb hbw.size).size))) rfl ?_
         rintro e w' ⟨rfl, hb'⟩
         exact ⟨_, rfl, hb', rfl⟩
        | 2, _ =>
         intro val w1 a hb ha hd;have e1 : val 1 = _ := hd 1 (ZA.1 rfl);have ha := ha.s1 (d := 61) rfl e1
         exact ZB ha rfl rfl (Z4 rfl rfl (by first | assumption | exact IntWalk.i64_in _ ⟨by omega, by omega⟩)) rfl rfl
        | 3, _ =>
         intro val w1 a hb ha hd;have ha := ha.s0 (d := 13) rfl
         exact ZB ha rfl rfl (Yk rfl) rfl rfl
        | 4, _ =>
         intro val w1 a hb ha hd;have e3 : val 3 = _ := hd 3 (ZA.1 rfl);have ha := ha.s1 (d := 63) rfl e3
         exact ZB ha rfl rfl (Zp rfl ((q6.below hb q6.lt).at (j := 1) rfl) ((q6.below hb q6.lt).at (j := 2) rfl)) rfl rfl
        | 5, _ =>
         intro val w1 a hb ha hd;have e4 : val 4 = _ := hd 4 (ZA.1 rfl);have ha := ha.s1 (d := 64) rfl e4
         exact YB ha rfl rfl (QFn rfl) rfl (fun g w' hq _ hge => ⟨g, rfl, hq, Nat.le_trans hb.size hge⟩)
        | 6, _ =>
         intro val w1 a hb ha hd;have e2 : val 2 = _ := hd 2 (ZA.1 rfl);obtain ⟨g5_, e5, q5_, h5_⟩ := hd 5 (ZA.1 rfl);change val 5 = _ at e5;have ha := ha.s2 (d := 65) (e := 62) rfl e5 rfl e2;refine Zf ha rfl rfl (cA3 cF69 rfl rfl rfl) (QG5 y.hours 0 (((sides.getD 0 []).length : Nat) - 1 : Int) false _ q5_ hv) rfl ?_
         rintro e w' ⟨rfl, hb'⟩
         exact ⟨_, rfl, hb', rfl⟩
        | 7, _ =>
         intro val w1 a hb ha hd;have e6 : val 6 = _ := hd 6 (ZA.1 rfl);have ha := ha.s1 (d := 66) rfl e6
         exact ZB ha rfl rfl (ZV rfl) rfl rfl
        | 8, _ =>
         intro val w1 a hb ha hd;have e7 : val 7 = _ := hd 7 (ZA.1 rfl);have ha := ha.s1 (d := 67) rfl e7
         exact ZB ha rfl rfl (Zh rfl) rfl rfl
        | k + 9, h => exact absurd h (by omega)
       ·intro val wR15 hb halc hd
        have e0 : val 0 = _ := hd 0 (by omega)
        have e1 : val 1 = _ := hd 1 (by omega)
        have e2 : val 2 = _ := hd 2 (by omega)
        have e3 : val 3 = _ := hd 3 (by omega)
        have e4 : val 4 = _ := hd 4 (by omega)
        obtain ⟨ga5_15, e5, qa5_15, hga5_15⟩ := hd 5 (by omega)
        change val 5 = _ at e5;change Blk wR15 ga5_15 25 #[.int .i64 y.hours.lo, .int .i64 y.hours.hi] at qa5_15;have e6 : val 6 = _ := hd 6 (by omega)
        have e7 : val 7 = _ := hd 7 (by omega)
        have e8 : val 8 = _ := hd 8 (by omega)
        refine EL.ends (cs := [_, _, _, _, _, _, _, _, _]) ⟨e0, e1, e2, e3, e4, e5, e6, e7, e8, trivial⟩ rfl ?_;replace q2 := q2.bl hb;replace q1 := q1.bl hb;replace q6 := q6.bl hb;replace q13 := q13.bl hb;replace hT := hT.below hb;replace hsh := own_below hsh hb (Nat.le_refl _);have n2_15 : g2 ≠ ga5_15 := Nat.ne_of_lt (Nat.lt_of_lt_of_le lt_2 hga5_15);have n1_15 : g1 ≠ ga5_15 := Nat.ne_of_lt (Nat.lt_of_lt_of_le lt_1 hga5_15);have n6_15 : g6 ≠ ga5_15 := Nat.ne_of_lt (Nat.lt_of_lt_of_le lt_6 hga5_15);have n13_15 : g13 ≠ ga5_15 := Nat.ne_of_lt (Nat.lt_of_lt_of_le lt_13 hga5_15);have bhbw_15 := Nat.le_trans hbw.size hga5_15;have bhbr_15 := Nat.le_trans hbr.size hga5_15;replace hbw := bo_ hbw hb;replace hbr := bo_ hbr hb;clear hb;refine EL.nil (EX.seq (EC.yes rfl (EC.seq (EC.region (EL.val (Zp rfl (q2.at (j := 0) rfl) (q2.at (j := 1) rfl)) rfl (EL.store rfl rfl q2 Z7 rfl rfl rfl rfl ?_))))));intro w16 hq16 hg16;replace q1 := q1.gr hg16 n1_2;replace q6 := q6.gr hg16 n2_6.symm;replace q13 := q13.gr hg16 n2_13.symm;replace qa5_15 := qa5_15.gr hg16 n2_15.symm;replace hT := hT.keepOff hT6 hg16;replace hsh := ZF hsh q2 rfl hg16;replace hbw := ZC hbw hg16 bhbw_2;clear hbr;replace q2 := hq16;clear hg16 hq16;refine EL.as rfl rfl (EL.as rfl rfl (EL.as rfl rfl (EL.nil (EX.seq (EC.ret (EX.blk_ret (EX.seq_ret (EX.blk_ret (EX.seq_ret ?_)))))))));refine EX.seq_ret (EX.blk_ret (EX.seq_ret ?_))
        exact EX.done (QD0 rfl rfl rfl rfl rfl (QAK (q2.at rfl) (q2.at rfl))) ⟨by rw [hve, hvr] <;> rfl, hbw⟩
      ·
       have hv_ := bdOk_iff.1 hv;have lt_2 := q2.lt;have lt_1 := q1.lt;have lt_6 := q6.lt;have lt_13 := q13.lt;refine EC.regionP [[], [0], [0, 1], [], [3], [3, 4], [0, 1, 2, 3, 4, 5], [0, 1, 2, 3, 4, 5, 6], [0, 1, 2, 3, 4, 5, 6, 7]] 9 [] (phi (fun i_ r => match i_ with | 0 => r 0 = .pointer (some ⟨g, 0, none⟩) | 1 => r 1 = .int .i64 ((sides.getD 0 []).length : Nat) | 2 => r 2 = .int .i64 (((sides.getD 0 []).length : Nat) - 1 : Int) | 3 => r 3 = .pointer (some ⟨g6, 1, none⟩) | 4 => r 4 = .agg #[.int .i64 y.hours.lo, .int .i64 y.hours.hi] | 6 => r 6 = .bool true | 7 => r 7 = .bool false | 8 => r 8 = .bool false | _ => True) [(5, fun r w_ => ∃ g_, r 5 = .slice (some ⟨g_, 0, none⟩) 1 1 ∧ Blk w_ g_ 25 #[.int .i64 y.hours.lo, .int .i64 y.hours.hi] ∧ w14.heap.size ≤ g_)]) (by kernel_rfl) rfl rfl (ZT Zw (ZY)) (fun i_ hi_ => ?_) ?_
       ·match i_, hi_ with
        | 0, _ =>
         intro val w1 a hb ha hd;have ha := ha.s0 (d := 10) rfl
         exact ZB ha rfl rfl (ZH rfl) rfl rfl
        | 1, _ =>
         intro val w1 a hb ha hd;have e0 : val 0 = _ := hd 0 (ZA.1 rfl);have ha := ha.s1 (d := 60) rfl e0;refine Zf ha rfl rfl (cA1 cF73 rfl) (QD7 (QB6 hO (hT.below hb) (hr.below ((Below.on hbw hb hbw.size).mono hB)) (Nat.le_trans hB (Below.on hbw hb hbw.size).size))) rfl ?_
         rintro e w' ⟨rfl, hb'⟩
         exact ⟨_, rfl, hb', rfl⟩
        | 2, _ =>
         intro val w1 a hb ha hd;have e1 : val 1 = _ := hd 1 (ZA.1 rfl);have ha := ha.s1 (d := 61) rfl e1
         exact ZB ha rfl rfl (Z4 rfl rfl (by first | assumption | exact IntWalk.i64_in _ ⟨by omega, by omega⟩)) rfl rfl
        | 3, _ =>
         intro val w1 a hb ha hd;have ha := ha.s0 (d := 13) rfl
         exact ZB ha rfl rfl (Yk rfl) rfl rfl
        | 4, _ =>
         intro val w1 a hb ha hd;have e3 : val 3 = _ := hd 3 (ZA.1 rfl);have ha := ha.s1 (d := 63) rfl e3
         exact ZB ha rfl rfl (Zp rfl ((q6.below hb q6.lt).at (j := 1) rfl) ((q6.below hb q6.lt).at (j := 2) rfl)) rfl rfl
        | 5, _ =>
         intro val w1 a hb ha hd;have e4 : val 4 = _ := hd 4 (ZA.1 rfl);have ha := ha.s1 (d := 64) rfl e4
         exact YB ha rfl rfl (QFn rfl) rfl (fun g w' hq _ hge => ⟨g, rfl, hq, Nat.le_trans hb.size hge⟩)
        | 6, _ =>
         intro val w1 a hb ha hd;have e2 : val 2 = _ := hd 2 (ZA.1 rfl);obtain ⟨g5_, e5, q5_, h5_⟩ := hd 5 (ZA.1 rfl);change val 5 = _ at e5;have ha := ha.s2 (d := 65) (e := 62) rfl e5 rfl e2;refine Zf ha rfl rfl (cA3 cF69 rfl rfl rfl) (QG5 y.hours 0 (((sides.getD 0 []).length : Nat) - 1 : Int) true _ q5_ hv) rfl ?_
         rintro e w' ⟨rfl, hb'⟩
         exact ⟨_, rfl, hb', rfl⟩
        | 7, _ =>
         intro val w1 a hb ha hd;have e6 : val 6 = _ := hd 6 (ZA.1 rfl);have ha := ha.s1 (d := 66) rfl e6
         exact ZB ha rfl rfl (ZV rfl) rfl rfl
        | 8, _ =>
         intro val w1 a hb ha hd;have e7 : val 7 = _ := hd 7 (ZA.1 rfl);have ha := ha.s1 (d := 67) rfl e7
         exact ZB ha rfl rfl (Zh rfl) rfl rfl
        | k + 9, h => exact absurd h (by omega)
       ·intro val wR15 hb halc hd
        have e0 : val 0 = _ := hd 0 (by omega)
        have e1 : val 1 = _ := hd 1 (by omega)
        have e2 : val 2 = _ := hd 2 (by omega)
        have e3 : val 3 = _ := hd 3 (by omega)
        have e4 : val 4 = _ := hd 4 (by omega)
        obtain ⟨ga5_15, e5, qa5_15, hga5_15⟩ := hd 5 (by omega)
        change val 5 = _ at e5;change Blk wR15 ga5_15 25 #[.int .i64 y.hours.lo, .int .i64 y.hours.hi] at qa5_15;have e6 : val 6 = _ := hd 6 (by omega)
        have e7 : val 7 = _ := hd 7 (by omega)
        have e8 : val 8 = _ := hd 8 (by omega)
        refine EL.ends (cs := [_, _, _, _, _, _, _, _, _]) ⟨e0, e1, e2, e3, e4, e5, e6, e7, e8, trivial⟩ rfl ?_;replace q2 := q2.bl hb;replace q1 := q1.bl hb;replace q6 := q6.bl hb;replace q13 := q13.bl hb;replace hT := hT.below hb;replace hsh := own_below hsh hb (Nat.le_refl _);have n2_17 : g2 ≠ ga5_15 := Nat.ne_of_lt (Nat.lt_of_lt_of_le lt_2 hga5_15);have n1_17 : g1 ≠ ga5_15 := Nat.ne_of_lt (Nat.lt_of_lt_of_le lt_1 hga5_15);have n6_17 : g6 ≠ ga5_15 := Nat.ne_of_lt (Nat.lt_of_lt_of_le lt_6 hga5_15);have n13_17 : g13 ≠ ga5_15 := Nat.ne_of_lt (Nat.lt_of_lt_of_le lt_13 hga5_15);have bhbw_17 := Nat.le_trans hbw.size hga5_15;have bhbr_17 := Nat.le_trans hbr.size hga5_15;replace hbw := bo_ hbw hb;replace hbr := bo_ hbr hb;clear hb;refine EL.nil (EX.seq (EC.no rfl (EC.skip (EX.blk (EX.seq (EC.region (EL.mv rfl rfl (EL.val (QEe rfl (q13.at (j := 0) rfl) (q13.at (j := 1) rfl) (q13.at (j := 2) rfl) (q13.at (j := 3) rfl) (q13.at (j := 4) rfl) (q13.at (j := 5) rfl) (q13.at (j := 6) rfl) (q13.at (j := 7) rfl) (q13.at (j := 8) rfl) (q13.at (j := 9) rfl) (q13.at (j := 10) rfl)) rfl (EL.newS (QJX rfl) rfl ?_)))))))));intro g18 w18 q18 hb18 hg18 hl18;have n2_18 := q2.na hg18;have n1_18 := q1.na hg18;have n6_18 := q6.na hg18;have n13_18 := q13.na hg18;have n17_18 := qa5_15.na hg18;have bhbw_18 := Nat.le_trans hbw.size hg18;have bhbr_18 := Nat.le_trans hbr.size hg18;have hT_18 := hT.off_ge hg18;replace q2 := q2.bl hb18;replace q1 := q1.bl hb18;replace q6 := q6.bl hb18;replace q13 := q13.bl hb18;replace qa5_15 := qa5_15.bl hb18;replace hT := hT.below hb18;replace hsh := own_below hsh hb18 (Nat.le_refl _);replace hbw := bo_ hbw hb18;replace hbr := bo_ hbr hb18;clear hb18 hg18 hl18;have lo_2 := q2.lt;have lo_1 := q1.lt;have hR2 := hR.below hbr;have hap := QFq hR.own (fun g h => (hsh.lt g h).1)
        have ho3 := own_less hsh hbo;have hsz_ := hbr.size;refine EL.push QF9 rfl rfl hR2.own (QB9 (l := Y3 rv (y, .slice A1 n1 c1, .slice A2 n2 c2)) q18 rfl) (by simp [Y3, placeV, Value.oneCell']) (by omega) rfl (Nat.le_trans hbo hsz_) rfl ?_
        intro v' w19 ho4 hgr19 hb19 hat19;have hR3 := hR2.push0 ho3 hap ho4 hgr19 hat19;have hbo2 := Nat.le_trans (Nat.le_trans hbo hsz_) hb19.size;replace q2 := q2.below hb19 (by omega)
        replace q1 := q1.below hb19 (by omega)
        replace hbw := hbw.trans (hb19.mono hwS);have hT2 : Stream w19 (g + 1) g _ _ vf fs (flowsUp rv.reaches sides sides.length) := hT.keepB hb19 hTlt;refine EL.as rfl rfl (EL.nil (EX.blk (EX.seq (EC.region ?_))));refine EL.val (ZM rfl rfl (by first | assumption | exact IntWalk.i64_in _ ⟨by omega, by omega⟩)) rfl ?_
        refine EL.mv rfl rfl (EL.nil ?_);refine EX.roundD (i + 1, v', ps ++ [(.slice A1 n1 c1, .slice A2 n2 c2)]) ⟨rfl, rfl, rfl, rfl, trivial⟩ (by repeat first | with_reducible exact .refl _ | refine sp_ rfl ?_ | exact .refl _ | refine sd_ rfl ?_ | refine sn_ ?_) ⟨hlt, by simp [hps], fun j hj => ?_, fun j hj => ?_, by rw [QCz hlt, QFI hlt hps, ← ey, List.map_append]; exact hR3, hbo2, hT2, q2, q1, hbw⟩ (by simp only; omega)
        ·rcases Nat.lt_or_ge j i with h | h
         ·exact hI j h
         ·obtain rfl : j = i := by simp only at hj; omega
          rw [← ey]
          exact ⟨hp, hv⟩
        ·simp only
         rw [getD_snoc, hps]
         rcases Nat.lt_or_ge j i with h | h
         ·rw [if_pos h]; exact hcf j h
         ·obtain rfl : j = i := by simp only at hj; omega
          rw [if_neg (by omega), if_pos rfl]
          exact ⟨_, _, _, rfl⟩
    ·
     obtain rfl : i = l.length := by omega
     rw [List.take_length] at hR;have hce : Yu (placesOf rv.reaches) ((sides.getD 0 []).length : Nat) l = 0 := by rw [QEG h0 h60]; exact QC5 hI
     obtain ⟨hve, hvr⟩ := QLA hst hce;obtain ⟨Ao, co, rfl, _⟩ := (Rd.of_own hR.own).shape;have hR6 := hR.off_lt (g := g2) lo6S;have hR3 := hR.off_lt (g := g1) lo3S;refine EC.seq (EC.region ?_);refine EL.val (ZO rfl rfl (by first | assumption | exact decide_eq_false (by omega))) rfl ?_
     refine EL.nil (EX.seq (EC.seq (EC.no rfl (EC.exit (EX.seq_exit (EX.seq_exit (EX.blk_here (EX.seq (EC.seq ?_)))))))));refine EC.seq (EC.region (EL.mv rfl rfl (EL.val (QFR rfl) rfl (EL.mv rfl rfl (EL.nil (EX.seq (EC.block ?_)))))));refine EC.loopD [7, 8, 16, 17, 18, 19, 20, 76, 77, 78, 79, 80, 81, 82, 83, 84, 85, 86, 87, 88, 89, 90, 91, 92, 93, 94, 95, 96, 97, 98, 99, 100, 101, 102, 103, 104, 105, 106, 107, 108, 109, 110, 111, 112, 113, 114, 115, 116, 117, 118, 119, 120, 121, 122, 123, 124, 125, 126, 127, 128, 129, 130, 131, 132, 133] (fun x : Nat × Shal => [(76, .int .i64 (x.1 : Nat)), (7, .int .i64 x.2.pass), (8, .int .i64 x.2.hour)]) (fun x W => x.1 ≤ l.length ∧ x.2 = plUp rv sides l x.1 ∧ Rows W w3.heap.size 138 11 (.slice Ao l.length co) l.length ((l.zip ps).flatMap (Y3 rv)) 100 6 (ps.map Prod.snd) (YK rv l) ∧ Stream W (g + 1) g _ _ vf fs (flowsUp rv.reaches sides sides.length) ∧ Blk W g2 25 #[.int .i64 x.2.lo, .int .i64 x.2.hi] ∧ Below w.heap.size w W) (fun x => l.length - x.1) (0, ⟨0, 0, 0, 0⟩) ⟨Nat.zero_le _, rfl, hR, hT, q2, hbw⟩ ⟨rfl, rfl, rfl, trivial⟩ ?_
     clear hT hR q2 hbw
     rintro ⟨i, st⟩ wr ⟨hi, hst2, hR, hT, q2, hbw⟩
     simp only at hi hst2
     by_cases hlt : i < l.length
     ·
      obtain ⟨bc, oc, rfl, _, cc⟩ := Yx l i hlt _ _ _ _ _ hw;obtain ⟨hp, hv⟩ := hI i hlt;have hp_ := inB_iff.1 hp;have hv_ := bdOk_iff.1 hv;have hN := QCE hv_.2.1;obtain ⟨y, ey⟩ : ∃ y, y = l.getD i pass0 := ⟨_, rfl⟩;have hub := QCc hO hI (j := i) (by omega)
      have hz := QHZ (rv := rv) (sides := sides) (l := l) (j := i);rw [← hst2] at hz;have hus := QHY (rv := rv) (sides := sides) (l := l) (j := i) (by omega)
      have hpc := hcf i hlt;obtain ⟨Ac_, nc_, cc_, ecv⟩ := hpc;have hin := fun n (hn : n < hoursN (l.getD i pass0).hours) => QDb hO (p := (l.getD i pass0).place) (t := (l.getD i pass0).hours.lo + (n : Nat)) (by omega) (by omega) (by omega) (by omega)
      rw [← ey] at cc hp hv hp_ hv_ hN hus hin;refine EC.seq (EC.region ?_);refine EL.val (ZO rfl rfl (by first | assumption | exact decide_eq_true (by omega))) rfl ?_
      refine EL.nil (EX.seq (EC.seq (EC.yes rfl (EC.skip (EX.seq (EC.seq (EC.block (EC.seq (EC.region ?_)))))))));refine EL.mv rfl rfl (EL.val (QD6 rfl rfl hlt) rfl (EL.val (QKk rfl (ZD hbw cc.c0) (ZD hbw cc.c1) (ZD hbw cc.c2)) rfl (EL.newP QKv rfl ?_)));intro g20 w20 q20 hb20 hg20 hl20;have n2_20 := q2.na hg20;have bhbw_20 := Nat.le_trans hbw.size hg20;have hT_20 := hT.off_ge hg20;have hR_20 := hR.off_ge hg20;replace q2 := q2.bl hb20;replace hT := hT.below hb20;replace hR := hR.below hb20;replace hbw := bo_ hbw hb20;clear hb20 hg20 hl20;refine EL.as rfl rfl (EL.store rfl rfl q20 QKi rfl rfl rfl rfl ?_);intro w21 hq21 hg21;replace q2 := q2.gr hg21 n2_20;replace hT := hT.keepOff hT_20 hg21;replace hR := hR.keepOff hR_20 hg21;replace hbw := ZC hbw hg21 bhbw_20;replace q20 := hq21;clear hg21 hq21;refine EL.nil (EX.seq (EC.seq (EC.region (EL.as rfl rfl (EL.nil (EX.seq (EC.seq (EC.seq (EC.region ?_)))))))));refine EL.val (Yk rfl) rfl (EL.val (ZS rfl) rfl (EL.val (ld_3 rfl (q20.at (j := 1) rfl)) rfl (EL.as rfl rfl (EL.nil (EX.seq (EC.block ?_))))));refine EC.loopD [7, 8, 18, 19, 20, 84, 85, 86, 87, 88, 89, 90, 91, 92, 93, 94, 95, 96, 97, 98, 99, 100, 101, 102, 103, 104, 105, 106, 107, 108, 109, 110, 111, 112, 113, 114, 115, 116, 117, 118, 119, 120, 121, 122] (fun x : Nat × Sh => [(19, .int .i64 (y.hours.lo + (x.1 : Nat))), (18, .int .i64 x.2.most), (7, .int .i64 x.2.pass), (8, .int .i64 x.2.hour)]) (fun x W => x.1 ≤ hoursN y.hours ∧ x.2 = plIn rv sides l i x.1 ∧ Rows W w3.heap.size 138 11 (.slice Ao l.length co) l.length ((l.zip ps).flatMap (Y3 rv)) 100 6 (ps.map Prod.snd) (YK rv l) ∧ Stream W (g + 1) g _ _ vf fs (flowsUp rv.reaches sides sides.length) ∧ Blk W g2 25 #[.int .i64 x.2.lo, .int .i64 st.hi] ∧ Blk W g20 85 #[.int .i64 y.place, .int .i64 y.hours.lo, .int .i64 y.hours.hi] ∧ Below w.heap.size w W) (fun x => hoursN y.hours - x.1) (0, ⟨st.lo, st.pass, st.hour, 0⟩) ⟨Nat.zero_le _, hz.symm, hR, hT, q2, q20, hbw⟩ ⟨by simp only [Int.natCast_zero, Int.add_zero]; rfl, rfl, rfl, rfl, trivial⟩ ?_
      clear hT hR q2 q20 hbw
      rintro ⟨n, s⟩ wk ⟨hn, hs, hR, hT, q2, q20, hbw⟩
      simp only at hn hs
      by_cases hnl : n < hoursN y.hours
      ·
       obtain ⟨hd1, hd2⟩ := hin n hnl;obtain ⟨bp, op_, rfl, _, hkn, cp⟩ := QFH (by rw [hps]) i hlt _ _ _ _ _ (Rd.of_own hR.own)
       have hsr := hR.each i (by simp [YK]; exact hlt)
       have e7 : (ps.map Prod.snd).getD i undef = (ps.getD i (undef, undef)).2 := by simp [show i < ps.length by omega]
       have e8 : (YK rv l).getD i (0, []) = ((shoalsAt rv.shoals (l.getD i pass0).place).length, shoalsC (shoalsAt rv.shoals (l.getD i pass0).place)) := by simp [YK, hlt]
       rw [e7, e8] at hsr;obtain ⟨As_, cs_, es, _⟩ := (Rd.of_own hsr).shape
       simp only at hsr es
       rw [es, ← ey] at hsr;have hpv : ps.getD i (undef, undef) = (.slice Ac_ nc_ cc_, .slice As_ (shoalsAt rv.shoals y.place).length cs_) := by rw [← ecv, ey, ← es]
       rw [hpv, ← ey] at cp;obtain ⟨dd, ed⟩ : ∃ d, d = depthAt rv sides y.place (y.hours.lo + (n : Nat)) := ⟨_, rfl⟩;have hsucc := fun h => QHa (rv := rv) (sides := sides) (l := l) (j := i) (n := n) h
       have hfirst := fun h => QF_ (rv := rv) (sides := sides) (l := l) (j := i) h
       rw [← ey] at hsucc hfirst;rw [← ed, ← hs] at hsucc;rw [← ed] at hd1 hd2;refine EC.seq (EC.seq (EC.region (EL.mv rfl rfl (EL.val (Yk rfl) rfl (EL.val (ZR rfl) rfl (EL.val (ld_3 rfl (q20.at (j := 2) rfl)) rfl ?_))))));refine EL.val (QAa rfl rfl (by first | assumption | exact decide_eq_true (by omega))) rfl ?_
       refine EL.nil (EX.seq (EC.yes rfl (EC.skip (EX.seq (EC.seq (EC.block (EC.seq (EC.region (EL.mv rfl rfl ?_)))))))));refine EL.mv rfl rfl (EL.mv rfl rfl (EL.val (QLL rfl rfl hlt) rfl ?_));refine EL.val (QEe rfl (cp 0 _ (by omega) rfl) (cp 1 _ (by omega) rfl) (cp 2 _ (by omega) rfl) (cp 3 _ (by omega) rfl) (cp 4 _ (by omega) rfl) (cp 5 _ (by omega) rfl) (cp 6 _ (by omega) rfl) (cp 7 _ (by omega) rfl) (cp 8 _ (by omega) rfl) (cp 9 _ (by omega) rfl) (cp 10 _ (by omega) rfl)) rfl ?_
       refine EL.mv rfl rfl ?_;refine EL.call (cA3 cF50 rfl rfl rfl) rfl (by have key := QH5 (p := y.place) (t := y.hours.lo + (n : Nat)) (A1 := Ac_) (n1 := nc_) (c1 := cc_) (QB6 hO hT (hr.below (hbw.mono hB)) (Nat.le_trans hB hbw.size)) (Nat.le_refl _) (Rd.of_own hsr) (Nat.le_refl _) hok hp (inB_iff.2 (by omega)); rw [← ed] at key; exact key) ?_
       rintro e w22 ⟨rfl, hc22⟩
       refine ⟨_, rfl, ?_⟩;replace q2 := q2.bl hc22;replace q20 := q20.bl hc22;replace hT := hT.below hc22;replace hR := hR.below hc22;replace hbw := bo_ hbw hc22;clear hc22;refine EL.newP QAO rfl ?_;intro g23 w23 q23 hb23 hg23 hl23;have n2_23 := q2.na hg23;have n20_23 := q20.na hg23;have bhbw_23 := Nat.le_trans hbw.size hg23;have hT_23 := hT.off_ge hg23;have hR_23 := hR.off_ge hg23;replace q2 := q2.bl hb23;replace q20 := q20.bl hb23;replace hT := hT.below hb23;replace hR := hR.below hb23;replace hbw := bo_ hbw hb23;clear hb23 hg23 hl23;refine EL.store rfl rfl q23 Z7 rfl rfl rfl rfl ?_;intro w24 hq24 hg24;replace q2 := q2.gr hg24 n2_23;replace q20 := q20.gr hg24 n20_23;replace hT := hT.keepOff hT_23 hg24;replace hR := hR.keepOff hR_23 hg24;replace hbw := ZC hbw hg24 bhbw_23;replace q23 := hq24;clear hg24 hq24;refine EL.nil (EX.seq (EC.seq (EC.seq (EC.region (EL.mv rfl rfl ?_)))))
       by_cases hj0 : i = 0
       ·
        refine EL.val (Zg rfl rfl (by first | assumption | exact decide_eq_true (by omega))) rfl ?_
        refine EL.mv rfl rfl (EL.mg rfl rfl rfl rfl (EL.valg rfl rfl (Yk rfl) rfl (EL.valg rfl rfl (ZS rfl) rfl (EL.valg rfl rfl (ld_3 rfl (q20.at (j := 1) rfl)) rfl ?_))))
        by_cases hn0 : n = 0
        ·
         subst hn0;have hst_ := hfirst hj0 (by rw [Int.natCast_zero, Int.add_zero] at ed; rw [← ed]; omega)
         rw [Int.natCast_zero, Int.add_zero] at ed;rw [← ed] at hst_;refine EL.valg rfl rfl (Zg rfl rfl (by first | assumption | exact decide_eq_true (by omega))) rfl ?_
         refine EL.pt rfl rfl rfl (EL.mv rfl rfl (EL.skip rfl rfl rfl rfl (EL.skip rfl rfl rfl rfl (EL.skip rfl rfl rfl rfl (EL.skip rfl rfl rfl rfl (EL.skip rfl rfl rfl rfl (EL.pt rfl rfl rfl (EL.nil (EX.seq ?_)))))))));refine EC.yes rfl (EC.region (EL.val (ZS rfl) rfl (EL.val (ld_3 rfl (q23.at (j := 0) rfl)) rfl (EL.mv rfl rfl (EL.mv rfl rfl (EL.val (ZS rfl) rfl (EL.store rfl rfl q2 sz_3 rfl rfl rfl rfl ?_)))))));intro w25 hq25 hg25;replace q20 := q20.gr hg25 n2_20.symm;replace q23 := q23.gr hg25 n2_23.symm;replace hT := hT.keepOff hT6 hg25;replace hR := hR.keepOff hR6 hg25;replace hbw := ZC hbw hg25 bhbw_2;replace q2 := hq25;clear hg25 hq25;refine EL.as rfl rfl (EL.as rfl rfl (EL.nil (EX.seq (EC.region (EL.mv rfl rfl (EL.val (ZR rfl) rfl (EL.val (ld_3 rfl (q23.at (j := 1) rfl)) rfl (EL.val (QAn rfl rfl rfl) rfl (EL.as rfl rfl ?_)))))))));refine EL.nil (EX.blk (EX.seq (EC.region (EL.mv rfl rfl ?_))));refine EL.val (ZM rfl rfl (by first | assumption | exact IntWalk.i64_in _ ⟨by omega, by omega⟩)) rfl ?_
         refine EL.as rfl rfl (EL.nil ?_);refine EX.roundD (0 + 1, ⟨dd.lo, (i : Nat), y.hours.lo + ((0 : Nat) : Int), max s.most dd.hi⟩) ⟨by rw [show y.hours.lo + ((0 + 1 : Nat) : Int) = y.hours.lo + ((0 : Nat) : Int) + 1 by omega]; rfl, rfl, rfl, rfl, trivial⟩ (by repeat first | with_reducible exact .refl _ | refine sp_ rfl ?_ | exact .refl _ | refine sd_ rfl ?_ | refine sn_ ?_) ⟨by omega, (by rw [hst_, hs, hz, Int.natCast_zero, Int.add_zero]), hR, hT, q2, q20, hbw⟩ (by simp only; omega)
        ·
         have hst_ := hsucc (by omega)
         rw [QB7] at hst_;refine EL.valg rfl rfl (Zg rfl rfl (by first | assumption | exact decide_eq_false (by omega))) rfl ?_
         refine EL.pt rfl rfl rfl (EL.mv rfl rfl (EL.valg rfl rfl (ZS rfl) rfl (EL.valg rfl rfl (ld_3 rfl (q23.at (j := 0) rfl)) rfl (EL.valg rfl rfl (ZS rfl) rfl (EL.valg rfl rfl (ld_3 rfl (q2.at (j := 0) rfl)) rfl ?_)))))
         by_cases hdl : dd.lo < s.lo
         ·
          rw [if_pos hdl] at hst_;refine EL.valg rfl rfl (ZO rfl rfl (by first | assumption | exact decide_eq_true (by omega))) rfl ?_
          refine EL.pf rfl rfl rfl (EL.nil (EX.seq (EC.yes rfl (EC.region (EL.val (ZS rfl) rfl (EL.val (ld_3 rfl (q23.at (j := 0) rfl)) rfl (EL.mv rfl rfl (EL.mv rfl rfl (EL.val (ZS rfl) rfl ?_)))))))));refine EL.store rfl rfl q2 sz_3 rfl rfl rfl rfl ?_;intro w26 hq26 hg26;replace q20 := q20.gr hg26 n2_20.symm;replace q23 := q23.gr hg26 n2_23.symm;replace hT := hT.keepOff hT6 hg26;replace hR := hR.keepOff hR6 hg26;replace hbw := ZC hbw hg26 bhbw_2;replace q2 := hq26;clear hg26 hq26;refine EL.as rfl rfl (EL.as rfl rfl (EL.nil (EX.seq (EC.region (EL.mv rfl rfl (EL.val (ZR rfl) rfl (EL.val (ld_3 rfl (q23.at (j := 1) rfl)) rfl (EL.val (QAn rfl rfl rfl) rfl (EL.as rfl rfl ?_)))))))));refine EL.nil (EX.blk (EX.seq (EC.region (EL.mv rfl rfl ?_))));refine EL.val (ZM rfl rfl (by first | assumption | exact IntWalk.i64_in _ ⟨by omega, by omega⟩)) rfl ?_
          refine EL.as rfl rfl (EL.nil ?_);refine EX.roundD (n + 1, ⟨dd.lo, (i : Nat), y.hours.lo + (n : Nat), max s.most dd.hi⟩) ⟨by rw [show y.hours.lo + ((n + 1 : Nat) : Int) = y.hours.lo + ((n : Nat) : Int) + 1 by omega]; rfl, rfl, rfl, rfl, trivial⟩ (by repeat first | with_reducible exact .refl _ | refine sp_ rfl ?_ | exact .refl _ | refine sd_ rfl ?_ | refine sn_ ?_) ⟨by omega, hst_.symm, hR, hT, q2, q20, hbw⟩ (by simp only; omega)
         ·
          rw [if_neg hdl] at hst_;refine EL.valg rfl rfl (ZO rfl rfl (by first | assumption | exact decide_eq_false (by omega))) rfl ?_
          refine EL.pf rfl rfl rfl (EL.nil (EX.seq (EC.no rfl (EC.skip (EX.seq (EC.region (EL.mv rfl rfl (EL.val (ZR rfl) rfl (EL.val (ld_3 rfl (q23.at (j := 1) rfl)) rfl ?_)))))))));refine EL.val (QAn rfl rfl rfl) rfl (EL.as rfl rfl (EL.nil (EX.blk (EX.seq (EC.region (EL.mv rfl rfl ?_))))));refine EL.val (ZM rfl rfl (by first | assumption | exact IntWalk.i64_in _ ⟨by omega, by omega⟩)) rfl ?_
          refine EL.as rfl rfl (EL.nil ?_);refine EX.roundD (n + 1, ⟨s.lo, s.pass, s.hour, max s.most dd.hi⟩) ⟨by rw [show y.hours.lo + ((n + 1 : Nat) : Int) = y.hours.lo + ((n : Nat) : Int) + 1 by omega]; rfl, rfl, rfl, rfl, trivial⟩ (by repeat first | with_reducible exact .refl _ | refine sp_ rfl ?_ | exact .refl _ | refine sd_ rfl ?_ | refine sn_ ?_) ⟨by omega, hst_.symm, hR, hT, q2, q20, hbw⟩ (by simp only; omega)
       ·
        have hst_ := hsucc (by omega)
        rw [QB7] at hst_;refine EL.val (Zg rfl rfl (by first | assumption | exact decide_eq_false (by omega))) rfl ?_
        refine EL.mv rfl rfl (EL.skip rfl rfl rfl rfl (EL.skip rfl rfl rfl rfl (EL.skip rfl rfl rfl rfl (EL.skip rfl rfl rfl rfl (EL.skip rfl rfl rfl rfl (EL.pf rfl rfl rfl (EL.mv rfl rfl (EL.valg rfl rfl (ZS rfl) rfl (EL.valg rfl rfl (ld_3 rfl (q23.at (j := 0) rfl)) rfl ?_)))))))));refine EL.valg rfl rfl (ZS rfl) rfl (EL.valg rfl rfl (ld_3 rfl (q2.at (j := 0) rfl)) rfl ?_)
        by_cases hdl : dd.lo < s.lo
        ·
         rw [if_pos hdl] at hst_;refine EL.valg rfl rfl (ZO rfl rfl (by first | assumption | exact decide_eq_true (by omega))) rfl ?_
         refine EL.pf rfl rfl rfl (EL.nil (EX.seq (EC.yes rfl (EC.region (EL.val (ZS rfl) rfl (EL.val (ld_3 rfl (q23.at (j := 0) rfl)) rfl (EL.mv rfl rfl (EL.mv rfl rfl (EL.val (ZS rfl) rfl ?_)))))))));refine EL.store rfl rfl q2 sz_3 rfl rfl rfl rfl ?_;intro w27 hq27 hg27;replace q20 := q20.gr hg27 n2_20.symm;replace q23 := q23.gr hg27 n2_23.symm;replace hT := hT.keepOff hT6 hg27;replace hR := hR.keepOff hR6 hg27;replace hbw := ZC hbw hg27 bhbw_2;replace q2 := hq27;clear hg27 hq27;refine EL.as rfl rfl (EL.as rfl rfl (EL.nil (EX.seq (EC.region (EL.mv rfl rfl (EL.val (ZR rfl) rfl (EL.val (ld_3 rfl (q23.at (j := 1) rfl)) rfl (EL.val (QAn rfl rfl rfl) rfl (EL.as rfl rfl ?_)))))))));refine EL.nil (EX.blk (EX.seq (EC.region (EL.mv rfl rfl ?_))));refine EL.val (ZM rfl rfl (by first | assumption | exact IntWalk.i64_in _ ⟨by omega, by omega⟩)) rfl ?_
         refine EL.as rfl rfl (EL.nil ?_);refine EX.roundD (n + 1, ⟨dd.lo, (i : Nat), y.hours.lo + (n : Nat), max s.most dd.hi⟩) ⟨by rw [show y.hours.lo + ((n + 1 : Nat) : Int) = y.hours.lo + ((n : Nat) : Int) + 1 by omega]; rfl, rfl, rfl, rfl, trivial⟩ (by repeat first | with_reducible exact .refl _ | refine sp_ rfl ?_ | exact .refl _ | refine sd_ rfl ?_ | refine sn_ ?_) ⟨by omega, hst_.symm, hR, hT, q2, q20, hbw⟩ (by simp only; omega)
        ·
         rw [if_neg hdl] at hst_;refine EL.valg rfl rfl (ZO rfl rfl (by first | assumption | exact decide_eq_false (by omega))) rfl ?_
         refine EL.pf rfl rfl rfl (EL.nil (EX.seq (EC.no rfl (EC.skip (EX.seq (EC.region (EL.mv rfl rfl (EL.val (ZR rfl) rfl (EL.val (ld_3 rfl (q23.at (j := 1) rfl)) rfl ?_)))))))));refine EL.val (QAn rfl rfl rfl) rfl (EL.as rfl rfl (EL.nil (EX.blk (EX.seq (EC.region (EL.mv rfl rfl ?_))))));refine EL.val (ZM rfl rfl (by first | assumption | exact IntWalk.i64_in _ ⟨by omega, by omega⟩)) rfl ?_
         refine EL.as rfl rfl (EL.nil ?_);refine EX.roundD (n + 1, ⟨s.lo, s.pass, s.hour, max s.most dd.hi⟩) ⟨by rw [show y.hours.lo + ((n + 1 : Nat) : Int) = y.hours.lo + ((n : Nat) : Int) + 1 by omega]; rfl, rfl, rfl, rfl, trivial⟩ (by repeat first | with_reducible exact .refl _ | refine sp_ rfl ?_ | exact .refl _ | refine sd_ rfl ?_ | refine sn_ ?_) ⟨by omega, hst_.symm, hR, hT, q2, q20, hbw⟩ (by simp only; omega)
      ·
       obtain rfl : n = hoursN y.hours := by omega
       rw [← hs] at hus;have hsb := QJz hO hI (j := i) hlt;rw [← ey, ← hs] at hsb;refine EC.seq (EC.seq (EC.region (EL.mv rfl rfl (EL.val (Yk rfl) rfl (EL.val (ZR rfl) rfl (EL.val (ld_3 rfl (q20.at (j := 2) rfl)) rfl ?_))))));refine EL.val (QAa rfl rfl (by first | assumption | exact decide_eq_false (by omega))) rfl ?_
       refine EL.nil (EX.seq (EC.no rfl (EC.exit (EX.seq_exit (EX.seq_exit (EX.blk_here (EX.seq (EC.seq (EC.region ?_)))))))));refine EL.mv rfl rfl ?_
       by_cases hj0 : i = 0
       ·
        have hmin : min (shUp rv sides l i).hi s.most = s.most := by subst hj0; simp only [shUp]; omega
        refine EL.val (Zg rfl rfl (by first | assumption | exact decide_eq_true (by omega))) rfl ?_
        refine EL.mv rfl rfl (EL.skip rfl rfl rfl rfl (EL.skip rfl rfl rfl rfl (EL.skip rfl rfl rfl rfl (EL.skip rfl rfl rfl rfl (EL.pt rfl rfl rfl (EL.nil (EX.seq (EC.yes rfl (EC.region ?_)))))))));refine EL.mv rfl rfl (EL.val (ZR rfl) rfl (EL.store rfl rfl q2 sz_3 rfl rfl rfl rfl ?_));intro w28 hq28 hg28;replace q20 := q20.gr hg28 n2_20.symm;replace hT := hT.keepOff hT6 hg28;replace hR := hR.keepOff hR6 hg28;replace hbw := ZC hbw hg28 bhbw_2;replace q2 := hq28;clear hg28 hq28;refine EL.nil (EX.blk (EX.seq (EC.region ?_)));refine EL.val (ZM rfl rfl (by first | assumption | exact IntWalk.i64_in _ ⟨by omega, by omega⟩)) rfl ?_
        refine EL.mv rfl rfl (EL.nil ?_);refine EX.roundD (i + 1, ⟨s.lo, s.most, s.pass, s.hour⟩) ⟨rfl, rfl, rfl, trivial⟩ (by repeat first | with_reducible exact .refl _ | refine sp_ rfl ?_ | exact .refl _ | refine sd_ rfl ?_ | refine sn_ ?_) ⟨hlt, by rw [hus, hmin], hR, hT, q2, hbw⟩ (by simp only; omega)
       ·
        have hsh : st.hi = (shUp rv sides l i).hi := by rw [hst2, plUp, if_neg hj0]
        refine EL.val (Zg rfl rfl (by first | assumption | exact decide_eq_false (by omega))) rfl ?_
        refine EL.mv rfl rfl (EL.mg rfl rfl rfl rfl (EL.valg rfl rfl (ZR rfl) rfl (EL.valg rfl rfl (ld_3 rfl (q2.at (j := 1) rfl)) rfl ?_)))
        by_cases hml : s.most < st.hi
        ·
         have hmin : min (shUp rv sides l i).hi s.most = s.most := by omega
         refine EL.valg rfl rfl (ZO rfl rfl (by first | assumption | exact decide_eq_true (by omega))) rfl ?_
         refine EL.pf rfl rfl rfl (EL.nil (EX.seq (EC.yes rfl (EC.region (EL.mv rfl rfl (EL.val (ZR rfl) rfl (EL.store rfl rfl q2 sz_3 rfl rfl rfl rfl ?_)))))));intro w29 hq29 hg29;replace q20 := q20.gr hg29 n2_20.symm;replace hT := hT.keepOff hT6 hg29;replace hR := hR.keepOff hR6 hg29;replace hbw := ZC hbw hg29 bhbw_2;replace q2 := hq29;clear hg29 hq29;refine EL.nil (EX.blk (EX.seq (EC.region ?_)));refine EL.val (ZM rfl rfl (by first | assumption | exact IntWalk.i64_in _ ⟨by omega, by omega⟩)) rfl ?_
         refine EL.mv rfl rfl (EL.nil ?_);refine EX.roundD (i + 1, ⟨s.lo, s.most, s.pass, s.hour⟩) ⟨rfl, rfl, rfl, trivial⟩ (by repeat first | with_reducible exact .refl _ | refine sp_ rfl ?_ | exact .refl _ | refine sd_ rfl ?_ | refine sn_ ?_) ⟨hlt, by rw [hus, hmin], hR, hT, q2, hbw⟩ (by simp only; omega)
        ·
         have hmin : min (shUp rv sides l i).hi s.most = st.hi := by omega
         refine EL.valg rfl rfl (ZO rfl rfl (by first | assumption | exact decide_eq_false (by omega))) rfl ?_
         refine EL.pf rfl rfl rfl (EL.nil (EX.seq (EC.no rfl (EC.skip (EX.blk (EX.seq (EC.region ?_)))))));refine EL.val (ZM rfl rfl (by first | assumption | exact IntWalk.i64_in _ ⟨by omega, by omega⟩)) rfl ?_
         refine EL.mv rfl rfl (EL.nil ?_);refine EX.roundD (i + 1, ⟨s.lo, st.hi, s.pass, s.hour⟩) ⟨rfl, rfl, rfl, trivial⟩ (by repeat first | with_reducible exact .refl _ | refine sp_ rfl ?_ | exact .refl _ | refine sd_ rfl ?_ | refine sn_ ?_) ⟨hlt, by rw [hus, hmin], hR, hT, q2, hbw⟩ (by simp only; omega)
     ·
      obtain rfl : i = l.length := by omega
      have hfin : st = shUp rv sides l l.length := by rw [hst2, plUp, if_neg h0]
      rw [← hfin] at hvr;refine EC.seq (EC.region ?_);refine EL.val (ZO rfl rfl (by first | assumption | exact decide_eq_false (by omega))) rfl ?_
      refine EL.nil (EX.seq (EC.seq (EC.no rfl (EC.exit (EX.seq_exit (EX.seq_exit (EX.blk_here (EX.seq (EC.seq ?_)))))))));refine EC.region (EL.val (Zp rfl (q2.at (j := 0) rfl) (q2.at (j := 1) rfl)) rfl (EL.mv rfl rfl (EL.mv rfl rfl (EL.store rfl rfl q2 Z7 rfl rfl rfl rfl ?_))));intro w30 hq30 hg30;replace hT := hT.keepOff hT6 hg30;replace hR := hR.keepOff hR6 hg30;replace hbw := ZC hbw hg30 bhbw_2;replace q2 := hq30;clear hg30 hq30;refine EL.as rfl rfl (EL.as rfl rfl (EL.as rfl rfl (EL.nil (EX.seq (EC.ret ?_)))))
      exact EX.done (QD0 rfl rfl rfl rfl rfl (QAK (q2.at rfl) (q2.at rfl))) ⟨by rw [hve, hvr] <;> rfl, hbw⟩
 ·
  obtain ⟨hve, hvr⟩ := QIZ (l := l) hst;refine EL.call (cA2 cF48 rfl rfl) rfl (QIo rv sides _ _ _ vs ss _ B (hr.below (hbw.mono hB)) (hs.below (hbw.mono hB)) (Nat.le_trans hB hbw.size) hl hl2 hcv hl3 hsb hst) ?_
  rintro e w31 ⟨rfl, hc31⟩
  refine ⟨_, rfl, ?_⟩;replace q1 := q1.bl hc31;replace q2 := q2.bl hc31;replace hbw := bo_ hbw hc31;clear hc31;refine EL.mv rfl rfl (EL.xt rfl rfl rfl (EL.xt rfl rfl rfl (EL.as rfl rfl (EL.as rfl rfl (EL.nil (EX.seq (EC.seq (EC.block (EC.seq ?_)))))))));refine EC.region (EL.mv rfl rfl ?_);refine EL.val (Zq rfl rfl (by first | assumption | exact decide_eq_true (by omega))) rfl ?_
  refine EL.as rfl rfl (EL.nil (EX.seq (EC.yes rfl (EC.seq (EC.region (EL.val (Zp rfl (q2.at (j := 0) rfl) (q2.at (j := 1) rfl)) rfl (EL.mv rfl rfl (EL.store rfl rfl q2 Z7 rfl rfl rfl rfl ?_))))))));intro w32 hq32 hg32;replace q1 := q1.gr hg32 n1_2;replace hbw := ZC hbw hg32 bhbw_2;replace q2 := hq32;clear hg32 hq32;refine EL.as rfl rfl (EL.as rfl rfl (EL.as rfl rfl (EL.nil (EX.seq (EC.ret (EX.blk_ret (EX.seq_ret ?_)))))))
  exact EX.done (QD0 rfl rfl rfl rfl rfl (QAK (q2.at rfl) (q2.at rfl))) ⟨by rw [hve, hvr] <;> rfl, hbw⟩
section
variable {P : Program} {w : World}
end
/-- a built slice is a row of one's own without room -/
theorem QHh {w : World} {g T base k size : Nat} {l : List Value} (h : Blk w g T l.toArray) (hl : lenV l = k * size) (hk : k ≤ 1048576) (hb : base ≤ g) : w.ownsRow base T size (.slice (some ⟨g, 0, none⟩) k k) k l := by
 have hl' : l.length = k * size := by rw [← Ya]; exact hl
 exact ⟨hl', .inr ⟨g, k, l.toArray, rfl, hb, h, Nat.le_refl _, by simp only [maxLen]; omega, by simpa using hl', by rw [← hl']; simp⟩⟩
section
variable {P : Program} {n : Nat} {σ : Sg} {L : List Oper} {cls : List (List Nat)} {alc : List Nat} {val : Nat → Value} {a : Act} {w1 : World} {i : Nat} {Q : Exit → Act → World → Prop}
end
abbrev FR (ro : Option Nat) : Fence := { Fence.wide with round := ro }
theorem QDT (ro : Option Nat) (n : Nat) : (FR ro).depth.isSome = true → 1 ≤ n := fun h => by cases h
theorem QDc {ro : Option Nat} {n : Nat} {P : Program} {f : FuncId} {args : Array Value} {w : World} {R : Ending → World → Prop} (h : Calls P f args w R) : CallsIn (FR ro) n P f args w R :=
 (callsIn_wide (n := n)).2 h
theorem QF4 {ro : Option Nat} {m n l : Nat} {P : Program} {f : FuncId} {tmps : Array Value} {assign body : Code} {w : World} {R : Ending → World → Prop} (h : RoundIn Fence.wide m P l f tmps assign body w R) : RoundIn (FR ro) n P l f tmps assign body w R :=
 ⟨h.1, fun c cs _ => h.2 c cs (room_wide _)⟩
/-- a frame with deferred calls ds -/
structure EnvG (n : Nat) (ds : List Deferred) (σ : Sg) (a : Act) : Prop where
 env : Env n σ ⟨a.tmps, []⟩
 ds : a.defers = ds
section
variable {n : Nat} {ds : List Deferred} {σ τ : Sg} {a : Act}
theorem Env.g (h : Env n σ a) : EnvG n [] σ a := ⟨⟨h.size, rfl, h.get⟩, h.defers⟩
theorem EnvG.e (h : EnvG n [] σ a) : Env n σ a := ⟨h.env.size, h.ds, h.env.get⟩
theorem QAM (a : Act) : (⟨a.tmps, []⟩ : Act).eval = a.eval := by
 funext x
 cases x <;> rfl
theorem EnvG.eval (h : EnvG n ds σ a) {x : Operand} {v : Value} (hx : evS σ x = some v) : a.eval x = v := by
 rw [← QAM]
 exact h.env.eval hx
theorem EnvG.put (h : EnvG n ds σ a) {d : Nat} (hd : Nat.blt d n = true) (v : Value) : EnvG n ds (ins σ d v) (a.put (some d) v) :=
 ⟨h.env.put hd v, h.ds⟩
theorem EnvG.sub (h : EnvG n ds σ a) (hs : Sub τ σ) : EnvG n ds τ a := ⟨h.env.sub hs, h.ds⟩
end
def ELI (ro : Option Nat) (k : Nat) (P : Program) (n : Nat) (ds : List Deferred) (L : List Oper) (Q : Exit → Act → World → Prop) (rest : List Oper) (σ : Sg) (w : World) : Prop := ∀ a, EnvG n ds σ a → wpListIn (FR ro) k P L.toArray Q rest a w
def ECI (ro : Option Nat) (k : Nat) (P : Program) (n : Nat) (ds : List Deferred) (c : Code) (Q : Exit → Act → World → Prop) (σ : Sg) (w : World) : Prop := ∀ a, EnvG n ds σ a → c.wpIn (FR ro) k P Q a w
def EXI (n : Nat) (ds : List Deferred) (Q : Exit → Act → World → Prop) (e : Exit) (σ : Sg) (w : World) : Prop := ∀ a, EnvG n ds σ a → Q e a w
section
variable {ro : Option Nat} {k : Nat} {P : Program} {n : Nat} {ds : List Deferred} {σ τ : Sg} {w : World} {Q : Exit → Act → World → Prop} {L : List Oper} {rest : List Oper}
theorem QBZ {o : Oper} (h : ∀ c, o.op ≠ .defer c) (ρ : Operand → Value) : o.semAt (FR ro).round ρ = execOp ρ o := Oper.semAt_eq _ _ _ h
/-- an operation that yields a value is no defer -/
theorem QCh {o : Oper} {ρ : Operand → Value} {w' : World} {r : Next} (hr : (execOp ρ o).run P w = .ok r w') (hn : ∀ d, r ≠ .defer d) : ∀ c, o.op ≠ .defer c := fun c h => by
 unfold execOp at hr
 simp only [h, Sem.run_bind] at hr
 cases he : (resolve ρ c o.type).run P w with
 | ok d w2 =>
  rw [he] at hr
  simp only [Result.andThen_ok, Sem.run_pure] at hr
  injection hr with h1 _
  exact hn d h1.symm
 | halt x w2 => rw [he] at hr; cases hr
theorem QBV {o : Oper} {a : Act} (hg : Region.wanted o (yielded L.toArray a.tmps) = true) {v : Value} {w' : World} (hr : (execOp a.eval o).run P w = .ok (.value v) w') (hk : wpListIn (FR ro) k P L.toArray Q rest (a.put o.dst v) w') : wpListIn (FR ro) k P L.toArray Q (o :: rest) a w := by
 unfold wpListIn
 rw [if_pos hg];refine ⟨fun _ _ => trivial, ?_⟩
 rw [QBZ (QCh hr (fun d h => by cases h)), hr]
 exact hk
theorem QFv {o : Oper} {a : Act} (hg : Region.wanted o (yielded L.toArray a.tmps) = true) {w' : World} (hr : (execOp a.eval o).run P w = .ok .skip w') (hk : wpListIn (FR ro) k P L.toArray Q rest (a.put o.dst undef) w') : wpListIn (FR ro) k P L.toArray Q (o :: rest) a w := by
 unfold wpListIn
 rw [if_pos hg];refine ⟨fun _ _ => trivial, ?_⟩
 rw [QBZ (QCh hr (fun d h => by cases h)), hr]
 exact hk
theorem QDu {a : Act} (ha : EnvG n ds σ a) {j : Nat} {t : Tmp} {v : Value} (hj : ZQ L j = some t) (ht : σ t = some v) : yielded L.toArray a.tmps j = match v with | .bool b => some b | _ => none :=
 Ym ha.env hj ht
theorem ELI.nil (h : EXI n ds Q .normal σ w) : ELI ro k P n ds L Q [] σ w := fun a ha => wpListIn_nil (h a ha)
theorem ELI.val {d ty : Nat} {op : Op} {pos : String} {af : Array Edge} {v : Value} (h : ZE P n σ w ⟨some d, op, ty, pos, af, none⟩ v) (hd : Nat.blt d n = true) (next : ELI ro k P n ds L Q rest (ins σ d v) w) : ELI ro k P n ds L Q (⟨some d, op, ty, pos, af, none⟩ :: rest) σ w :=
 fun a ha => QBV (ZX rfl _) (by rw [← QAM]; exact h _ ha.env) (next _ (ha.put hd v))
theorem ELI.valg {d ty j t : Nat} {b : Bool} {op : Op} {pos : String} {af : Array Edge} {v : Value} (hj : ZQ L j = some t) (ht : σ t = some (.bool b)) (h : ZE P n σ w ⟨some d, op, ty, pos, af, some (j, b)⟩ v) (hd : Nat.blt d n = true) (next : ELI ro k P n ds L Q rest (ins σ d v) w) : ELI ro k P n ds L Q (⟨some d, op, ty, pos, af, some (j, b)⟩ :: rest) σ w :=
 fun a ha => QBV (by simp [Region.wanted, QDu ha hj ht]) (by rw [← QAM]; exact h _ ha.env) (next _ (ha.put hd v))
theorem ELI.turn {d ty : Nat} {op : Op} {pos : String} {af : Array Edge} (v : Value) (w' : World) (h : ∀ a, Env n σ a → (execOp a.eval ⟨some d, op, ty, pos, af, none⟩).run P w = .ok (.value v) w') (hd : Nat.blt d n = true) (next : ELI ro k P n ds L Q rest (ins σ d v) w') : ELI ro k P n ds L Q (⟨some d, op, ty, pos, af, none⟩ :: rest) σ w :=
 fun a ha => QBV (ZX rfl _) (by rw [← QAM]; exact h _ ha.env) (next _ (ha.put hd v))
theorem ELI.call {d ty : Nat} {op : Op} {pos : String} {af : Array Edge} {f : FuncId} {args : Array Value} {R : Ending → World → Prop} (hr : ∀ a, Env n σ a → (execOp a.eval ⟨some d, op, ty, pos, af, none⟩).run P w = .ok (.enter f args) w) (hd : Nat.blt d n = true) (hc : Calls P f args w R)
  (next : ∀ e w', R e w' → ∃ v, e = .returned v ∧ ELI ro k P n ds L Q rest (ins σ d v) w') : ELI ro k P n ds L Q (⟨some d, op, ty, pos, af, none⟩ :: rest) σ w := fun a ha => by
 have hr' := hr _ ha.env;rw [QAM] at hr'
 unfold wpListIn
 rw [if_pos (ZX rfl _)];refine ⟨fun _ _ => trivial, ?_⟩
 rw [QBZ (QCh hr' (fun d h => by cases h)), hr']
 refine ⟨QDT _ _, CallsIn.mono (QDc hc) fun e w' he => ?_⟩
 obtain ⟨v, rfl, hv⟩ := next e w' he
 exact hv _ (ha.put hd v)
/-- a call of yield: a round -/
theorem ELI.yield {d ty l : Nat} {x y : Operand} {at' : Array TypeId} {pos : String} {af : Array Edge} {v : Value} {R : Ending → World → Prop} {fn : FuncId} {tmps : Array Value} {assign body : Code} (hx : evS σ x = some (.func (.yield l) #[] #[])) (hy : evS σ y = some v) (hd : Nat.blt d n = true) (hi : (Instr.yield l #[v]).run P w = .ok (.round l fn tmps assign body) w) (hR : RoundIn Fence.wide 0 P l fn tmps assign body w R)
  (next : ∀ e w', R e w' → ∃ v, e = .returned v ∧ ELI ro k P n ds L Q rest (ins σ d v) w') : ELI ro k P n ds L Q (⟨some d, .call { callee := .value x, args := #[y], argTypes := at' }, ty, pos, af, none⟩ :: rest) σ w := fun a ha => by
 have hr' : (execOp a.eval ⟨some d, .call { callee := .value x, args := #[y], argTypes := at' }, ty, pos, af, none⟩).run P w = .ok (.round l fn tmps assign body) w := by
  simp only [execOp, resolve, List.map_toArray, List.map_cons, List.map_nil, ha.eval hx, ha.eval hy]
  simp [go_sem, Deferred.ofValue, hi]
 unfold wpListIn
 rw [if_pos (ZX rfl _)];refine ⟨fun _ _ => trivial, ?_⟩
 rw [QBZ (QCh hr' (fun d h => by cases h)), hr']
 refine ⟨QDT _ _, RoundIn.mono (QF4 hR) fun e w' he => ?_⟩
 obtain ⟨v, rfl, hv⟩ := next e w' he
 exact hv _ (ha.put hd v)
theorem ELI.newP {d ty : Nat} {op : Op} {pos : String} {af : Array Edge} {cs : Array Value} {T : TypeId} (h : ∀ a, Env n σ a → (execOp a.eval ⟨some d, op, ty, pos, af, none⟩).run P w = .ok (.value (.pointer (some ⟨w.heap.size, 0, none⟩))) (w.alloc (.cells cs T))) (hd : Nat.blt d n = true)
  (next : ∀ g w', Blk w' g T cs → Below w.heap.size w w' → w.heap.size ≤ g → w.heap.size < w'.heap.size → ELI ro k P n ds L Q rest (ins σ d (.pointer (some ⟨g, 0, none⟩))) w') : ELI ro k P n ds L Q (⟨some d, op, ty, pos, af, none⟩ :: rest) σ w :=
 ELI.turn _ _ h hd (next _ _ (Blk.new w T cs) ((Below.refl _ _).alloc (Nat.le_refl _) _) (Nat.le_refl _) (by simp))
theorem ELI.newS {d ty m c : Nat} {op : Op} {pos : String} {af : Array Edge} {cs : Array Value} {T : TypeId} (h : ∀ a, Env n σ a → (execOp a.eval ⟨some d, op, ty, pos, af, none⟩).run P w = .ok (.value (.slice (some ⟨w.heap.size, 0, none⟩) m c)) (w.alloc (.cells cs T))) (hd : Nat.blt d n = true)
  (next : ∀ g w', Blk w' g T cs → Below w.heap.size w w' → w.heap.size ≤ g → w.heap.size < w'.heap.size → ELI ro k P n ds L Q rest (ins σ d (.slice (some ⟨g, 0, none⟩) m c)) w') : ELI ro k P n ds L Q (⟨some d, op, ty, pos, af, none⟩ :: rest) σ w :=
 ELI.turn _ _ h hd (next _ _ (Blk.new w T cs) ((Below.refl _ _).alloc (Nat.le_refl _) _) (Nat.le_refl _) (by simp))
theorem ELI.store {ty t T g o z : Nat} {x y : Operand} {pos : String} {af : Array Edge} {l l' : List Value} {v : Value} (hx : evS σ x = some (.pointer (some ⟨g, o, none⟩))) (hy : evS σ y = some v) (hb : Blk w g T l.toArray) (hs : (P.info? t).map (·.size) = some z) (hv : v.cells.toList = l') (hk : lenV l' = z) (ho : Nat.ble (o + z) (lenV l) = true) (h1 : QAx l' = true)
  (next : ∀ w', Blk w' g T (spl l o l').toArray → w.grownBy w' (some g) → KeepsOthers w w' → ELI ro k P n ds L Q rest σ w') : ELI ro k P n ds L Q (⟨none, .store t x y, ty, pos, af, none⟩ :: rest) σ w := fun a ha => by
 have hr : (execOp a.eval ⟨none, .store t x y, ty, pos, af, none⟩).run P w = .ok .skip (w.setRow g (spl l o l').toArray) := by
  simp only [execOp, ha.eval hx, ha.eval hy, Sem.run_bind, QAh hs hb hv hk ho h1, Result.andThen_ok]
  rfl
 refine QFv (ZX rfl _) hr (next _ (Y2 hb) (YY _ _ _) ⟨(YY w g _).size, fun j ob hj hc => ?_⟩ a ha)
 by_cases e : j = g
 ·subst e
  unfold Blk at hb
  rw [hb] at hj
  injection hj with hj
  subst hj
  cases hc
 ·exact ((YY w g (spl l o l').toArray).block j (Array.getElem?_eq_some_iff.1 hj).1 (fun h => e (Option.some.inj h))).trans hj
theorem QFW {A B : World} (h : Below A.heap.size A B) : KeepsOthers A B := ⟨h.size, fun k _ hk _ => (h.block k (Array.getElem?_eq_some_iff.1 hk).1).trans hk⟩
theorem QHv {w w' : World} {base e size n : Nat} {v : Value} {xs : List Value} (h : w.ownsRow base e size v n xs) (hg : w.grownBy w' v.ownBlock) : KeepsOthers w w' := ⟨hg.size, fun j o hj hc => by
 refine (hg.block j (Array.getElem?_eq_some_iff.1 hj).1 fun e1 => ?_).trans hj
 obtain ⟨_, ⟨rfl, _⟩ | ⟨g, cap, cur, rfl, _, hk, _⟩⟩ := h
 ·cases e1
 ·have e2 : j = g := by simpa [Value.ownBlock] using e1
  subst e2;rw [hk] at hj
  injection hj with hj
  subst hj
  cases hc⟩
theorem ELI.push {d ty t e size bytes base B m c : Nat} {s x : Operand} {pos : String} {af : Array Edge} (E : Elem P t e size bytes) {v src : Value} {xs news : List Value} (hs : evS σ s = some v) (hx : evS σ x = some src) (hown : w.ownsRow base e size v c xs) (hr : Rd w B size src m news) (h1 : ∀ u ∈ news, u.oneCell' = true) (hm : c + m ≤ 1048576) (hby : Nat.ble bytes 1048576 = true) (hbase : base ≤ w.heap.size) (hd : Nat.blt d n = true)
  (next : ∀ v' w', w'.ownsRow base e size v' (c + m) (xs ++ news) → w.grownBy w' v.ownBlock → Below base w w' → KeepsOthers w w' → ELI ro k P n ds L Q rest (ins σ d v') w') : ELI ro k P n ds L Q (⟨some d, .call { callee := .builtin .append, args := #[s, x], argTypes := #[t, t] }, ty, pos, af, none⟩ :: rest) σ w := fun a ha => by
 obtain ⟨v', w', h2, h3, h4, h5, h6⟩ := QAi (P := P) (ty := ty) E hown hr h1 hm (by simpa [Nat.ble_eq] using hby) hbase
 exact QBV (ZX rfl _) (YE rfl (ha.eval hs) (ha.eval hx) h2) (next v' w' h3 h4 h5 (QHv hown h4) _ (ha.put hd v'))
/-! ### Code -/
theorem ECI.sub {c : Code} (h : ECI ro k P n ds c Q τ w) (hs : Sub τ σ) : ECI ro k P n ds c Q σ w := fun a ha => h a (ha.sub hs)
theorem ECI.seq {x y : Code} (h : ECI ro k P n ds x (Exit.then (y.wpIn (FR ro) k P Q) Q) σ w) : ECI ro k P n ds (.seq x y) Q σ w := fun a ha => wpIn_seq (h a ha)
theorem ECI.region {id : Nat} {l : List Oper} (h : ELI ro k P n ds l Q l σ w) : ECI ro k P n ds (.region id l.toArray false) Q σ w := fun a ha => wpIn_region_lit (h a ha)
theorem ECI.block {id : Nat} {c : Code} (h : ECI ro k P n ds c (Exit.inBlock id Q) σ w) : ECI ro k P n ds (.block id c) Q σ w := fun a ha => wpIn_block (h a ha)
theorem ECI.skip (h : EXI n ds Q .normal σ w) : ECI ro k P n ds .skip Q σ w := fun a ha => wpIn_skip (h a ha)
theorem ECI.exit {id : Nat} (h : EXI n ds Q (.exit id) σ w) : ECI ro k P n ds (.exit id) Q σ w := fun a ha => wpIn_exit (h a ha)
theorem ECI.ret (h : EXI n ds Q .ret σ w) : ECI ro k P n ds .ret Q σ w := fun a ha => wpIn_ret (h a ha)
theorem ECI.yes {c : Operand} {x y : Code} (hc : evS σ c = some (.bool true)) (h : ECI ro k P n ds x Q σ w) : ECI ro k P n ds (.cond c x y) Q σ w := fun a ha => wpIn_cond_true (ha.eval hc) (h a ha)
theorem ECI.no {c : Operand} {x y : Code} (hc : evS σ c = some (.bool false)) (h : ECI ro k P n ds y Q σ w) : ECI ro k P n ds (.cond c x y) Q σ w := fun a ha => wpIn_cond_false (ha.eval hc) (h a ha)
theorem ECI.out {c : Code} (h : EC P n c Q σ w) : ECI none k P n [] c Q σ w := fun a ha => wpIn_wide.2 (h a ha.e)
/-! ### Exits -/
theorem EXI.seq {y : Code} (h : ECI ro k P n ds y Q σ w) : EXI n ds (Exit.then (y.wpIn (FR ro) k P Q) Q) .normal σ w := h
theorem EXI.seq_exit {K : Act → World → Prop} {i : Nat} (h : EXI n ds Q (.exit i) σ w) : EXI n ds (Exit.then K Q) (.exit i) σ w := h
theorem EXI.seq_ret {K : Act → World → Prop} (h : EXI n ds Q .ret σ w) : EXI n ds (Exit.then K Q) .ret σ w := h
theorem EXI.blk {id : Nat} (h : EXI n ds Q .normal σ w) : EXI n ds (Exit.inBlock id Q) .normal σ w := h
theorem EXI.blk_ret {id : Nat} (h : EXI n ds Q .ret σ w) : EXI n ds (Exit.inBlock id Q) .ret σ w := h
theorem EXI.blk_here {id : Nat} (h : EXI n ds Q .normal σ w) : EXI n ds (Exit.inBlock id Q) (.exit id) σ w := fun a ha => by
 simp only [Exit.inBlock, if_true]
 exact h a ha
end
/-! ### What a body leaves as it was -/
structure Kp (n0 : Nat) (S : List Nat) (W W' : World) : Prop where
 os : W'.os = W.os
 tape : W'.tape = W.tape
 output : W'.output = W.output
 size : W.heap.size ≤ W'.heap.size
 low : ∀ k, k < n0 → W'.heap[k]? = W.heap[k]?
 blk : ∀ g T cs, Blk W g T cs → memB S T = false → Blk W' g T cs
section
variable {n0 : Nat} {S : List Nat} {A B C : World}
theorem Kp.refl (n0 : Nat) (S : List Nat) (W : World) : Kp n0 S W W := ⟨rfl, rfl, rfl, Nat.le_refl _, fun _ _ => rfl, fun _ _ _ h _ => h⟩
theorem Kp.trans (h : Kp n0 S A B) (k : Kp n0 S B C) : Kp n0 S A C := ⟨k.os.trans h.os, k.tape.trans h.tape, k.output.trans h.output, Nat.le_trans h.size k.size, fun i hi => (k.low i hi).trans (h.low i hi), fun g T cs hg hT => k.blk g T cs (h.blk g T cs hg hT) hT⟩
theorem Kp.of_below (h : Below A.heap.size A B) (hn : n0 ≤ A.heap.size) : Kp n0 S A B := ⟨h.os, h.tape, h.output, h.size, fun k hk => h.block k (by omega), fun g T cs hg _ => hg.below h hg.lt⟩
theorem Kp.below (h : Kp n0 S A B) : Below n0 A B := ⟨h.os, h.tape, h.output, h.size, h.low⟩
theorem Kp.alloc (W : World) (hn : n0 ≤ W.heap.size) (o : Obj) : Kp n0 S W (W.alloc o) := Kp.of_below ((Below.refl _ _).alloc (Nat.le_refl _) _) hn
theorem Kp.putObj {W : World} {l : Nat} {o : Obj} (o' : Obj) (hl : n0 ≤ l) (ho : W.heap[l]? = some o) (hc : o.isCells = false) : Kp n0 S W (W.putObj l o') :=
 ⟨rfl, rfl, rfl, by simp, fun k hk => World.putObj_heap_other (by omega), fun g T cs hg _ => by
  unfold Blk at hg ⊢
  by_cases e : g = l
  ·subst e
   rw [ho] at hg
   injection hg with hg
   subst hg
   cases hc
  ·exact (World.putObj_heap_other e).trans hg⟩
/-- a store to a block of one of the kinds -/
theorem Kp.grown {w w' : World} {g T : Nat} {cs : Array Value} (hq : Blk w g T cs) (hT : memB S T = true) (hn : n0 ≤ g) (hg : w.grownBy w' (some g)) : Kp n0 S w w' :=
 ⟨hg.os, hg.tape, hg.output, hg.size, fun k hk => by
  by_cases e : k < w.heap.size
  ·exact hg.block k e (fun h => by injection h; omega)
  ·have := hq.lt; omega, fun k T' cs' hk hT' => by
  refine (hg.block k hk.lt fun h => ?_).trans hk
  injection h with h
  subst h
  unfold Blk at hk hq
  rw [hq] at hk
  injection hk with hk
  injection hk with _ h2
  subst h2;rw [hT] at hT'
  cases hT'⟩
theorem Kp.own {w w' : World} {base e size n : Nat} {v : Value} {xs : List Value} (h : w.ownsRow base e size v n xs) (hT : memB S e = true) (hn : n0 ≤ base) (hn2 : n0 ≤ w.heap.size) (hg : w.grownBy w' v.ownBlock) : Kp n0 S w w' := by
 obtain ⟨_, ⟨rfl, _⟩ | ⟨g, cap, cur, rfl, hb, hk, _⟩⟩ := h
 ·exact Kp.of_below ⟨hg.os, hg.tape, hg.output, hg.size, fun k hk => hg.block k hk (by simp [Value.ownBlock])⟩ hn2
 ·exact Kp.grown (cs := cur) hk hT (by omega) hg
theorem Kp.row {w w' : World} {base e size n : Nat} {v : Value} {xs : List Value} (h : Kp n0 S w w') (ho : w.ownsRow base e size v n xs) (hT : memB S e = false) : w'.ownsRow base e size v n xs := by
 obtain ⟨hl, h0 | ⟨g, cap, cur, hv, hb, hk, h1⟩⟩ := ho
 ·exact ⟨hl, .inl h0⟩
 ·exact ⟨hl, .inr ⟨g, cap, cur, hv, hb, h.blk g e cur hk hT, h1⟩⟩
end
/-! ### An iterator that hands lists of integers -/
abbrev It := List Int × Value
def QLU (P : Program) (l : Nat) (args : Array Value) (W : World) (R : Ending → World → Prop) : Prop :=
 ∃ fn tmps assign body, (Instr.yield l args).run P W = .ok (.round l fn tmps assign body) W ∧ RoundIn Fence.wide 0 P l fn tmps assign body W R
section
variable {P : Program} {n : Nat} {ds : List Deferred} {σ : Sg} {w : World} {Q : Exit → Act → World → Prop}
theorem QKK {d : Nat} {a : Act} {v : Value} (h : EnvG n ds σ a) (hd : Nat.blt d n = true) : EnvG n [] (ins σ d v) ⟨(#[d].zip #[v]).foldl (fun t (p, v) => t.setIfInBounds p v) a.tmps, []⟩ := by
 have h1 := (Env.put (a := ⟨a.tmps, []⟩) h.env hd v).g
 simpa [Act.put] using h1
/-! ### Leaving with marks -/
def YA (n0 : Nat) (ds : List Deferred) (W : World) : Prop := ∀ d ∈ ds, ∃ D, n0 ≤ D ∧ d = { target := .collected D, args := #[] } ∧ W.heap[D]? = some (.deferred (some []))
/-- what taking the marks does -/
structure Took (n0 : Nat) (w w' : World) : Prop where
 below : Below n0 w w'
 size : w'.heap.size = w.heap.size
 blk : ∀ g T cs, Blk w g T cs → Blk w' g T cs
theorem QBh {fn : Func} {tmps : Array Value} {R : Ending → World → Prop} {n0 k : Nat} : ∀ (ds : List Deferred) (w : World), YA n0 ds w → ds.Nodup → (∀ w', Took n0 w w' → ∃ v, (results fn tmps).run P w' = .ok v w' ∧ R (.returned v) w') → LeavesInM Fence.wide k P fn tmps R ds .returning w
 | [], w, _, _, h => h w ⟨Below.refl _ _, rfl, fun _ _ _ h => h⟩
 | d :: ds, w, hm, hd, h => by
  obtain ⟨D, hD, rfl, hw⟩ := hm d (List.mem_cons_self ..);have ho : ∀ j, j ≠ D → (w.putObj D (.deferred none)).heap[j]? = w.heap[j]? := fun j hj => World.putObj_heap_other hj
  refine ⟨by simp, .inl ⟨D, _, rfl, run_takeDeferred hw, QBh (n0 := n0) ds _ (fun d' hd' => ?_) (List.nodup_cons.1 hd).2 fun w' ht => h w' ?_⟩⟩
  ·obtain ⟨D', h1, rfl, h3⟩ := hm d' (List.mem_cons_of_mem _ hd')
   refine ⟨D', h1, rfl, (ho D' fun e => ?_).trans h3⟩
   subst e
   exact (List.nodup_cons.1 hd).1 hd'
  ·have hk : Kp n0 [] w (w.putObj D (.deferred none)) := Kp.putObj _ hD hw rfl
   exact ⟨hk.below.trans ht.below, ht.size.trans (by simp), fun g T cs hg => ht.blk g T cs (hk.blk g T cs hg rfl)⟩
theorem EC.marks {fn : Func} {f : FuncId} {c : Code} {args : List Value} {R : Ending → World → Prop} (n : Nat) (hf : P.funcs[f]? = some fn) (hb : fn.body = some c) (hn : fn.ntmps = n) (hl : Nat.ble args.length n = true) (h : ECI none 0 P n [] c (bodyPostM Fence.wide 0 P fn R) (QDg args 0) w) : Calls P f args.toArray w R := by
 subst hn;refine (callsIn_wide (n := 0)).1 (callsIn_of_wp_marks hf hb trivial ?_);have := h _ (QFg (l := args) (by simpa [Nat.ble_eq] using hl)).g
 simp only [List.size_toArray] at this ⊢
 exact this
theorem EXI.done {fn : Func} {R : Ending → World → Prop} {n0 : Nat} {v : Value} (hm : YA n0 ds w) (hd : ds.Nodup) (hr : ∀ w', Took n0 w w' → ∀ a, Env n σ a → (results fn a.tmps).run P w' = .ok v w') (h : ∀ w', Took n0 w w' → R (.returned v) w') : EXI n ds (bodyPostM Fence.wide 0 P fn R) .ret σ w := fun a ha => by
 show LeavesInM Fence.wide 0 P fn a.tmps R a.defers .returning w
 rw [ha.ds]
 exact QBh ds w hm hd fun w' ht => ⟨v, hr w' ht ⟨a.tmps, []⟩ ha.env, h w' ht⟩
end
/-! ### An append to a slice that is full, and only read -/
section
variable {P : Program} {w : World}
end
section
variable {P : Program} {n : Nat} {σ : Sg} {L : List Oper} {cls : List (List Nat)} {alc : List Nat} {val : Nat → Value} {a : Act} {w1 : World} {i : Nat} {Q : Exit → Act → World → Prop}
end
/-- a run that ends as code does -/
theorem EXI.of {n : Nat} {Q : Exit → Act → World → Prop} {e : Exit} {σ : Sg} {w : World} (h : EX n Q e σ w) : EXI n [] Q e σ w := fun a ha => h a ha.e
theorem QDB {k e size n : Nat} {xs : List Value} {base : Nat} {f : Option Addr → Nat → Value} {N : Nat} : QDn fun _ r w => ∃ A c, r k = f A c ∧ w.ownsRow base e size (.slice A N c) n xs := fun _ _ _ _ hb ⟨A, c, h1, h2⟩ => ⟨A, c, h1, own_below h2 hb (Nat.le_refl _)⟩
theorem QIq (s k : Nat) : Int.fdiv (s : Nat) ((2 : Int) ^ k) = ((s / 2 ^ k : Nat) : Int) := by
 rw [Int.fdiv_eq_ediv_of_nonneg _ (Int.pow_nonneg (by decide))]
 norm_cast
section
variable {P : Program} {n : Nat} {σ : Sg} {w : World} {dst : Option Tmp} {ty t t' : TypeId} {pos : String} {af : Array Edge} {g : Option (Nat × Bool)} {x y : Operand}
end
section
variable {ro : Option Nat} {k : Nat} {P : Program} {n : Nat} {ds : List Deferred} {σ τ : Sg} {w : World} {Q : Exit → Act → World → Prop} {L : List Oper} {rest : List Oper}
theorem ECI.loopD {c : Code} {ι : Type} (dl : List Nat) (vs : ι → List (Nat × Value)) (D : ι → List Deferred) (I : ι → World → Prop) (μ : ι → Nat) (i0 : ι) (h0 : I i0 w) (hs : QBU σ (vs i0)) (hd : ds = D i0)
  (round : ∀ i w, I i w → ECI ro k P n (D i) c (Exit.then (fun a' w' => ∃ i', EnvG n (D i') (insL (del σ dl) (vs i')) a' ∧ I i' w' ∧ μ i' < μ i) Q) (insL (del σ dl) (vs i)) w) : ECI ro k P n ds (.loop c) Q σ w := by
 intro a ha;subst hd;refine wpIn_loop_ghost (fun m a w => ∃ i, EnvG n (D i) (insL (del σ dl) (vs i)) a ∧ I i w ∧ μ i = m) (μ i0) ⟨i0, ha.sub (QAJ ((Sub.refl σ).del dl) hs), h0, rfl⟩ fun m a w hI => ?_
 obtain ⟨i, h1, h2, rfl⟩ := hI;refine wpIn_mono (round i w h2 a h1) fun e a' w' hq => ?_
 cases e with
 | normal =>
  obtain ⟨i', h4, h5, h6⟩ := hq
  exact ⟨μ i', h6, i', h4, h5, rfl⟩
 | _ => exact hq
theorem EXI.roundD {ι : Type} {σ0 : Sg} {dl : List Nat} {vs : ι → List (Nat × Value)} {D : ι → List Deferred} {I : ι → World → Prop} {μ : ι → Nat} {i : ι} (i' : ι) (hv : QBU σ (vs i')) (hs : Sub (del σ0 dl) σ) (hd : ds = D i') (hI : I i' w) (hm : μ i' < μ i) : EXI n ds (Exit.then (fun a' w' => ∃ i', EnvG n (D i') (insL (del σ0 dl) (vs i')) a' ∧ I i' w' ∧ μ i' < μ i) Q) .normal σ w :=
 fun _ ha => ⟨i', by subst hd; exact ha.sub (QAJ hs hv), hI, hm⟩
end
/-! ### Appends and copies of any length that fits an address space -/
section
variable {P : Program} {w : World}
variable {n : Nat} {σ : Sg} {L : List Oper} {Q : Exit → Act → World → Prop} {rest : List Oper}
end
end Go.Proofs.Ytfgfenmaommclaa
