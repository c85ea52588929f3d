/- E0, E1, Inv, E3, Base, Base2, Base3, Base4, E2, E4, E5, E6, Flat, LkBase, LkCells, ExX1, X1, LkTake, LkCmp: what LockTruthsProof needs of them (merged by trimpack.py). -/
import Derived.Deep.Quiet
import Derived.Tactics
import Derived.Scope
import Derived.IntWalk
import Derived.WalkKit
import Derived.Below
import Derived.Deep.LoopGhost
import Derived.Orders
import Derived.WalkSpells
import Derived.WalkLawsBesides
import Derived.Laws.OwnMore
import Derived.Maps.AppendAt
import Derived.Deep.AppendLies
import Derived.Deep.Draws
import Derived.Lib.Hide
import Derived.Deep.RegionHeld3
import Derived.StillTactics
import Derived.Laws.CopyRow
import Derived.RangeFuncNested
import Derived.RangeFuncBound
import Derived.RangeFuncFrom
import Derived.RangeFuncCalls
import Derived.RangeFuncLeaves
import Derived.Shelf.Abstract
import Derived.TacticsIn
import Derived.Sort.LoopGhostIn
import Derived.OrdersIn
import Derived.Lib.AppendZeros
import Derived.Maps.RangeWalk
import Derived.Deep.Slices
import Derived.Deep.Fields
import Derived.ChangeSame
import Derived.Lib.SmallJoins
import Derived.OpenShut
import Derived.ShutString
import Derived.ChangeOld
import Derived.Deep.MidRow
import Derived.Test.YtlbfnimilcnihaaProg
set_option linter.unusedVariables false
set_option linter.unusedSimpArgs false
namespace Go.Proofs.Ytlbfnimilcnihaa
open Go
def opM : List Operand → Nat
 | [] => 0
 | .tmp t :: l => Nat.lor (Nat.pow 2 t) (opM l)
 | _ :: l => opM l
def optM : Option Tmp → Nat
 | some d => Nat.pow 2 d
 | none => 0
/-- the dst of operation j -/
def ZS : List Oper → Nat → Option Tmp
 | [], _ => none
 | o :: _, 0 => o.dst
 | _ :: l, j + 1 => ZS l j
def grdM (L : List Oper) : Option (Nat × Bool) → Nat
 | some (g, _) => optM (ZS L g)
 | none => 0
def nthO : List Oper → Nat → Option Oper
 | [], _ => none
 | o :: _, 0 => some o
 | _ :: l, j + 1 => nthO l j
def rdM (L : List Oper) (o : Oper) : Nat := Nat.lor (opM o.op.operands.toList) (grdM L o.guard)
def afM : List Edge → Nat
 | [] => 0
 | e :: l => bif Region.binds .any e then Nat.lor (Nat.pow 2 e.on) (afM l) else afM l
def QJg : Op → Bool
 | .select _ _ => false
 | _ => true
/-- p, which stands behind o (number k), waits for it or is apart from it -/
def QGN (L : List Oper) (k : Nat) (o p : Oper) : Bool :=
 bif Nat.beq (Nat.land (afM p.after.toList) (Nat.pow 2 k)) 0 then
  bif Nat.beq (Nat.land (optM o.dst) (Nat.lor (rdM L p) (optM p.dst))) 0 then Nat.beq (Nat.land (optM p.dst) (rdM L o)) 0 else false
 else true
def prsQ (L : List Oper) (k : Nat) (o : Oper) : List Oper → Bool
 | [] => true
 | p :: l => bif QGN L k o p then prsQ L k o l else false
/-- all that binds lies before k -/
def QCx (k : Nat) : List Edge → Bool
 | [] => true
 | e :: l => bif Region.binds .any e then (bif Nat.blt e.on k then QCx k l else false) else QCx k l
def lexQ (L : List Oper) : Nat → List Oper → Bool
 | _, [] => true
 | k, o :: l => bif QJg o.op then (bif QCx k o.after.toList then (bif prsQ L k o l then lexQ L (k + 1) l else false) else false) else false
theorem QHi : ∀ (l : List Operand) (t : Nat), Operand.tmp t ∈ l → (opM l).testBit t = true
 | [], _, h => by cases h
 | x :: l, t, h => by
  rcases List.mem_cons.1 h with rfl | h
  ·show (2 ^ t ||| opM l).testBit t = true
   simp
  ·have ih := QHi l t h
   cases x with
   | tmp s =>
    show (2 ^ s ||| opM l).testBit t = true
    simp [ih]
   | _ => exact ih
theorem optM_mem {x : Option Tmp} {t : Nat} (h : x = some t) : (optM x).testBit t = true := by
 subst h
 show (2 ^ t).testBit t = true
 simp
theorem QCn : ∀ (l : List Oper) (j : Nat), (l.toArray[j]?).bind (·.dst) = ZS l j
 | [], j => by simp [ZS]
 | o :: l, 0 => by simp [ZS]
 | o :: l, j + 1 => by
  have := QCn l j
  simpa [ZS] using this
theorem rdM_mem {L : List Oper} {o : Oper} {t : Nat} (h : t ∈ o.looksAt L.toArray) : (rdM L o).testBit t = true := by
 show (opM o.op.operands.toList ||| grdM L o.guard).testBit t = true
 rw [Nat.testBit_or, Bool.or_eq_true]
 unfold Oper.looksAt at h
 rcases List.mem_append.1 h with h | h
 ·left
  obtain ⟨x, hx, he⟩ := List.mem_filterMap.1 h
  cases x <;> simp at he
  subst he
  exact QHi _ _ hx
 ·right
  cases hg : o.guard with
  | none => simp [hg] at h
  | some gw =>
   obtain ⟨g, b⟩ := gw
   simp only [hg] at h
   rw [QCn] at h
   exact optM_mem (by simpa using h)
theorem land_zero {a b t : Nat} (h : Nat.beq (Nat.land a b) 0 = true) (ha : a.testBit t = true) (hb : b.testBit t = true) : False := by
 have h1 : a &&& b = 0 := Nat.eq_of_beq_eq_true h;have h2 : (a &&& b).testBit t = true := by rw [Nat.testBit_and, ha, hb]; rfl
 rw [h1] at h2
 simp at h2
theorem QKb {L : List Oper} {o p : Oper} (h1 : Nat.beq (Nat.land (optM o.dst) (Nat.lor (rdM L p) (optM p.dst))) 0 = true) (h2 : Nat.beq (Nat.land (optM p.dst) (rdM L o)) 0 = true) : o.apart L.toArray p = true := by
 have hor : ∀ (a b t : Nat), a.testBit t = true ∨ b.testBit t = true → (Nat.lor a b).testBit t = true := fun a b t h => by
  show (a ||| b).testBit t = true
  rw [Nat.testBit_or, Bool.or_eq_true]
  exact h
 unfold Oper.apart
 rw [Bool.and_eq_true];refine ⟨?_, ?_⟩
 ·cases hd : o.dst with
  | none => rfl
  | some d =>
   rw [hd] at h1
   simp only [Bool.and_eq_true, Bool.not_eq_true', bne_iff_ne, ne_eq]
   refine ⟨?_, fun e => land_zero h1 (optM_mem rfl) (hor _ _ d (.inr (optM_mem e)))⟩
   rw [← Bool.not_eq_true];intro hc
   exact land_zero h1 (optM_mem rfl) (hor _ _ d (.inl (rdM_mem (by simpa using hc))))
 ·cases hd : p.dst with
  | none => rfl
  | some d =>
   rw [hd] at h2
   simp only [Bool.not_eq_true']
   rw [← Bool.not_eq_true];intro hc
   exact land_zero h2 (optM_mem rfl) (rdM_mem (by simpa using hc))
theorem afM_bit : ∀ (l : List Edge) (k : Nat), (afM l).testBit k = true → ∃ e ∈ l, Region.binds .any e = true ∧ e.on = k
 | [], k, h => by simp [afM] at h
 | e :: l, k, h => by
  unfold afM at h
  cases hb : Region.binds .any e with
  | true =>
   rw [hb] at h;have h' : (2 ^ e.on ||| afM l).testBit k = true := h;rw [Nat.testBit_or, Bool.or_eq_true] at h'
   rcases h' with h' | h'
   ·exact ⟨e, by simp, hb, by simpa [Nat.testBit_two_pow] using h'⟩
   ·obtain ⟨e', h1, h2⟩ := afM_bit l k h'
    exact ⟨e', by simp [h1], h2⟩
  | false =>
   rw [hb] at h;obtain ⟨e', h1, h2⟩ := afM_bit l k h
   exact ⟨e', by simp [h1], h2⟩
theorem QK1 {L : List Oper} {k : Nat} {o p : Oper} (h : QGN L k o p = true) (hno : ∀ e ∈ p.after, Region.binds .any e = true → e.on ≠ k) : o.apart L.toArray p = true := by
 unfold QGN at h
 cases h1 : Nat.beq (Nat.land (afM p.after.toList) (Nat.pow 2 k)) 0 with
 | false =>
  exfalso
  have h2 : (afM p.after.toList) &&& 2 ^ k ≠ 0 := Nat.ne_of_beq_eq_false h1;have h3 : (afM p.after.toList).testBit k = true := by
   rw [← Bool.not_eq_false];intro hf;refine h2 (Nat.eq_of_testBit_eq fun i => ?_)
   rw [Nat.testBit_and, Nat.testBit_two_pow]
   by_cases hi : k = i
   ·subst hi; simp [hf]
   ·simp [hi]
  obtain ⟨e, he, hb, hk⟩ := afM_bit _ _ h3
  exact hno e (by simpa using he) hb hk
 | true =>
  rw [h1] at h
  cases h2 : Nat.beq (Nat.land (optM o.dst) (Nat.lor (rdM L p) (optM p.dst))) 0 with
  | false => rw [h2] at h; cases h
  | true => rw [h2] at h; exact QKb h2 h
theorem QJW {L : List Oper} {k : Nat} {o : Oper} : ∀ {l : List Oper}, prsQ L k o l = true → ∀ p ∈ l, QGN L k o p = true
 | [], _, _, h => by cases h
 | q :: l, h, p, hp => by
  unfold prsQ at h
  cases h1 : QGN L k o q with
  | false => rw [h1] at h; cases h
  | true =>
   rw [h1] at h
   rcases List.mem_cons.1 hp with rfl | hp
   ·exact h1
   ·exact QJW h p hp
theorem QDm {k : Nat} : ∀ {l : List Edge}, QCx k l = true → ∀ e ∈ l, Region.binds .any e = true → e.on < k
 | [], _, _, h, _ => by cases h
 | x :: l, h, e, he, hb => by
  unfold QCx at h
  cases h1 : Region.binds .any x with
  | true =>
   rw [h1] at h
   cases h2 : Nat.blt x.on k with
   | false => rw [h2] at h; cases h
   | true =>
    rw [h2] at h
    rcases List.mem_cons.1 he with rfl | he
    ·simpa [Nat.blt_eq] using h2
    ·exact QDm h e he hb
  | false =>
   rw [h1] at h
   rcases List.mem_cons.1 he with rfl | he
   ·rw [h1] at hb; cases hb
   ·exact QDm h e he hb
theorem QGb {L : List Oper} {k : Nat} {o : Oper} {l : List Oper} (h : lexQ L k (o :: l) = true) : QJg o.op = true ∧ QCx k o.after.toList = true ∧ prsQ L k o l = true ∧ lexQ L (k + 1) l = true := by
 unfold lexQ at h
 cases h1 : QJg o.op with
 | false => rw [h1] at h; cases h
 | true =>
  rw [h1] at h
  cases h2 : QCx k o.after.toList with
  | false => rw [h2] at h; cases h
  | true =>
   rw [h2] at h
   cases h3 : prsQ L k o l with
   | false => rw [h3] at h; cases h
   | true => rw [h3] at h; exact ⟨rfl, rfl, rfl, h⟩
theorem lex_sel {L : List Oper} : ∀ {l : List Oper} {k : Nat}, lexQ L k l = true → ∀ o ∈ l, ∀ cs b, o.op ≠ .select cs b
 | [], _, _, _, h => by cases h
 | x :: l, k, h, o, ho => by
  obtain ⟨h1, _, _, h4⟩ := QGb h
  rcases List.mem_cons.1 ho with rfl | ho
  ·intro cs b e
   rw [e] at h1
   cases h1
  ·exact lex_sel h4 o ho
section
variable {P : Program} {C : World → Prop} {L : List Oper}
theorem QBH {Z : Act → Prop} (hsel : ∀ (j : Nat) (o : Oper) cs b, L.toArray[j]? = some o → o.op ≠ .select cs b) : ∀ (l : List Oper) (k : Nat) (listed : Array Bool) (a : Act), (∀ j, l[j]? = L[k + j]?) → listed.size = L.length → (∀ j, j < k → listed.getD j false = true) → (∀ j, k ≤ j → j < L.length → listed.getD j true = false) →
  lexQ L k l = true → wpQuiet P L.toArray C Z l a → wpAnyQ P .any L.toArray C Z l.length listed a
 | [], k, listed, a, hl, hs, hlo, _, _, h => by
  refine ⟨List.eq_nil_iff_forall_not_mem.2 fun i hi => ?_, h⟩
  obtain ⟨h1, o, ho, _⟩ := mem_ready.1 hi;have hlt : i < L.length := by simpa using (Array.getElem?_eq_some_iff.1 ho).1
  have hk : L.length ≤ k := by
   have := hl 0
   simp at this
   omega
  have := hlo i (by omega)
  simp [Array.getD, hs, hlt] at h1 this
  rw [h1] at this
  cases this
 | o :: l, k, listed, a, hl, hs, hlo, hhi, hq, h => by
  have h0' : L[k]? = some o := by simpa using (hl 0).symm
  have h0 : L.toArray[k]? = some o := by simpa using h0'
  have hk : k < L.length := (List.getElem?_eq_some_iff.1 h0').1;obtain ⟨q1, q2, q3, q4⟩ := QGb hq;have hst : qOp P L.toArray C k (wpQuiet P L.toArray C Z l) a := by unfold qOp; simp only [h0]; exact h
  obtain ⟨v, hy, hK⟩ := yieldsIn_of_qOp h0 hst;refine wpAnyQ_first h0 hsel l.length listed a (fun j oj hj hjk hun hno => ?_) (mem_ready.2 ⟨hhi k (Nat.le_refl _) hk, o, h0, fun e he hb => hlo _ (QDm q2 e (by simpa using he) hb)⟩) hy
   (QBH hsel l (k + 1) _ _ (fun j => by have := hl (j + 1); simpa [Nat.add_assoc, Nat.add_comm 1 j] using this) (by simpa using hs) (fun j hj => ?_) (fun j hj hj2 => ?_) q4 hK)
  ·have hj' : L[j]? = some oj := by simpa using hj
   have hjL : j < L.length := (List.getElem?_eq_some_iff.1 hj').1;have hgt : k < j := by
    rcases Nat.lt_or_ge j k with h' | h'
    ·have := hlo j h'
     simp [Array.getD, hs, hjL] at hun this
     rw [hun] at this
     cases this
    ·omega
   have hm : l[j - (k + 1)]? = some oj := by
    have := hl (j - (k + 1) + 1);rw [show k + (j - (k + 1) + 1) = j by omega, hj'] at this
    simpa using this
   exact QK1 (QJW q3 oj (List.mem_of_getElem? hm)) hno
  ·by_cases e : j = k
   ·subst e; simp [Array.getD, hs, hk]
   ·rw [show (listed.setIfInBounds k true).getD j false = listed.getD j false by
     by_cases hjs : j < listed.size
     ·simp [Array.getD, hjs, Ne.symm e]
     ·simp [Array.getD, hjs]]
    exact hlo j (by omega)
  ·have e : k ≠ j := by omega
   have := hhi j (by omega) hj2
   simp [Array.getD, hs, hj2, e] at this ⊢
   exact this
theorem QDp {id : Nat} {Q : Exit → Act → World → Prop} {a : Act} {w : World} (hm : P.follows .mixedOrders = true) (hB : lexQ L 0 L = true) (hC : C { w with drawn := w.drawn + 1 })
  (h : wpQuiet P L.toArray C (fun a' => ∀ w', C w' → Q .normal a' w') L a) : (Code.region id L.toArray true).wp P Q a w := by
 refine wp_region_any hm (wpAny_of_quiet (Q := fun a' => ∀ w', C w' → Q .normal a' w') (fun _ w' hw' h => h w' hw') _ _ _ _ hC ?_)
 have := QBH (C := C) (P := P) (Z := fun a' => ∀ w', C w' → Q .normal a' w') (fun j o cs b hj => lex_sel hB o (List.mem_of_getElem? (by simpa using hj)) cs b) L 0 (Array.replicate L.toArray.size false) a (by simp) (by simp) (fun j hj => by omega) (fun j _ hj => by simp [Array.getD, hj]) hB h
 simpa using this
end
end Go.Proofs.Ytlbfnimilcnihaa
namespace Go.Proofs.Ytlbfnimilcnihaa
open Go Go.RowKit
abbrev Sg := Nat → Option Value
def ins (σ : Sg) (d : Nat) (v : Value) : Sg := fun s => bif Nat.beq s d then some v else σ s
def memB : List Nat → Nat → Bool
 | [], _ => false
 | d :: ds, s => bif Nat.beq s d then true else memB ds s
def del (σ : Sg) (ds : List Nat) : Sg := fun s => bif memB ds s then none else σ s
/-- slots k, k + 1, .. -/
def QEU : List Value → Nat → Sg
 | [], _, _ => none
 | v :: l, k, s => bif Nat.beq s k then some v else QEU l (k + 1) s
def evS (σ : Sg) : Operand → Option Value
 | .tmp t => σ t
 | .const v => some v
 | .global g => some (.pointer (some ⟨g, 0, none⟩))
 | .func f => some (.func (.func f) #[] #[])
structure Env (n : Nat) (σ : Sg) (a : Act) : Prop where
 size : a.tmps.size = n
 defers : a.defers = []
 get : ∀ t v, σ t = some v → a.tmps[t]? = some v
section
variable {n : Nat} {σ τ : Sg} {a : Act}
theorem Env.eval (h : Env n σ a) {x : Operand} {v : Value} (hx : evS σ x = some v) : a.eval x = v := by
 cases x with
 | tmp t => simp only [Act.eval, Array.getD_eq_getD_getElem?, h.get t v hx, Option.getD_some]
 | const u => injection hx
 | global g => injection hx
 | func f => injection hx
theorem Env.put (h : Env n σ a) {d : Nat} (hd : Nat.blt d n = true) (v : Value) : Env n (ins σ d v) (a.put (some d) v) := by
 have hd' : d < n := by simpa [Nat.blt_eq] using hd
 refine ⟨by simp [Act.put, h.size], h.defers, fun t u ht => ?_⟩
 simp only [Act.put, Array.getElem?_setIfInBounds]
 unfold ins at ht
 cases e : Nat.beq t d with
 | true =>
  have e' := Nat.eq_of_beq_eq_true e;subst e';rw [e] at ht;rw [if_pos rfl, if_pos (by rw [h.size]; exact hd')]
  exact ht
 | false =>
  have e' := Nat.ne_of_beq_eq_false e;rw [e] at ht;rw [if_neg (Ne.symm e')]
  exact h.get t u ht
def Sub (τ σ : Sg) : Prop := ∀ t v, τ t = some v → σ t = some v
theorem Env.sub (h : Env n σ a) (hs : Sub τ σ) : Env n τ a := ⟨h.size, h.defers, fun t v ht => h.get t v (hs t v ht)⟩
theorem Sub.refl (σ : Sg) : Sub σ σ := fun _ _ h => h
theorem Sub.del (h : Sub τ σ) (ds : List Nat) : Sub (del τ ds) σ := fun t v ht => by
 unfold Go.Proofs.Ytlbfnimilcnihaa.del at ht
 cases e : memB ds t with
 | true => rw [e] at ht; cases ht
 | false => rw [e] at ht; exact h t v ht
theorem Sub.ins (h : Sub τ σ) {d : Nat} {v : Value} (hd : σ d = some v) : Sub (ins τ d v) σ := fun t u ht => by
 unfold Go.Proofs.Ytlbfnimilcnihaa.ins at ht
 cases e : Nat.beq t d with
 | true =>
  have e' := Nat.eq_of_beq_eq_true e;subst e';rw [e] at ht;rw [hd]
  exact ht
 | false => rw [e] at ht; exact h t u ht
/-- a slot that τ does not speak of -/
theorem Sub.skip (h : Sub τ σ) {d : Nat} {v : Value} (hd : τ d = none) : Sub τ (Go.Proofs.Ytlbfnimilcnihaa.ins σ d v) := fun t u ht => by
 unfold Go.Proofs.Ytlbfnimilcnihaa.ins
 cases e : Nat.beq t d with
 | true =>
  have e' := Nat.eq_of_beq_eq_true e;subst e';rw [hd] at ht
  cases ht
 | false => exact h t u ht
theorem Sub.nil (σ : Sg) : Sub (fun _ => none) σ := fun _ _ h => by cases h
end
section
variable {P : Program} {n : Nat} {σ τ : Sg} {w : World} {Q : Exit → Act → World → Prop} {L : List Oper} {rest : List Oper}
/-- what an operation yields, the world as it was -/
def ZI (P : Program) (n : Nat) (σ : Sg) (w : World) (o : Oper) (v : Value) : Prop := ∀ a, Env n σ a → (execOp a.eval o).run P w = .ok (.value v) w
def EL (P : Program) (n : Nat) (L : List Oper) (Q : Exit → Act → World → Prop) (rest : List Oper) (σ : Sg) (w : World) : Prop := ∀ a, Env n σ a → wpList P L.toArray Q rest a w
def EC (P : Program) (n : Nat) (c : Code) (Q : Exit → Act → World → Prop) (σ : Sg) (w : World) : Prop := ∀ a, Env n σ a → c.wp P Q a w
def EX (n : Nat) (Q : Exit → Act → World → Prop) (e : Exit) (σ : Sg) (w : World) : Prop := ∀ a, Env n σ a → Q e a w
theorem EL.nil (h : EX n Q .normal σ w) : EL P n L Q [] σ w := fun a ha => wpList_nil (h a ha)
theorem QA2 {o : Oper} {a : Act} (hg : Region.wanted o (yielded L.toArray a.tmps) = true) {v : Value} {w' : World} (hr : (execOp a.eval o).run P w = .ok (.value v) w') (hk : wpList P L.toArray Q rest (a.put o.dst v) w') : wpList P L.toArray Q (o :: rest) a w := by
 unfold wpList
 rw [if_pos hg]
 left
 unfold Oper.wp
 rw [hr]
 exact hk
theorem Y9 {a : Act} (ha : Env n σ a) {j : Nat} {t : Tmp} {v : Value} (hj : ZS L j = some t) (ht : σ t = some v) : yielded L.toArray a.tmps j = match v with | .bool b => some b | _ => none := by
 unfold yielded
 rw [QCn, hj, Option.bind_some, ha.get t v ht]
 cases v <;> rfl
theorem ZU {o : Oper} (h : o.guard = none) (y : Nat → Option Bool) : Region.wanted o y = true := by simp [Region.wanted, h]
/-- the rules for one operation -/
theorem EL.val {d ty : Nat} {op : Op} {pos : String} {af : Array Edge} {v : Value} (h : ZI P n σ w ⟨some d, op, ty, pos, af, none⟩ v) (hd : Nat.blt d n = true) (k : EL P n L Q rest (ins σ d v) w) : EL P n L Q (⟨some d, op, ty, pos, af, none⟩ :: rest) σ w :=
 fun a ha => QA2 (ZU rfl _) (h a ha) (k _ (ha.put hd v))
theorem EL.valg {d ty j t : Nat} {b : Bool} {op : Op} {pos : String} {af : Array Edge} {v : Value} (hj : ZS L j = some t) (ht : σ t = some (.bool b)) (h : ZI P n σ w ⟨some d, op, ty, pos, af, some (j, b)⟩ v) (hd : Nat.blt d n = true) (k : EL P n L Q rest (ins σ d v) w) : EL P n L Q (⟨some d, op, ty, pos, af, some (j, b)⟩ :: rest) σ w :=
 fun a ha => QA2 (by simp [Region.wanted, Y9 ha hj ht]) (h a ha) (k _ (ha.put hd v))
def QBf (b : Bool) : Value → Bool
 | .bool c => c == b
 | _ => false
theorem EL.skip {d ty j t : Nat} {b : Bool} {op : Op} {pos : String} {af : Array Edge} {u : Value} (hj : ZS L j = some t) (ht : σ t = some u) (hb : QBf b u = false) (hd : Nat.blt d n = true) (k : EL P n L Q rest (ins σ d undef) w) : EL P n L Q (⟨some d, op, ty, pos, af, some (j, b)⟩ :: rest) σ w := fun a ha => by
 unfold wpList
 have hw : Region.wanted (⟨some d, op, ty, pos, af, some (j, b)⟩ : Oper) (yielded L.toArray a.tmps) = false := by
  simp only [Region.wanted, Y9 ha hj ht]
  cases u <;> first | rfl | (simp only [QBf] at hb; simpa using hb)
 rw [hw, if_neg (by simp)]
 exact k _ (ha.put hd undef)
/-- an operation that yields a value and turns the world: what is known behind it -/
theorem EL.turn {d ty : Nat} {op : Op} {pos : String} {af : Array Edge} (v : Value) (w' : World) (h : ∀ a, Env n σ a → (execOp a.eval ⟨some d, op, ty, pos, af, none⟩).run P w = .ok (.value v) w') (hd : Nat.blt d n = true) (k : EL P n L Q rest (ins σ d v) w') : EL P n L Q (⟨some d, op, ty, pos, af, none⟩ :: rest) σ w :=
 fun a ha => QA2 (ZU rfl _) (h a ha) (k _ (ha.put hd v))
theorem QF2 {o : Oper} {a : Act} (hg : Region.wanted o (yielded L.toArray a.tmps) = true) {f : FuncId} {args : Array Value} (hr : (execOp a.eval o).run P w = .ok (.enter f args) w) {R : Ending → World → Prop} (hc : Calls P f args w R)
  (hk : ∀ e w', R e w' → ∃ v, e = .returned v ∧ wpList P L.toArray Q rest (a.put o.dst v) w') : wpList P L.toArray Q (o :: rest) a w := by
 unfold wpList
 rw [if_pos hg]
 left
 unfold Oper.wp
 rw [hr, Oper.upon_enter];refine hc.mono fun e w' he => ?_
 obtain ⟨v, rfl, hv⟩ := hk e w' he
 exact hv
/-- a call: what the operands are, the callee's contract, what is known behind it -/
theorem EL.call {d ty : Nat} {op : Op} {pos : String} {af : Array Edge} {f : FuncId} {args : Array Value} {R : Ending → World → Prop} (hr : ∀ a, Env n σ a → (execOp a.eval ⟨some d, op, ty, pos, af, none⟩).run P w = .ok (.enter f args) w) (hd : Nat.blt d n = true) (hc : Calls P f args w R)
  (k : ∀ e w', R e w' → ∃ v, e = .returned v ∧ EL P n L Q rest (ins σ d v) w') : EL P n L Q (⟨some d, op, ty, pos, af, none⟩ :: rest) σ w :=
 fun a ha => QF2 (ZU rfl _) (hr a ha) hc fun e w' he => by
  obtain ⟨v, h1, h2⟩ := k e w' he
  exact ⟨v, h1, h2 _ (ha.put hd v)⟩
theorem EL.callg {d ty j t : Nat} {b : Bool} {op : Op} {pos : String} {af : Array Edge} {f : FuncId} {args : Array Value} {R : Ending → World → Prop} (hj : ZS L j = some t) (ht : σ t = some (.bool b)) (hr : ∀ a, Env n σ a → (execOp a.eval ⟨some d, op, ty, pos, af, some (j, b)⟩).run P w = .ok (.enter f args) w) (hd : Nat.blt d n = true) (hc : Calls P f args w R)
  (k : ∀ e w', R e w' → ∃ v, e = .returned v ∧ EL P n L Q rest (ins σ d v) w') : EL P n L Q (⟨some d, op, ty, pos, af, some (j, b)⟩ :: rest) σ w :=
 fun a ha => QF2 (by simp [Region.wanted, Y9 ha hj ht]) (hr a ha) hc fun e w' he => by
  obtain ⟨v, h1, h2⟩ := k e w' he
  exact ⟨v, h1, h2 _ (ha.put hd v)⟩
/-! ### Code -/
theorem EC.sub {c : Code} (h : EC P n c Q τ w) (hs : Sub τ σ) : EC P n c Q σ w := fun a ha => h a (ha.sub hs)
theorem EX.sub {e : Exit} (h : EX n Q e τ w) (hs : Sub τ σ) : EX n Q e σ w := fun a ha => h a (ha.sub hs)
theorem EC.seq {x y : Code} (h : EC P n x (Exit.then (y.wp P Q) Q) σ w) : EC P n (.seq x y) Q σ w := fun a ha => wp_seq (h a ha)
theorem EC.region {id : Nat} {l : List Oper} (h : EL P n l Q l σ w) : EC P n (.region id l.toArray false) Q σ w := fun a ha => wp_region_lit (h a ha)
theorem EC.block {id : Nat} {c : Code} (h : EC P n c (Exit.inBlock id Q) σ w) : EC P n (.block id c) Q σ w := fun a ha => wp_block (h a ha)
theorem EC.skip (h : EX n Q .normal σ w) : EC P n .skip Q σ w := fun a ha => wp_skip (h a ha)
theorem EC.exit {id : Nat} (h : EX n Q (.exit id) σ w) : EC P n (.exit id) Q σ w := fun a ha => wp_exit (h a ha)
theorem EC.ret (h : EX n Q .ret σ w) : EC P n .ret Q σ w := fun a ha => wp_ret (h a ha)
theorem EC.yes {c : Operand} {x y : Code} (hc : evS σ c = some (.bool true)) (h : EC P n x Q σ w) : EC P n (.cond c x y) Q σ w := fun a ha => wp_cond_true (ha.eval hc) (h a ha)
theorem EC.no {c : Operand} {x y : Code} (hc : evS σ c = some (.bool false)) (h : EC P n y Q σ w) : EC P n (.cond c x y) Q σ w := fun a ha => wp_cond_false (ha.eval hc) (h a ha)
theorem EC.loop {c : Code} {ι : Type} (σI : ι → Sg) (I : ι → World → Prop) (μ : ι → Nat) (i0 : ι) (hs : Sub (σI i0) σ) (h0 : I i0 w)
  (round : ∀ i w, I i w → EC P n c (Exit.then (fun a' w' => ∃ i', Env n (σI i') a' ∧ I i' w' ∧ μ i' < μ i) Q) (σI i) w) : EC P n (.loop c) Q σ w := by
 intro a ha;refine wp_loop_ghost (fun k a w => ∃ i, Env n (σI i) a ∧ I i w ∧ μ i = k) (μ i0) ⟨i0, ha.sub hs, h0, rfl⟩ fun k a w hI => ?_
 obtain ⟨i, h1, h2, rfl⟩ := hI;refine wp_mono (round i w h2 a h1) fun e a' w' hq => ?_
 cases e with
 | normal =>
  obtain ⟨i', h4, h5, h6⟩ := hq
  exact ⟨μ i', h6, i', h4, h5, rfl⟩
 | _ => exact hq
/-! ### Exits -/
theorem EX.seq {y : Code} (h : EC P n y Q σ w) : EX n (Exit.then (y.wp P Q) Q) .normal σ w := h
theorem EX.seq_exit {K : Act → World → Prop} {i : Nat} (h : EX n Q (.exit i) σ w) : EX n (Exit.then K Q) (.exit i) σ w := h
theorem EX.seq_ret {K : Act → World → Prop} (h : EX n Q .ret σ w) : EX n (Exit.then K Q) .ret σ w := h
theorem EX.blk {id : Nat} (h : EX n Q .normal σ w) : EX n (Exit.inBlock id Q) .normal σ w := h
theorem EX.blk_ret {id : Nat} (h : EX n Q .ret σ w) : EX n (Exit.inBlock id Q) .ret σ w := h
theorem EX.blk_here {id : Nat} (h : EX n Q .normal σ w) : EX n (Exit.inBlock id Q) (.exit id) σ w := fun a ha => by
 simp only [Exit.inBlock, if_true]
 exact h a ha
theorem EX.blk_other {id i : Nat} (hi : Nat.beq i id = false) (h : EX n Q (.exit i) σ w) : EX n (Exit.inBlock id Q) (.exit i) σ w := fun a ha => by
 simp only [Exit.inBlock, if_neg (Nat.ne_of_beq_eq_false hi)]
 exact h a ha
/-- a loop's round is done -/
theorem EX.round {ι : Type} {σI : ι → Sg} {I : ι → World → Prop} {μ : ι → Nat} {i : ι} (i' : ι) (hs : Sub (σI i') σ) (hI : I i' w) (hm : μ i' < μ i) : EX n (Exit.then (fun a' w' => ∃ i', Env n (σI i') a' ∧ I i' w' ∧ μ i' < μ i) Q) .normal σ w :=
 fun _ ha => ⟨i', ha.sub hs, hI, hm⟩
/-! ### Loops, over the slots that the body leaves alone -/
def insL (σ : Sg) : List (Nat × Value) → Sg
 | [] => σ
 | p :: l => ins (insL σ l) p.1 p.2
def QCH (σ : Sg) : List (Nat × Value) → Prop
 | [] => True
 | p :: l => σ p.1 = some p.2 ∧ QCH σ l
theorem QAn (h : Sub τ σ) : ∀ {l : List (Nat × Value)}, QCH σ l → Sub (insL τ l) σ
 | [], _ => h
 | _ :: _, ha => Sub.ins (QAn h ha.2) ha.1
theorem QJM {σ0 : Sg} {ds : List Nat} {d : Nat} {v : Value} (hd : memB ds d = true) (h : Sub (del σ0 ds) τ) : Sub (del σ0 ds) (ins τ d v) :=
 h.skip (by unfold del; rw [hd]; rfl)
def QEW : List Nat → List Nat → Bool
 | [], _ => true
 | d :: l, ds => bif memB ds d then QEW l ds else false
theorem QDQ : ∀ {l ds : List Nat}, QEW l ds = true → ∀ t, memB l t = true → memB ds t = true
 | [], _, _, t, h => by cases h
 | d :: l, ds, h, t, ht => by
  unfold QEW at h
  cases e : memB ds d with
  | false => rw [e] at h; cases h
  | true =>
   rw [e] at h
   unfold memB at ht
   cases e2 : Nat.beq t d with
   | true => rw [Nat.eq_of_beq_eq_true e2]; exact e
   | false => rw [e2] at ht; exact QDQ h t ht
/-- through an inner loop -/
theorem QKp {σ0 : Sg} {ds ds2 : List Nat} (hd : QEW ds2 ds = true) (h : Sub (del σ0 ds) τ) : Sub (del σ0 ds) (del τ ds2) := fun t v ht => by
 have hn : memB ds2 t = false := by
  rcases Bool.eq_false_or_eq_true (memB ds2 t) with h1 | h1
  ·have := QDQ hd t h1
   unfold del at ht
   rw [this] at ht
   cases ht
  ·exact h1
 have h2 := h t v ht
 unfold del
 rw [hn]
 exact h2
theorem QFJ {σ0 : Sg} (h : Sub σ0 τ) : Sub σ0 (insL τ []) := h
theorem EC.loopD {c : Code} {ι : Type} (ds : List Nat) (vs : ι → List (Nat × Value)) (I : ι → World → Prop) (μ : ι → Nat) (i0 : ι) (h0 : I i0 w) (hs : QCH σ (vs i0))
  (round : ∀ i w, I i w → EC P n c (Exit.then (fun a' w' => ∃ i', Env n (insL (del σ ds) (vs i')) a' ∧ I i' w' ∧ μ i' < μ i) Q) (insL (del σ ds) (vs i)) w) : EC P n (.loop c) Q σ w :=
 EC.loop (fun i => insL (del σ ds) (vs i)) I μ i0 (QAn ((Sub.refl σ).del ds) hs) h0 round
theorem EX.roundD {ι : Type} {σ0 : Sg} {ds : List Nat} {vs : ι → List (Nat × Value)} {I : ι → World → Prop} {μ : ι → Nat} {i : ι} (i' : ι) (hv : QCH σ (vs i')) (hd : Sub (del σ0 ds) σ) (hI : I i' w) (hm : μ i' < μ i) : EX n (Exit.then (fun a' w' => ∃ i', Env n (insL (del σ0 ds) (vs i')) a' ∧ I i' w' ∧ μ i' < μ i) Q) .normal σ w :=
 fun _ ha => ⟨i', ha.sub (QAn hd hv), hI, hm⟩
/-! ### A call's beginning and end -/
theorem QGs : ∀ (l : List Value) (k t : Nat) (v : Value), QEU l k t = some v → k ≤ t ∧ l[t - k]? = some v
 | [], _, _, _, h => by cases h
 | u :: l, k, t, v, h => by
  unfold QEU at h
  cases e : Nat.beq t k with
  | true =>
   have e' := Nat.eq_of_beq_eq_true e;subst e';rw [e] at h
   injection h with h
   simp [h]
  | false =>
   have e' := Nat.ne_of_beq_eq_false e;rw [e] at h;have := QGs l (k + 1) t v h;refine ⟨by omega, ?_⟩
   rw [show t - k = (t - (k + 1)) + 1 by omega]
   simpa using this.2
theorem QGi {l : List Value} (hn : l.length ≤ n) : Env n (QEU l 0) { tmps := l.toArray ++ Array.replicate (n - l.length) undef, defers := [] } := by
 refine ⟨by simp; omega, rfl, fun t v h => ?_⟩
 have h1 := (QGs l 0 t v h).2;have h2 : t < l.length := by
  rcases Nat.lt_or_ge t l.length with h' | h'
  ·exact h'
  ·rw [Nat.sub_zero, List.getElem?_eq_none h'] at h1; cases h1
 rw [Array.getElem?_append_left (by simpa using h2)]
 simpa using h1
theorem EC.calls {f : FuncId} {fn : Func} {c : Code} {args : List Value} {R : Ending → World → Prop} (hf : P.funcs[f]? = some fn) (hb : fn.body = some c) (hn : Nat.ble args.length fn.ntmps = true) (h : EC P fn.ntmps c (bodyPost P fn R) (QEU args 0) w) : Calls P f args.toArray w R :=
 calls_of_wp hf hb (by
  have := h _ (QGi (l := args) (by simpa [Nat.ble_eq] using hn))
  simpa using this)
theorem EC.enter {f : FuncId} {fn : Func} {c : Code} {args : List Value} {R : Ending → World → Prop} (n : Nat) (hf : P.funcs[f]? = some fn) (hb : fn.body = some c) (hn : fn.ntmps = n) (hl : Nat.ble args.length n = true) (h : EC P n c (bodyPost P fn R) (QEU args 0) w) : Calls P f args.toArray w R := by
 subst hn
 exact EC.calls hf hb hl h
theorem EX.done {fn : Func} {R : Ending → World → Prop} {v : Value} (hr : ∀ a, Env n σ a → (results fn a.tmps).run P w = .ok v w) (h : R (.returned v) w) : EX n (bodyPost P fn R) .ret σ w := fun a ha => ⟨ha.defers, v, hr a ha, h⟩
theorem EX.done' {fn : Func} {R : Ending → World → Prop} {v : Value} (hr : ∀ a, Env n σ a → (results fn a.tmps).run P w = .ok v w) (h : R (.returned v) w) : EX n (bodyPost P fn R) .normal σ w := fun a ha => ⟨ha.defers, v, hr a ha, h⟩
theorem res0 {fn : Func} (h : fn.results = #[]) (a : Act) (_ : Env n σ a) : (results fn a.tmps).run P w = .ok (.tuple #[]) w := results_none h _ P w
theorem res1 {fn : Func} {t : Tmp} {v : Value} (h : fn.results = #[.tmp t]) (ht : σ t = some v) (a : Act) (ha : Env n σ a) : (results fn a.tmps).run P w = .ok v w := by
 rw [results_tmp h];have := ha.eval (x := .tmp t) ht
 exact congrArg (fun v => Result.ok v w) this
theorem res2 {fn : Func} {t s : Tmp} {v u : Value} (h : fn.results = #[.tmp t, .tmp s]) (ht : σ t = some v) (hs : σ s = some u) (a : Act) (ha : Env n σ a) : (results fn a.tmps).run P w = .ok (.tuple #[v, u]) w := by
 rw [results_tmp2 h];have h1 : a.tmps.getD t undef = v := ha.eval (x := .tmp t) ht;have h2 : a.tmps.getD s undef = u := ha.eval (x := .tmp s) hs;rw [h1, h2]
theorem res3 {fn : Func} {t s r : Tmp} {v u x : Value} (h : fn.results = #[.tmp t, .tmp s, .tmp r]) (ht : σ t = some v) (hs : σ s = some u) (hx : σ r = some x) (a : Act) (ha : Env n σ a) : (results fn a.tmps).run P w = .ok (.tuple #[v, u, x]) w := by
 have h1 : a.tmps.getD t undef = v := ha.eval (x := .tmp t) ht;have h2 : a.tmps.getD s undef = u := ha.eval (x := .tmp s) hs;have h3 : a.tmps.getD r undef = x := ha.eval (x := .tmp r) hx
 simp [results, h]
 rw [Array.getD_eq_getD_getElem?] at h1 h2 h3
 simp [h1, h2, h3]
/-! ### A region that draws its order and only reads -/
def EQ (P : Program) (n : Nat) (L : List Oper) (C : World → Prop) (Z : Act → Prop) (rest : List Oper) (σ : Sg) : Prop := ∀ a, Env n σ a → wpQuiet P L.toArray C Z rest a
theorem EQ.nil {C : World → Prop} {Z : Act → Prop} (h : ∀ a, Env n σ a → Z a) : EQ P n L C Z [] σ := fun a ha => wpQuiet_nil (h a ha)
theorem QHS {C : World → Prop} {Z : Act → Prop} {o : Oper} {a : Act} (hg : Region.wanted o (yielded L.toArray a.tmps) = true) {v : Value} (hr : ∀ w, C w → (execOp a.eval o).run P w = .ok (.value v) w) (hk : wpQuiet P L.toArray C Z rest (a.put o.dst v)) : wpQuiet P L.toArray C Z (o :: rest) a := by
 unfold wpQuiet
 rw [if_pos hg];refine ⟨v, fun w hw => ?_, hk⟩
 unfold Oper.quietAt
 rw [hr w hw]
 exact ⟨rfl, rfl⟩
theorem EQ.val {C : World → Prop} {Z : Act → Prop} {d ty : Nat} {op : Op} {pos : String} {af : Array Edge} {v : Value} (h : ∀ w, C w → ZI P n σ w ⟨some d, op, ty, pos, af, none⟩ v) (hd : Nat.blt d n = true) (k : EQ P n L C Z rest (ins σ d v)) : EQ P n L C Z (⟨some d, op, ty, pos, af, none⟩ :: rest) σ :=
 fun a ha => QHS (ZU rfl _) (fun w hw => h w hw a ha) (k _ (ha.put hd v))
theorem EQ.valg {C : World → Prop} {Z : Act → Prop} {d ty j t : Nat} {b : Bool} {op : Op} {pos : String} {af : Array Edge} {v : Value} (hj : ZS L j = some t) (ht : σ t = some (.bool b)) (h : ∀ w, C w → ZI P n σ w ⟨some d, op, ty, pos, af, some (j, b)⟩ v) (hd : Nat.blt d n = true) (k : EQ P n L C Z rest (ins σ d v)) : EQ P n L C Z (⟨some d, op, ty, pos, af, some (j, b)⟩ :: rest) σ :=
 fun a ha => QHS (by simp [Region.wanted, Y9 ha hj ht]) (fun w hw => h w hw a ha) (k _ (ha.put hd v))
theorem EQ.skip {C : World → Prop} {Z : Act → Prop} {d ty j t : Nat} {b : Bool} {op : Op} {pos : String} {af : Array Edge} {u : Value} (hj : ZS L j = some t) (ht : σ t = some u) (hb : QBf b u = false) (hd : Nat.blt d n = true) (k : EQ P n L C Z rest (ins σ d undef)) : EQ P n L C Z (⟨some d, op, ty, pos, af, some (j, b)⟩ :: rest) σ := fun a ha => by
 unfold wpQuiet
 have hw : Region.wanted (⟨some d, op, ty, pos, af, some (j, b)⟩ : Oper) (yielded L.toArray a.tmps) = false := by
  simp only [Region.wanted, Y9 ha hj ht]
  cases u <;> first | rfl | (simp only [QBf] at hb; simpa using hb)
 rw [hw, if_neg (by simp)]
 exact k _ (ha.put hd undef)
theorem EQ.call {C : World → Prop} {Z : Act → Prop} {d ty : Nat} {op : Op} {pos : String} {af : Array Edge} {f : FuncId} {args : Array Value} {v : Value} (hr : ∀ w a, C w → Env n σ a → (execOp a.eval ⟨some d, op, ty, pos, af, none⟩).run P w = .ok (.enter f args) w) (hd : Nat.blt d n = true) (hc : ∀ w, C w → Calls P f args w fun e w' => e = .returned v ∧ C w')
  (k : EQ P n L C Z rest (ins σ d v)) : EQ P n L C Z (⟨some d, op, ty, pos, af, none⟩ :: rest) σ := fun a ha => by
 unfold wpQuiet
 rw [if_pos (ZU rfl _)];refine ⟨v, fun w hw => ?_, k _ (ha.put hd v)⟩
 unfold Oper.quietAt
 rw [hr w a hw ha]
 exact ⟨rfl, hc w hw⟩
theorem EQ.callg {C : World → Prop} {Z : Act → Prop} {d ty j t : Nat} {b : Bool} {op : Op} {pos : String} {af : Array Edge} {f : FuncId} {args : Array Value} {v : Value} (hj : ZS L j = some t) (ht : σ t = some (.bool b)) (hr : ∀ w a, C w → Env n σ a → (execOp a.eval ⟨some d, op, ty, pos, af, some (j, b)⟩).run P w = .ok (.enter f args) w) (hd : Nat.blt d n = true) (hc : ∀ w, C w → Calls P f args w fun e w' => e = .returned v ∧ C w')
  (k : EQ P n L C Z rest (ins σ d v)) : EQ P n L C Z (⟨some d, op, ty, pos, af, some (j, b)⟩ :: rest) σ := fun a ha => by
 unfold wpQuiet
 rw [if_pos (by simp [Region.wanted, Y9 ha hj ht])]
 refine ⟨v, fun w hw => ?_, k _ (ha.put hd v)⟩
 unfold Oper.quietAt
 rw [hr w a hw ha]
 exact ⟨rfl, hc w hw⟩
/-- the class: below the heap's size nothing has turned -/
theorem EC.regionQ {id : Nat} {l : List Oper} (hm : P.follows .mixedOrders = true) (hB : lexQ l 0 l = true) (h : EQ P n l (fun w' => Below w.heap.size w w') (fun a' => ∀ w', Below w.heap.size w w' → Q .normal a' w') l σ) : EC P n (.region id l.toArray true) Q σ w :=
 fun a ha => QDp (C := fun w' => Below w.heap.size w w') hm hB ⟨rfl, rfl, rfl, Nat.le_refl _, fun _ _ => rfl⟩ (h a ha)
theorem EQ.fin (h : ∀ w', Below w.heap.size w w' → EX n Q .normal σ w') : EQ P n L (fun w' => Below w.heap.size w w') (fun a' => ∀ w', Below w.heap.size w w' → Q .normal a' w') [] σ := EQ.nil fun a ha w' hw => h w' hw a ha
end
/-! ### What the operations yield -/
section
variable {P : Program} {n : Nat} {σ : Sg} {w : World} {dst : Option Tmp} {ty : TypeId} {pos : String} {af : Array Edge} {g : Option (Nat × Bool)} {x y z : Operand} {t t' : TypeId} {v : Value} {k : IntKind} {a b c : Int} {r : Bool}
theorem x_move (hx : evS σ x = some v) : ZI P n σ w ⟨dst, .move x, ty, pos, af, g⟩ v := fun a ha => by
 simp only [execOp, ha.eval hx]; rfl
theorem ZZ (hx : evS σ x = some v) : ZI P n σ w ⟨dst, .assign x, ty, pos, af, g⟩ v := fun a ha => by
 simp only [execOp, ha.eval hx]; rfl
theorem x_add (hx : evS σ x = some (.int k a)) (hy : evS σ y = some (.int k b)) (hc : k.wrap (a + b) = c) : ZI P n σ w ⟨dst, .binOp .add t x y t', ty, pos, af, g⟩ (.int k c) := fun _ ha => by
 simp only [execOp, ha.eval hx, ha.eval hy]
 simp [go_sem, hc]
theorem Z_ (hx : evS σ x = some (.int k a)) (hy : evS σ y = some (.int k b)) (hc : k.wrap (a - b) = c) : ZI P n σ w ⟨dst, .binOp .sub t x y t', ty, pos, af, g⟩ (.int k c) := fun _ ha => by
 simp only [execOp, ha.eval hx, ha.eval hy]
 simp [go_sem, hc]
theorem QAY (hx : evS σ x = some (.int k a)) (hy : evS σ y = some (.int k b)) (hc : k.wrap (a * b) = c) : ZI P n σ w ⟨dst, .binOp .mul t x y t', ty, pos, af, g⟩ (.int k c) := fun _ ha => by
 simp only [execOp, ha.eval hx, ha.eval hy]
 simp [go_sem, hc]
theorem QLp (hx : evS σ x = some (.int k a)) (hy : evS σ y = some (.int k b)) (hb : b ≠ 0) (hc : k.wrap (a.tdiv b) = c) : ZI P n σ w ⟨dst, .binOp .quo t x y t', ty, pos, af, g⟩ (.int k c) := fun _ ha => by
 simp only [execOp, ha.eval hx, ha.eval hy]
 simp [go_sem, hc, hb]
theorem QCI (hx : evS σ x = some (.int k a)) (hy : evS σ y = some (.int k b)) (hb : b ≠ 0) (hc : a.tmod b = c) : ZI P n σ w ⟨dst, .binOp .rem t x y t', ty, pos, af, g⟩ (.int k c) := fun _ ha => by
 simp only [execOp, ha.eval hx, ha.eval hy]
 simp [go_sem, hc, hb]
theorem ZO (hx : evS σ x = some (.int k a)) (hy : evS σ y = some (.int k b)) (hc : decide (a < b) = r) : ZI P n σ w ⟨dst, .binOp .lss t x y t', ty, pos, af, g⟩ (.bool r) := fun _ ha => by
 simp only [execOp, ha.eval hx, ha.eval hy]
 simp [go_sem, ← hc]
theorem QF1 (hx : evS σ x = some (.int k a)) (hy : evS σ y = some (.int k b)) (hc : decide (a ≤ b) = r) : ZI P n σ w ⟨dst, .binOp .leq t x y t', ty, pos, af, g⟩ (.bool r) := fun _ ha => by
 simp only [execOp, ha.eval hx, ha.eval hy]
 simp [go_sem, ← hc]
theorem Zw (hx : evS σ x = some (.int k a)) (hy : evS σ y = some (.int k b)) (hc : decide (b < a) = r) : ZI P n σ w ⟨dst, .binOp .gtr t x y t', ty, pos, af, g⟩ (.bool r) := fun _ ha => by
 simp only [execOp, ha.eval hx, ha.eval hy]
 simp [go_sem, ← hc]
theorem QDA (hx : evS σ x = some (.int k a)) (hy : evS σ y = some (.int k b)) (hc : decide (b ≤ a) = r) : ZI P n σ w ⟨dst, .binOp .geq t x y t', ty, pos, af, g⟩ (.bool r) := fun _ ha => by
 simp only [execOp, ha.eval hx, ha.eval hy]
 simp [go_sem, ← hc]
theorem Zx (hx : evS σ x = some (.int k a)) (hy : evS σ y = some (.int k b)) (hc : decide (a = b) = r) : ZI P n σ w ⟨dst, .binOp .eql t x y t', ty, pos, af, g⟩ (.bool r) := fun _ ha => by
 simp only [execOp, ha.eval hx, ha.eval hy]
 simp [go_sem, ← hc]
 by_cases h : a = b <;> simp [h]
theorem Zn (hx : evS σ x = some (.int k a)) (hy : evS σ y = some (.int k b)) (hc : decide (a ≠ b) = r) : ZI P n σ w ⟨dst, .binOp .neq t x y t', ty, pos, af, g⟩ (.bool r) := fun _ ha => by
 simp only [execOp, ha.eval hx, ha.eval hy]
 simp [go_sem, ← hc]
 by_cases h : a = b <;> simp [h]
theorem QLq (hx : evS σ x = some (.int k a)) (hc : k.wrap (-a) = c) : ZI P n σ w ⟨dst, .unOp .neg t x, ty, pos, af, g⟩ (.int k c) := fun _ ha => by
 simp only [execOp, ha.eval hx]
 simp [go_sem, hc]
theorem ZX (hx : evS σ x = some (.bool r)) : ZI P n σ w ⟨dst, .unOp .not t x, ty, pos, af, g⟩ (.bool (!r)) := fun _ ha => by
 simp only [execOp, ha.eval hx]
 simp [go_sem]
theorem YH (hx : evS σ x = some (.bool true)) (hy : evS σ y = some v) : ZI P n σ w ⟨dst, .pick x y z, ty, pos, af, g⟩ v := fun _ ha => by
 simp only [execOp, ha.eval hx, ha.eval hy]
 simp [go_sem]
theorem Zz (hx : evS σ x = some (.bool false)) (hy : evS σ z = some v) : ZI P n σ w ⟨dst, .pick x y z, ty, pos, af, g⟩ v := fun _ ha => by
 simp only [execOp, ha.eval hx, ha.eval hy]
 simp [go_sem]
theorem ZP {vs : Array Value} {i : Nat} (hx : evS σ x = some (.tuple vs)) (hi : vs[i]? = some v) : ZI P n σ w ⟨dst, .extract x i, ty, pos, af, g⟩ v := fun _ ha => by
 simp only [execOp, ha.eval hx]
 simp [go_sem, hi]
theorem ZH {p : Addr} (hx : evS σ x = some (.pointer (some p))) : ZI P n σ w ⟨dst, .nilCheck x, ty, pos, af, g⟩ (.pointer (some p)) := fun _ ha => by
 simp only [execOp, ha.eval hx]
 simp [go_sem]
end
end Go.Proofs.Ytlbfnimilcnihaa
namespace Go.Proofs.Ytlbfnimilcnihaa
open Go
section
variable {P : Program} {ops : Array Oper} {Q : Exit → Act → World → Prop}
/-- every operation waits for earlier ones alone: by reckoning -/
def QDP (ops : Array Oper) : Bool := (List.range ops.size).all fun i => match ops[i]? with
 | some o => o.after.all fun e => !Region.binds .any e || decide (e.on < i)
 | none => true
theorem QES (h : QDP ops = true) {i : Nat} {o : Oper} (ho : ops[i]? = some o) {e} (he : e ∈ o.after) (hb : Region.binds .any e = true) : e.on < i := by
 have hi := (Array.getElem?_eq_some_iff.1 ho).1;have h1 := List.all_eq_true.1 h i (List.mem_range.2 hi);rw [ho] at h1;have h2 := Array.all_eq_true_iff_forall_mem.1 h1 e he;rw [hb] at h2
 simpa using h2
def QD5 (n : Nat) (listed : Array Bool) : Nat := ((List.range n).filter fun j => !listed.getD j true).length
theorem QCZ {n i : Nat} {listed : Array Bool} (hi : i < n) (hs : listed.size = n) (hl : listed.getD i true = false) : QD5 n (listed.setIfInBounds i true) < QD5 n listed := by
 unfold QD5
 have e : (List.range n).filter (fun j => !(listed.setIfInBounds i true).getD j true) = ((List.range n).filter fun j => !listed.getD j true).filter fun j => !(listed.setIfInBounds i true).getD j true := by
  rw [List.filter_filter];refine List.filter_congr fun j hj => ?_
  have hj' : j < n := List.mem_range.1 hj
  by_cases h : i = j
  ·subst h
   simp [Array.getD, hs, hi]
  ·simp [Array.getD, hs, hj', h]
 rw [e];refine List.length_filter_lt_length_iff_exists.2 ⟨i, ?_, ?_⟩
 ·rw [List.mem_filter]
  exact ⟨List.mem_range.2 hi, by rw [hl]; rfl⟩
 ·simp [Array.getD, hs, hi]
theorem QIT (hback : QDP ops = true) (I : Array Bool → Act → World → Prop)
  (hstep : ∀ (L : Array Bool) (a : Act) (w : World) (i : Nat) (o : Oper), L.size = ops.size → I L a w → L.getD i true = false → ops[i]? = some o → (∀ e ∈ o.after, Region.binds .any e = true → L.getD e.on false = true) →
   wpOp P ops Q i (I (L.setIfInBounds i true)) a w)
  (hend : ∀ (L : Array Bool) (a : Act) (w : World), L.size = ops.size → I L a w → (∀ i, i < ops.size → L.getD i false = true) → Q .normal a w) :
  ∀ (fuel : Nat) (L : Array Bool) (a : Act) (w : World), L.size = ops.size → QD5 ops.size L ≤ fuel → I L a w → wpAny P .any ops Q fuel L a w := by
 have hall : ∀ (L : Array Bool), L.size = ops.size → Region.ready .any ops L = [] → ∀ i, i < ops.size → L.getD i false = true := by
  intro L hs hr i
  induction i using Nat.strongRecOn with
  | ind i ih =>
   intro hi
   rcases Bool.eq_false_or_eq_true (L.getD i false) with h | h
   ·exact h
   ·exfalso
    have hm : i ∈ Region.ready .any ops L := by
     refine mem_ready.2 ⟨?_, ops[i], Array.getElem?_eq_getElem hi, fun e he hb => ?_⟩
     ·simp [Array.getD, hs, hi] at h ⊢
      exact h
     ·have := QES hback (Array.getElem?_eq_getElem hi) he hb
      exact ih e.on this (by omega)
    rw [hr] at hm
    cases hm
 intro fuel
 induction fuel with
 | zero =>
  intro L a w hs hf hI;have hr : Region.ready .any ops L = [] := by
   refine List.eq_nil_iff_forall_not_mem.2 fun i hi => ?_
   obtain ⟨h1, o, ho, _⟩ := mem_ready.1 hi;have := QCZ (Array.getElem?_eq_some_iff.1 ho).1 hs h1
   omega
  exact ⟨hr, hend L a w hs hI (hall L hs hr)⟩
 | succ fuel ih =>
  intro L a w hs hf hI;refine ⟨fun hr => hend L a w hs hI (hall L hs hr), fun i hi => ?_⟩
  obtain ⟨h1, o, ho, h2⟩ := mem_ready.1 hi;have hlt := QCZ (Array.getElem?_eq_some_iff.1 ho).1 hs h1
  exact wpOp_mono (fun a' w' h => ih _ a' w' (by simpa using hs) (by omega) h) (hstep L a w i o hs hI h1 ho h2)
end
def upd (val : Nat → Value) (i : Nat) (v : Value) : Nat → Value := fun j => if j = i then v else val j
section
variable {ops : Array Oper} {val : Nat → Value} {L : Array Bool}
theorem QCU (a : Act) (d : Option Tmp) (v : Value) : (a.put d v).tmps.size = a.tmps.size := by cases d <;> simp [Act.put]
end
end Go.Proofs.Ytlbfnimilcnihaa
namespace Go.Proofs.Ytlbfnimilcnihaa
open Go Go.RowKit
def clsAt : List (List Nat) → Nat → List Nat
 | [], _ => []
 | c :: _, 0 => c
 | _ :: l, i + 1 => clsAt l i
def res (val : Nat → Value) (i : Nat) (l : List Nat) : Nat → Value := fun j => bif Nat.beq j i then val j else bif memB l j then val j else undef
def QDI (L : List Oper) (t : Nat) : List Nat → Option Nat
 | [] => none
 | j :: l => match ZS L j with
  | some d => bif Nat.beq d t then some j else QDI L t l
  | none => QDI L t l
/-- whoever writes slot t comes behind operation i -/
def oldB (L : List Oper) (cls : List (List Nat)) (i t : Nat) : Nat → Bool
 | 0 => true
 | k + 1 => bif (match ZS L k with
     | some d => bif Nat.beq d t then (bif Nat.beq k i then true else memB (clsAt cls k) i) else true
     | none => true) then oldB L cls i t k else false
def sgAt (L : List Oper) (cls : List (List Nat)) (m : Nat) (σ : Sg) (val : Nat → Value) (i : Nat) : Sg := fun t => match QDI L t (clsAt cls i) with
 | some j => some (val j)
 | none => bif oldB L cls i t m then σ t else none
def sgEnd (L : List Oper) (σ : Sg) (val : Nat → Value) : Nat → Sg
 | 0 => σ
 | k + 1 => match ZS L k with
  | some d => ins (sgEnd L σ val k) d (val k)
  | none => sgEnd L σ val k
/-! ### What is reckoned -/
def QEE (cls : List (List Nat)) (j : Nat) : List Edge → Bool
 | [] => false
 | e :: l => bif Region.binds .any e then (bif Nat.beq e.on j then true else bif memB (clsAt cls e.on) j then true else QEE cls j l) else QEE cls j l
def QGt (cls : List (List Nat)) (af : List Edge) : List Nat → Bool
 | [] => true
 | j :: l => bif QEE cls j af then QGt cls af l else false
def QA0 (l : List Nat) : Nat → Bool
 | 0 => true
 | k + 1 => bif memB l k then QA0 l k else false
/-- from number i on -/
def QAJ (n : Nat) (cls : List (List Nat)) (m : Nat) : Nat → List Oper → Bool
 | _, [] => true
 | i, o :: l => bif QCx i o.after.toList then (bif QGt cls o.after.toList (clsAt cls i) then
   (bif Nat.blt i m then (bif (match o.dst with
    | some d => bif Nat.blt d n then noDst d l (m - (i + 1)) else false
    | none => true) then QAJ n cls m (i + 1) l else false)
   else (bif QA0 (clsAt cls i) i then QAJ n cls m (i + 1) l else false)) else false) else false
where
 noDst (d : Nat) : List Oper → Nat → Bool
  | [], _ => true
  | _, 0 => true
  | o :: l, k + 1 => match o.dst with
   | some e => bif Nat.beq d e then false else noDst d l k
   | none => noDst d l k
theorem ZA : ∀ {l : List Nat} {j : Nat}, memB l j = true ↔ j ∈ l
 | [], j => by simp [memB]
 | d :: l, j => by
  unfold memB
  cases e : Nat.beq j d with
  | true => have := Nat.eq_of_beq_eq_true e; simp [this]
  | false =>
   have := Nat.ne_of_beq_eq_false e
   simp [this, ZA (l := l)]
theorem dstOf_at {L : List Oper} {i : Nat} {o : Oper} (h : L[i]? = some o) : ZS L i = o.dst := by
 rw [← QCn]
 simp [h]
theorem QAV {L : List Oper} {t : Nat} : ∀ {l : List Nat} {j : Nat}, QDI L t l = some j → j ∈ l ∧ ZS L j = some t
 | [], j, h => by cases h
 | k :: l, j, h => by
  unfold QDI at h
  cases hd : ZS L k with
  | none => simp only [hd] at h; obtain ⟨h1, h2⟩ := QAV h; exact ⟨by simp [h1], h2⟩
  | some d =>
   simp only [hd] at h
   cases e : Nat.beq d t with
   | true =>
    rw [e] at h
    injection h with h
    subst h
    exact ⟨by simp, by rw [hd, Nat.eq_of_beq_eq_true e]⟩
   | false =>
    rw [e] at h;obtain ⟨h1, h2⟩ := QAV h
    exact ⟨by simp [h1], h2⟩
theorem QBq {L : List Oper} {cls : List (List Nat)} {i t : Nat} : ∀ {m : Nat}, oldB L cls i t m = true → ∀ k, k < m → ZS L k = some t → k = i ∨ i ∈ clsAt cls k
 | 0, _, k, hk, _ => by omega
 | m + 1, h, k, hk, hd => by
  unfold oldB at h
  by_cases e : k = m
  ·subst e
   simp only [hd, Nat.beq_refl, cond_true] at h
   cases e1 : Nat.beq k i with
   | true => exact .inl (Nat.eq_of_beq_eq_true e1)
   | false =>
    rw [e1] at h
    cases e2 : memB (clsAt cls k) i with
    | true => exact .inr (ZA.1 e2)
    | false => rw [e2] at h; cases h
  ·refine QBq (m := m) ?_ k (by omega) hd
   revert h
   generalize (match ZS L m with
   | some d => bif Nat.beq d t then (bif Nat.beq m i then true else memB (clsAt cls m) i) else true
   | none => true) = b
   cases b <;> simp
theorem QCE {cls : List (List Nat)} {j : Nat} : ∀ {l : List Edge}, QEE cls j l = true → ∃ e ∈ l, Region.binds .any e = true ∧ (e.on = j ∨ j ∈ clsAt cls e.on)
 | [], h => by cases h
 | e :: l, h => by
  unfold QEE at h
  cases hb : Region.binds .any e with
  | false => rw [hb] at h; obtain ⟨e', h1, h2⟩ := QCE h; exact ⟨e', by simp [h1], h2⟩
  | true =>
   rw [hb] at h
   cases h1 : Nat.beq e.on j with
   | true => exact ⟨e, by simp, hb, .inl (Nat.eq_of_beq_eq_true h1)⟩
   | false =>
    rw [h1] at h
    cases h2 : memB (clsAt cls e.on) j with
    | true => exact ⟨e, by simp, hb, .inr (ZA.1 h2)⟩
    | false => rw [h2] at h; obtain ⟨e', h3, h4⟩ := QCE h; exact ⟨e', by simp [h3], h4⟩
theorem QEX {cls : List (List Nat)} {af : List Edge} : ∀ {l : List Nat}, QGt cls af l = true → ∀ j ∈ l, QEE cls j af = true
 | [], _, j, h => by cases h
 | k :: l, h, j, hj => by
  unfold QGt at h
  cases h1 : QEE cls k af with
  | false => rw [h1] at h; cases h
  | true =>
   rw [h1] at h
   rcases List.mem_cons.1 hj with rfl | hj
   ·exact h1
   ·exact QEX h j hj
theorem QB5 {l : List Nat} : ∀ {k : Nat}, QA0 l k = true → ∀ j, j < k → j ∈ l
 | 0, _, j, h => by omega
 | k + 1, h, j, hj => by
  unfold QA0 at h
  cases h1 : memB l k with
  | false => rw [h1] at h; cases h
  | true =>
   rw [h1] at h
   by_cases e : j = k
   ·subst e; exact ZA.1 h1
   ·exact QB5 h j (by omega)
theorem QD6 {d : Nat} : ∀ {l : List Oper} {k : Nat}, QAJ.noDst d l k = true → ∀ j o, l[j]? = some o → j < k → o.dst ≠ some d
 | [], _, _, j, o, h, _ => by simp at h
 | x :: l, 0, _, j, o, h, hj => by omega
 | x :: l, k + 1, h, j, o, ho, hj => by
  unfold QAJ.noDst at h
  have hx : x.dst ≠ some d ∧ QAJ.noDst d l k = true := by
   cases hd : x.dst with
   | none => rw [hd] at h; exact ⟨by simp, h⟩
   | some e =>
    rw [hd] at h
    simp only at h
    cases h1 : Nat.beq d e with
    | true => rw [h1] at h; cases h
    | false =>
     rw [h1] at h;refine ⟨fun e' => ?_, h⟩
     injection e' with e'
     exact Nat.ne_of_beq_eq_false h1 e'.symm
  cases j with
  | zero => simp at ho; subst ho; exact hx.1
  | succ j => exact QD6 hx.2 j o (by simpa using ho) (by omega)
structure HeadOk (n : Nat) (cls : List (List Nat)) (m : Nat) (L : List Oper) : Prop where
 dep : ∀ i o, L[i]? = some o → ∀ j ∈ clsAt cls i, ∃ e ∈ o.after, Region.binds .any e = true ∧ (e.on = j ∨ j ∈ clsAt cls e.on)
 back : ∀ i o, L[i]? = some o → ∀ e ∈ o.after, Region.binds .any e = true → e.on < i
 small : ∀ i o d, L[i]? = some o → i < m → o.dst = some d → d < n
 dist : ∀ i j o p d, L[i]? = some o → L[j]? = some p → i < j → j < m → o.dst = some d → p.dst ≠ some d
 tail : ∀ i o, L[i]? = some o → m ≤ i → ∀ j, j < i → j ∈ clsAt cls i
theorem QEF {n : Nat} {cls : List (List Nat)} {m : Nat} : ∀ {l : List Oper} {k : Nat}, QAJ n cls m k l = true →
  (∀ i o, l[i]? = some o → ∀ j ∈ clsAt cls (k + i), ∃ e ∈ o.after, Region.binds .any e = true ∧ (e.on = j ∨ j ∈ clsAt cls e.on)) ∧
  (∀ i o, l[i]? = some o → ∀ e ∈ o.after, Region.binds .any e = true → e.on < k + i) ∧
  (∀ i o d, l[i]? = some o → k + i < m → o.dst = some d → d < n) ∧
  (∀ i j o p d, l[i]? = some o → l[j]? = some p → i < j → k + j < m → o.dst = some d → p.dst ≠ some d) ∧
  (∀ i o, l[i]? = some o → m ≤ k + i → ∀ j, j < k + i → j ∈ clsAt cls (k + i))
 | [], k, _ => ⟨by simp, by simp, by simp, by simp, by simp⟩
 | o :: l, k, h => by
  unfold QAJ at h
  cases h1 : QCx k o.after.toList with
  | false => rw [h1] at h; cases h
  | true =>
  rw [h1] at h
  cases h2 : QGt cls o.after.toList (clsAt cls k) with
  | false => rw [h2] at h; cases h
  | true =>
  rw [h2] at h
  simp only [cond_true] at h
  have hrec : QAJ n cls m (k + 1) l = true := by
   revert h
   cases Nat.blt k m
   ·cases QA0 (clsAt cls k) k <;> simp
   ·simp only [cond_true]
    generalize (match o.dst with
    | some d => bif Nat.blt d n then QAJ.noDst d l (m - (k + 1)) else false
    | none => true) = b
    cases b <;> simp
  obtain ⟨a1, a2, a3, a4, a5⟩ := QEF hrec;refine ⟨?_, ?_, ?_, ?_, ?_⟩
  ·intro i p hp j hj
   cases i with
   | zero =>
    simp at hp; subst hp
    obtain ⟨e, he, hb⟩ := QCE (QEX h2 j hj)
    exact ⟨e, by simpa using he, hb⟩
   | succ i => exact a1 i p (by simpa using hp) j (by rwa [show k + (i + 1) = k + 1 + i by omega] at hj)
  ·intro i p hp e he hb
   cases i with
   | zero => simp at hp; subst hp; exact QDm h1 e (by simpa using he) hb
   | succ i => have := a2 i p (by simpa using hp) e he hb; omega
  ·intro i p d hp hlt hd
   cases i with
   | zero =>
    simp at hp; subst hp
    have hb : Nat.blt k m = true := by simpa [Nat.blt_eq] using hlt
    rw [hb, hd] at h
    simp only [cond_true] at h
    cases h3 : Nat.blt d n with
    | true => simpa [Nat.blt_eq] using h3
    | false => rw [h3] at h; cases h
   | succ i => exact a3 i p d (by simpa using hp) (by omega) hd
  ·intro i j p q d hp hq hij hlt hd
   cases i with
   | zero =>
    simp at hp; subst hp
    have hb : Nat.blt k m = true := by have : k < m := by omega
                                       simpa [Nat.blt_eq] using this
    rw [hb, hd] at h
    simp only [cond_true] at h
    cases h3 : Nat.blt d n with
    | false => rw [h3] at h; cases h
    | true =>
    rw [h3] at h
    simp only [cond_true] at h
    cases h4 : QAJ.noDst d l (m - (k + 1)) with
    | false => rw [h4] at h; cases h
    | true =>
    cases j with
    | zero => omega
    | succ j => exact QD6 h4 j q (by simpa using hq) (by omega)
   | succ i =>
    cases j with
    | zero => omega
    | succ j => exact a4 i j p q d (by simpa using hp) (by simpa using hq) (by omega) (by omega) hd
  ·intro i p hp hm j hj
   cases i with
   | zero =>
    have hb : Nat.blt k m = false := by
     rw [← Bool.not_eq_true, Nat.blt_eq]; omega
    rw [hb] at h
    simp only [cond_false] at h
    cases h4 : QA0 (clsAt cls k) k with
    | false => rw [h4] at h; cases h
    | true => exact QB5 h4 j hj
   | succ i =>
    rw [show k + (i + 1) = k + 1 + i by omega]
    exact a5 i p (by simpa using hp) (by omega) j (by omega)
theorem QEG {n : Nat} {cls : List (List Nat)} {m : Nat} {L : List Oper} (h : QAJ n cls m 0 L = true) : HeadOk n cls m L := by
 obtain ⟨a1, a2, a3, a4, a5⟩ := QEF h
 simp only [Nat.zero_add] at a1 a2 a3 a4 a5
 exact ⟨a1, a2, a3, a4, a5⟩
section
variable {P : Program} {n : Nat} {σ : Sg} {w : World} {Q : Exit → Act → World → Prop} {L : List Oper}
/-- what stands in the way of operation i of the head -/
def QKd (P : Program) (n : Nat) (L : List Oper) (Q : Exit → Act → World → Prop) (cls : List (List Nat)) (m : Nat) (alc : List Nat) (σ : Sg) (w : World) (Φ : Nat → (Nat → Value) → World → Prop) (i : Nat) : Prop :=
 ∀ (val : Nat → Value) (w1 : World) (a : Act), Below w.heap.size w w1 → Env n (sgAt L cls m σ val i) a → (∀ j, j ∈ clsAt cls i → Φ j (res val j (clsAt cls j)) w1) →
  wpOp P L.toArray Q i (fun a' w' => ∃ v, a' = a.put (ZS L i) v ∧ Below w1.heap.size w1 w' ∧ Φ i (res (upd val i v) i (clsAt cls i)) w' ∧ (i ∈ alc → v = .pointer (some ⟨w1.heap.size, 0, none⟩) ∧ w1.heap.size < w'.heap.size)) a w1
/-- the blocks that were made here are apart -/
def Alc (alc : List Nat) (m : Nat) (val : Nat → Value) (w w' : World) : Prop :=
 (∀ i ∈ alc, i < m → ∃ g, val i = .pointer (some ⟨g, 0, none⟩) ∧ w.heap.size ≤ g ∧ g < w'.heap.size) ∧ ∀ i ∈ alc, ∀ j ∈ alc, i < m → j < m → i ≠ j → val i ≠ val j
/-- when some of the head have come up -/
structure HInv (n : Nat) (L : List Oper) (cls : List (List Nat)) (m : Nat) (alc : List Nat) (σ : Sg) (w : World) (Φ : Nat → (Nat → Value) → World → Prop) (D : Array Bool) (val : Nat → Value) (a : Act) (w' : World) : Prop where
 below : Below w.heap.size w w'
 size : a.tmps.size = n
 defers : a.defers = []
 new : ∀ i d, i < m → D.getD i false = true → ZS L i = some d → a.tmps[d]? = some (val i)
 old : ∀ t v, σ t = some v → (∀ k, k < m → D.getD k false = true → ZS L k ≠ some t) → a.tmps[t]? = some v
 says : ∀ i, i < m → D.getD i false = true → Φ i (res val i (clsAt cls i)) w'
 down : ∀ i, D.getD i false = true → ∀ j ∈ clsAt cls i, D.getD j false = true
 alc1 : ∀ i ∈ alc, i < m → D.getD i false = true → ∃ g, val i = .pointer (some ⟨g, 0, none⟩) ∧ w.heap.size ≤ g ∧ g < w'.heap.size
 alc2 : ∀ i ∈ alc, ∀ j ∈ alc, i < m → j < m → D.getD i false = true → D.getD j false = true → i ≠ j → val i ≠ val j
 high : ∀ i, m ≤ i → D.getD i false = false
theorem QDX {val : Nat → Value} {i j : Nat} {v : Value} {l : List Nat} (hj : j ≠ i) (hl : i ∉ l) : res (upd val i v) j l = res val j l := by
 funext k
 unfold res
 cases e : Nat.beq k j with
 | true => have := Nat.eq_of_beq_eq_true e; subst this; simp [upd, hj]
 | false =>
  cases e2 : memB l k with
  | true =>
   have : k ≠ i := fun h => hl (h ▸ ZA.1 e2)
   simp [upd, this]
  | false => rfl
theorem QAi {D : Array Bool} {i : Nat} (hi : i < D.size) (h : D.getD i true = false) : D.getD i false = false := by
 simp [Array.getD, hi] at h ⊢
 exact h
theorem set_get {D : Array Bool} {i : Nat} (hi : i < D.size) (k : Nat) : (D.setIfInBounds i true).getD k false = if k = i then true else D.getD k false := by
 by_cases e : k = i
 ·subst e; simp [Array.getD, hi]
 ·rw [if_neg e]
  by_cases hk : k < D.size
  ·simp [Array.getD, hk, Ne.symm e]
  ·simp [Array.getD, hk]
/-- in every order -/
def RO (P : Program) (ops : Array Oper) (Q : Exit → Act → World → Prop) (a : Act) (w : World) : Prop := ∀ t, wpOps P ops Q (Region.schedule (P.follows .mixedOrders) ops t) a { w with drawn := w.drawn + 1 }
theorem QJU {P : Program} {ops : Array Oper} {Q : Exit → Act → World → Prop} {a : Act} {w : World} (hm : P.follows .mixedOrders = true) (h : wpAny P .any ops Q ops.size (Array.replicate ops.size false) a { w with drawn := w.drawn + 1 }) : RO P ops Q a w := fun t => by
 simp only [Region.schedule, hm, Bool.true_or, if_true]
 exact wpAny_sound ops.size t _ a _ h
theorem QJT {P : Program} {ops : Array Oper} {Q : Exit → Act → World → Prop} {a : Act} {w : World} (hm : P.follows .mixedOrders = true) (hback : QDP ops = true) (I : Array Bool → Act → World → Prop)
  (h0 : I (Array.replicate ops.size false) a { w with drawn := w.drawn + 1 })
  (hstep : ∀ (L : Array Bool) (a : Act) (w : World) (i : Nat) (o : Oper), L.size = ops.size → I L a w → L.getD i true = false → ops[i]? = some o → (∀ e ∈ o.after, Region.binds .any e = true → L.getD e.on false = true) →
   wpOp P ops Q i (I (L.setIfInBounds i true)) a w)
  (hend : ∀ (L : Array Bool) (a : Act) (w : World), L.size = ops.size → I L a w → (∀ i, i < ops.size → L.getD i false = true) → Q .normal a w) : RO P ops Q a w := by
 refine QJU hm (QIT hback I hstep hend _ _ _ _ (by simp) ?_ h0)
 unfold QD5
 exact Nat.le_trans (List.length_filter_le _ _) (by simp)
theorem EO.regionP (cls : List (List Nat)) (m : Nat) (alc : List Nat) (Φ : Nat → (Nat → Value) → World → Prop) (hf : P.follows .mixedOrders = true) (hq : QAJ n cls m 0 L = true) (hml : Nat.ble m L.length = true)
  (hmono : ∀ i r w1 w2, Below w1.heap.size w1 w2 → Φ i r w1 → Φ i r w2)
  (hstep : ∀ i, i < m → QKd P n L Q cls m alc σ w Φ i)
  (hend : ∀ val w', Below w.heap.size w w' → Alc alc m val w w' → (∀ i, i < m → Φ i (res val i (clsAt cls i)) w') → EL P n L Q (L.drop m) (sgEnd L σ val m) w') : ∀ a, Env n σ a → RO P L.toArray Q a w := by
 have hm : m ≤ L.length := by simpa [Nat.ble_eq] using hml
 have H := QEG hq;have hback : QDP L.toArray = true := by
  refine List.all_eq_true.2 fun i hi => ?_
  have hi' : i < L.length := by simpa using hi
  have ho : L.toArray[i]? = some L[i] := by simp [hi']
  rw [ho];refine Array.all_eq_true_iff_forall_mem.2 fun e he => ?_
  cases hb : Region.binds .any e with
  | false => rfl
  | true => simpa using H.back i L[i] (by simp [hi']) e he hb
 intro a ha
 -- the tail's part
 have tailDone : ∀ (D : Array Bool) (i : Nat) (o : Oper), (∀ i, D.getD i false = true → ∀ j ∈ clsAt cls i, D.getD j false = true) → L[i]? = some o → (∀ e ∈ o.after, Region.binds .any e = true → D.getD e.on false = true) → ∀ j ∈ clsAt cls i, D.getD j false = true := by
  intro D i o hdown ho hdep j hj;obtain ⟨e, he, hb, h⟩ := H.dep i o ho j hj
  rcases h with rfl | h
  ·exact hdep e he hb
  ·exact hdown _ (hdep e he hb) j h
 have hEnd : ∀ (D : Array Bool) (val : Nat → Value) (a : Act) (w' : World), HInv n L cls m alc σ w Φ D val a w' → (∀ i, i < m → D.getD i false = true) → wpList P L.toArray Q (L.drop m) a w' := by
  intro D val a w' I hall;refine hend val w' I.below ⟨fun i hi hlt => I.alc1 i hi hlt (hall i hlt), fun i hi j hj h1 h2 hne => I.alc2 i hi j hj h1 h2 (hall i h1) (hall j h2) hne⟩ (fun i hi => I.says i hi (hall i hi)) a ⟨I.size, I.defers, ?_⟩
  have : ∀ k, k ≤ m → ∀ t v, sgEnd L σ val k t = some v → (∀ j, k ≤ j → j < m → ZS L j ≠ some t) → a.tmps[t]? = some v := by
   intro k
   induction k with
   | zero => intro _ t v ht hn; exact I.old t v ht fun j hj _ => hn j (Nat.zero_le _) hj
   | succ k ih =>
    intro hk t v ht hn
    unfold sgEnd at ht
    cases hd : ZS L k with
    | none =>
     simp only [hd] at ht
     exact ih (by omega) t v ht fun j h1 h2 => by
      rcases Nat.lt_or_ge k j with h | h
      ·exact hn j h h2
      ·obtain rfl : j = k := by omega
       rw [hd]; simp
    | some d =>
     simp only [hd] at ht
     unfold ins at ht
     cases e : Nat.beq t d with
     | true =>
      rw [e] at ht;have e' := Nat.eq_of_beq_eq_true e;subst e';rw [I.new k t (by omega) (hall k (by omega)) hd]
      exact ht
     | false =>
      rw [e] at ht
      exact ih (by omega) t v ht fun j h1 h2 => by
       rcases Nat.lt_or_ge k j with h | h
       ·exact hn j h h2
       ·obtain rfl : j = k := by omega
        rw [hd];intro e2
        injection e2 with e2
        exact Nat.ne_of_beq_eq_false e e2.symm
  exact fun t v ht => this m (Nat.le_refl _) t v ht fun j h1 h2 => by omega
 refine QJT hf hback (fun D a w' => (∃ val, HInv n L cls m alc σ w Φ D val a w') ∨ ∃ k, m < k ∧ k ≤ L.length ∧ (∀ i, D.getD i false = decide (i < k)) ∧ wpList P L.toArray Q (L.drop k) a w') ?_ ?_ ?_
 ·left
  have hno : ∀ i, (Array.replicate L.toArray.size false).getD i false = false := fun i => by
   by_cases h : i < L.toArray.size
   ·simp [Array.getD]
   ·simp [Array.getD]
  refine ⟨fun _ => undef, ⟨⟨rfl, rfl, rfl, Nat.le_refl _, fun _ _ => rfl⟩, ha.size, ha.defers, ?_, fun t v ht _ => ha.get t v ht, ?_, ?_, ?_, ?_, fun i _ => hno i⟩⟩
  ·intro i d _ h; rw [hno] at h; cases h
  ·intro i _ h; rw [hno] at h; cases h
  ·intro i h; rw [hno] at h; cases h
  ·intro i _ _ h; rw [hno] at h; cases h
  ·intro i _ j _ _ _ h; rw [hno] at h; cases h
 ·intro D a w1 i o hs hI hni ho hdep
  have hs' : D.size = L.length := by simpa using hs
  have ho' : L[i]? = some o := by simpa using ho
  have hil : i < L.length := (List.getElem?_eq_some_iff.1 ho').1;have hnd : D.getD i false = false := QAi (by omega) hni
  have takeTail : ∀ (k : Nat), k = i → m ≤ k → (∀ j, D.getD j false = decide (j < k)) → wpList P L.toArray Q (L.drop k) a w1 →
    wpOp P L.toArray Q i (fun a w' => (∃ val, HInv n L cls m alc σ w Φ (D.setIfInBounds i true) val a w') ∨ ∃ k, m < k ∧ k ≤ L.length ∧ (∀ j, (D.setIfInBounds i true).getD j false = decide (j < k)) ∧ wpList P L.toArray Q (L.drop k) a w') a w1 := by
   intro k hk hmk hD hw;subst hk;rw [List.drop_eq_getElem_cons hil] at hw;have e : L[k] = o := by rw [List.getElem?_eq_getElem hil] at ho'; injection ho'
   rw [e] at hw
   unfold wpList at hw
   have hnext : ∀ a w', wpList P L.toArray Q (L.drop (k + 1)) a w' → (∃ val, HInv n L cls m alc σ w Φ (D.setIfInBounds k true) val a w') ∨ ∃ k', m < k' ∧ k' ≤ L.length ∧ (∀ j, (D.setIfInBounds k true).getD j false = decide (j < k')) ∧ wpList P L.toArray Q (L.drop k') a w' := fun a w' h => .inr ⟨k + 1, by omega, by omega, fun j => by
    rw [set_get (by omega)]
    by_cases e : j = k
    ·subst e; simp
    ·rw [if_neg e, hD]
     by_cases h : j < k
     ·simp [h]; omega
     ·simp [h]; omega, h⟩
   unfold wpOp
   simp only [ho]
   split
   ·rename_i hw'
    rw [if_pos hw'] at hw
    rcases hw with h | h
    ·exact .inl (Oper.wp_mono hnext h)
    ·exact .inr h
   ·rename_i hw'
    rw [if_neg hw'] at hw
    exact hnext _ _ hw
  rcases hI with ⟨val, I⟩ | ⟨k, hmk, hkl, hD, hw⟩
  ·have hcd := tailDone D i o I.down ho' hdep
   rcases Nat.lt_or_ge i m with him | him
   ·have henv : Env n (sgAt L cls m σ val i) a := by
     refine ⟨I.size, I.defers, fun t v ht => ?_⟩
     unfold sgAt at ht
     cases hfw : QDI L t (clsAt cls i) with
     | some j =>
      simp only [hfw] at ht
      obtain ⟨h1, h2⟩ := QAV hfw
      injection ht with ht
      have hj := hcd j h1;have hjm : j < m := by
       rcases Nat.lt_or_ge j m with h | h
       ·exact h
       ·rw [I.high j h] at hj; cases hj
      rw [I.new j t hjm hj h2, ht]
     | none =>
      simp only [hfw] at ht
      cases hob : oldB L cls i t m with
      | false => rw [hob] at ht; cases ht
      | true =>
       rw [hob] at ht;refine I.old t v ht fun k hk hdk hd => ?_
       rcases QBq hob k hk hd with rfl | h
       ·rw [hnd] at hdk; cases hdk
       ·have := I.down k hdk i h
        rw [hnd] at this; cases this
    have hjm : ∀ j, D.getD j false = true → j < m := fun j hj => by
     rcases Nat.lt_or_ge j m with h | h
     ·exact h
     ·rw [I.high j h] at hj; cases hj
    refine wpOp_mono ?_ (hstep i him val w1 a I.below henv fun j hj => I.says j (hjm j (hcd j hj)) (hcd j hj))
    rintro a' w' ⟨v, rfl, hb, hphi, halc⟩
    left
    have hgrow : Below w.heap.size w w' := I.below.trans (hb.mono I.below.size);have hdi : ZS L i = o.dst := dstOf_at ho';refine ⟨upd val i v, ⟨hgrow, ?_, ?_, ?_, ?_, ?_, ?_, ?_, ?_, ?_⟩⟩
    ·rw [QCU]; exact I.size
    ·cases ZS L i <;> exact I.defers
    ·intro k d hk hdk hd
     rw [set_get (by omega)] at hdk
     by_cases e : k = i
     ·subst e
      have hdn : d < n := H.small k o d ho' hk (by rw [← hdi]; exact hd)
      rw [hd]
      simp only [Act.put, upd, if_true]
      rw [Array.getElem?_setIfInBounds_self_of_lt (by rw [I.size]; exact hdn)]
     ·rw [if_neg e] at hdk
      have hok : ∃ p, L[k]? = some p := ⟨L[k]'(by omega), by simp [show k < L.length by omega]⟩
      obtain ⟨p, hp⟩ := hok;have hne : ZS L i ≠ some d := by
       intro h'
       rcases Nat.lt_or_gt_of_ne e with hlt | hgt
       ·exact H.dist k i p o d hp ho' hlt him (by rw [← dstOf_at hp]; exact hd) (by rw [← hdi]; exact h')
       ·exact H.dist i k o p d ho' hp hgt hk (by rw [← hdi]; exact h') (by rw [← dstOf_at hp]; exact hd)
      have := I.new k d hk hdk hd
      simp only [upd, if_neg e]
      cases hdi' : ZS L i with
      | none => exact this
      | some d' =>
       have : d' ≠ d := fun h => hne (by rw [hdi', h])
       simp only [Act.put, Array.getElem?_setIfInBounds_ne this]
       assumption
    ·intro t u ht hno
     have h1 : a.tmps[t]? = some u := I.old t u ht fun k hk hdk => hno k hk (by rw [set_get (by omega)]; split <;> simp [hdk])
     have h2 : ZS L i ≠ some t := hno i him (by rw [set_get (by omega), if_pos rfl])
     cases hdi' : ZS L i with
     | none => exact h1
     | some d' =>
      have : d' ≠ t := fun h => h2 (by rw [hdi', h])
      simp only [Act.put, Array.getElem?_setIfInBounds_ne this]
      exact h1
    ·intro k hk hdk
     rw [set_get (by omega)] at hdk
     by_cases e : k = i
     ·subst e; exact hphi
     ·rw [if_neg e] at hdk
      have hni' : i ∉ clsAt cls k := fun h => by
       have := I.down k hdk i h;rw [hnd] at this; cases this
      rw [QDX e hni']
      exact hmono k _ w1 w' hb (I.says k hk hdk)
    ·intro k hdk j hj
     rw [set_get (by omega)] at hdk ⊢
     by_cases e : k = i
     ·subst e
      rw [hcd j hj]; simp
     ·rw [if_neg e] at hdk
      rw [I.down k hdk j hj]; simp
    ·intro k hk hkm hdk
     rw [set_get (by omega)] at hdk
     by_cases e : k = i
     ·subst e
      obtain ⟨h1, h2⟩ := halc hk
      exact ⟨w1.heap.size, by simp [upd, h1], I.below.size, h2⟩
     ·rw [if_neg e] at hdk
      obtain ⟨g, h1, h2, h3⟩ := I.alc1 k hk hkm hdk
      exact ⟨g, by simp [upd, e, h1], h2, Nat.lt_of_lt_of_le h3 hb.size⟩
    ·intro k hk j hj hkm hjm' hdk hdj hne
     rw [set_get (by omega)] at hdk hdj
     by_cases e : k = i
     ·subst e
      have e2 : j ≠ k := Ne.symm hne;rw [if_neg e2] at hdj;obtain ⟨h1, _⟩ := halc hk;obtain ⟨g, h3, _, h5⟩ := I.alc1 j hj hjm' hdj
      simp only [upd, if_true, if_neg e2, h1, h3]
      intro h
      injection h with h
      injection h with h
      injection h with h
      omega
     ·rw [if_neg e] at hdk
      by_cases e2 : j = i
      ·subst e2
       obtain ⟨h1, _⟩ := halc hj;obtain ⟨g, h3, _, h5⟩ := I.alc1 k hk hkm hdk
       simp only [upd, if_true, if_neg e, h1, h3]
       intro h
       injection h with h
       injection h with h
       injection h with h
       omega
      ·rw [if_neg e2] at hdj
       simp only [upd, if_neg e, if_neg e2]
       exact I.alc2 k hk j hj hkm hjm' hdk hdj hne
    ·intro k hk
     rw [set_get (by omega), if_neg (by omega)]
     exact I.high k hk
   ·have hall : ∀ j, j < i → D.getD j false = true := fun j hj => hcd j (H.tail i o ho' him j hj)
    have him' : i = m := by
     rcases Nat.lt_or_ge m i with h | h
     ·have := hall m h
      rw [I.high m (Nat.le_refl _)] at this; cases this
     ·omega
    subst him'
    exact takeTail i rfl (Nat.le_refl _) (fun j => by
     by_cases h : j < i
     ·rw [hall j h]; simp [h]
     ·rw [I.high j (by omega)]; simp [h]) (hEnd D val a w1 I hall)
  ·have hcd : ∀ j, j < i → D.getD j false = true := fun j hj => by
    have hmi : m ≤ i := by
     have := hD i;rw [hnd] at this;have : ¬ i < k := by simpa using this.symm
     omega
    have hdn : ∀ i, D.getD i false = true → ∀ j ∈ clsAt cls i, D.getD j false = true := by
     intro x hx y hy;rw [hD] at hx ⊢;have hx' : x < k := by simpa using hx
     obtain ⟨p, hp⟩ : ∃ p, L[x]? = some p := ⟨L[x]'(by omega), by simp [show x < L.length by omega]⟩
     have : ∀ (x : Nat) (p : Oper), L[x]? = some p → ∀ y ∈ clsAt cls x, y < x := by
      intro x
      induction x using Nat.strongRecOn with
      | ind x ih =>
       intro p hp y hy;obtain ⟨e, he, hb, h⟩ := H.dep x p hp y hy;have h1 := H.back x p hp e he hb
       rcases h with rfl | h
       ·exact h1
       ·obtain ⟨q, hq⟩ : ∃ q, L[e.on]? = some q := by
         have : x < L.length := (List.getElem?_eq_some_iff.1 hp).1
         exact ⟨L[e.on]'(by omega), by simp [show e.on < L.length by omega]⟩
        have := ih e.on h1 q hq y h
        omega
     have := this x p hp y hy
     simp
     omega
    exact tailDone D i o hdn ho' hdep j (H.tail i o ho' hmi j hj)
   have hik : k = i := by
    have h1 := hD i;rw [hnd] at h1;have h2 : ¬ i < k := by simpa using h1.symm
    rcases Nat.lt_or_ge k i with h | h
    ·have := hcd k h
     rw [hD] at this
     simp at this
    ·omega
   exact takeTail k hik (by omega) hD hw
 ·intro D a w1 hs hI hall
  have hs' : D.size = L.length := by simpa using hs
  rcases hI with ⟨val, I⟩ | ⟨k, hmk, hkl, hD, hw⟩
  ·have hmL : m = L.length := by
    rcases Nat.lt_or_ge m L.length with h | h
    ·have := hall m (by simpa using h)
     rw [I.high m (Nat.le_refl _)] at this; cases this
    ·omega
   have := hEnd D val a w1 I fun i hi => hall i (by simp; omega)
   rw [hmL, List.drop_length] at this
   exact this
  ·have hk : k = L.length := by
    rcases Nat.lt_or_ge k L.length with h | h
    ·have := hall k (by simpa using h)
     rw [hD] at this
     simp at this
    ·omega
   rw [hk, List.drop_length] at hw
   exact hw
theorem EC.regionP {id : Nat} (cls : List (List Nat)) (m : Nat) (alc : List Nat) (Φ : Nat → (Nat → Value) → World → Prop) (hf : P.follows .mixedOrders = true) (hq : QAJ n cls m 0 L = true) (hml : Nat.ble m L.length = true)
  (hmono : ∀ i r w1 w2, Below w1.heap.size w1 w2 → Φ i r w1 → Φ i r w2)
  (hstep : ∀ i, i < m → QKd P n L Q cls m alc σ w Φ i)
  (hend : ∀ val w', Below w.heap.size w w' → Alc alc m val w w' → (∀ i, i < m → Φ i (res val i (clsAt cls i)) w') → EL P n L Q (L.drop m) (sgEnd L σ val m) w') : EC P n (.region id L.toArray true) Q σ w := fun a ha => wp_region_draw (EO.regionP cls m alc Φ hf hq hml hmono hstep hend a ha)
end
end Go.Proofs.Ytlbfnimilcnihaa
namespace Go.Proofs.Ytlbfnimilcnihaa
open Go.RowKit
/-- a slice that is read -/
def Rd (w : World) (B size : Nat) (v : Value) (n : Nat) (xs : List Value) : Prop :=
 xs.length = n * size ∧ ∃ A c, v = .slice A n c ∧ n ≤ c ∧ (0 < n → ∃ b off, A = some ⟨b, off, none⟩ ∧ b < B ∧ ∀ j u, xs[j]? = some u → w.cell? ⟨b, off + j, none⟩ = some u)
section
variable {w w' : World} {B B' size n : Nat} {v : Value} {xs : List Value}
theorem Rd.nil_ (w : World) (B size : Nat) : Rd w B size (.slice none 0 0) 0 [] := ⟨by simp, none, 0, rfl, Nat.le_refl _, fun h => absurd h (by omega)⟩
theorem Rd.keep (h : Rd w B size v n xs) (hk : ∀ p : Addr, p.block < B → w'.cell? p = w.cell? p) : Rd w' B size v n xs := by
 obtain ⟨hl, A, c, rfl, hc, h⟩ := h;refine ⟨hl, A, c, rfl, hc, fun hn => ?_⟩
 obtain ⟨b, off, rfl, hb, hcell⟩ := h hn
 exact ⟨b, off, rfl, hb, fun j u hu => (hk _ hb).trans (hcell j u hu)⟩
theorem Rd.more (h : Rd w B size v n xs) (hB : B ≤ B') : Rd w B' size v n xs := by
 obtain ⟨hl, A, c, rfl, hc, h⟩ := h;refine ⟨hl, A, c, rfl, hc, fun hn => ?_⟩
 obtain ⟨b, off, rfl, hb, hcell⟩ := h hn
 exact ⟨b, off, rfl, by omega, hcell⟩
theorem Rd.below (h : Rd w B size v n xs) (hb : Below B w w') : Rd w' B size v n xs := h.keep fun _ hp => hb.cell hp
theorem Rd.alloc (h : Rd w B size v n xs) (hB : B ≤ w.heap.size) (o : Obj) : Rd (w.alloc o) B size v n xs := h.keep fun p hp => World.cell?_alloc_lt w o p (by omega)
theorem Rd.grown (h : Rd w B size v n xs) {row : Option Nat} (hg : w.grownBy w' row) (hB : B ≤ w.heap.size) (hr : ∀ g, row = some g → B ≤ g) : Rd w' B size v n xs :=
 h.keep fun p hp => World.cell?_of_block (hg.block p.block (by omega) (fun e => by have := hr _ e.symm; omega))
theorem Rd.of_own {base : Nat} {e : TypeId} (h : w.ownsRow base e size v n xs) : Rd w w.heap.size size v n xs := by
 have hh := h;obtain ⟨hl, ⟨rfl, rfl⟩ | ⟨g, cap, cur, rfl, hbg, hg, hnc, hcm, hcs, htk⟩⟩ := h
 ·exact ⟨hl, none, 0, rfl, Nat.le_refl _, fun h => absurd h (by omega)⟩
 ·have hlt : g < w.heap.size := by
   rcases Nat.lt_or_ge g w.heap.size with hlt | hge
   ·exact hlt
   ·rw [Array.getElem?_eq_none hge] at hg; cases hg
  exact ⟨hl, _, _, rfl, hnc, fun hn => ⟨g, 0, rfl, hlt, fun j u hu => by
   have := hh.cells (g := g) rfl j u hu;rw [Addr.add_lit] at this
   simpa using this⟩⟩
theorem Rd.shape (h : Rd w B size v n xs) : ∃ A c, v = .slice A n c ∧ n ≤ c := by
 obtain ⟨_, A, c, rfl, hc, _⟩ := h
 exact ⟨A, c, rfl, hc⟩
/-- an element's cells -/
theorem Rd.at_ {A : Option Addr} {c : Nat} (h : Rd w B size (.slice A n c) n xs) (hn : 0 < n) : ∃ b off, A = some ⟨b, off, none⟩ ∧ b < B ∧ ∀ j u, xs[j]? = some u → w.cell? ⟨b, off + j, none⟩ = some u := by
 obtain ⟨_, A', c', e, _, h⟩ := h
 injection e with e1 e2 e3
 subst e1
 exact h hn
theorem Rd.len (h : Rd w B size v n xs) : xs.length = n * size := h.1
end
/-- calls in a row -/
theorem Below.on {B : Nat} {a b c : World} (h : Below B a b) (k : Below b.heap.size b c) (hB : B ≤ b.heap.size) : Below B a c := h.trans (k.mono hB)
/-- 'n' lies between lo and hi -/
def inB (lo hi n : Int) : Bool := decide (lo ≤ n) && decide (n ≤ hi)
theorem Zy {lo hi n : Int} : inB lo hi n = true ↔ lo ≤ n ∧ n ≤ hi := by simp [inB]
theorem QFe {lo hi n : Int} : inB lo hi n = false ↔ n < lo ∨ hi < n := by simp [inB]; omega
section
variable {P : Program} (w : World)
/-- appending no element to a slice of the call's own -/
theorem QAZ (base : Nat) (t ty e : TypeId) (i : TypeInfo) (size : Nat) (ht : P.underlying t = some (.slice e)) (hi : P.info? e = some i)
  (v : Value) (n : Nat) (xs : List Value) (hown : w.ownsRow base e size v n xs) (c : Nat) : (Builtin.append_ #[t, t] ty #[v, .slice none 0 c]).run P w = .ok v w := by
 rcases hown.2 with ⟨rfl, rfl⟩ | ⟨g, cap, cur, rfl, _, _, hnc, _⟩
 ·simp [Builtin.append_, run_underlying ht, sizeOf, typeInfo, hi, Builtin.lenOf, Builtin.firstCells]
 ·simp [Builtin.append_, run_underlying ht, sizeOf, typeInfo, hi, Builtin.lenOf, Builtin.firstCells, hnc, storeCells]
/-- append(own, read...): the new row; where it lies -/
theorem QEe (base : Nat) (t ty e : TypeId) (i : TypeInfo) (z : Value) (size bytes : Nat) (ht : P.underlying t = some (.slice e)) (hi : P.info? e = some i) (hz : i.zero = some z)
  (hsize : i.size = size) (hby : i.bytes = bytes) (hzs : z.cells.size = size) (hsz : 0 < size)
  (v : Value) (n : Nat) (xs : List Value) (hown : w.ownsRow base e size v n xs)
  (B : Nat) (s : Value) (m : Nat) (news : List Value) (hr : Rd w B size s m news) (h1 : ∀ u ∈ news, u.oneCell' = true)
  (h63 : n + m ≤ maxLen) (hbytes : (n + m) * bytes ≤ 140737488355328) (hbase : base ≤ w.heap.size) :
  ∃ v' w', (Builtin.append_ #[t, t] ty #[v, s]).run P w = .ok v' w' ∧ w'.ownsRow base e size v' (n + m) (xs ++ news) ∧ w.grownBy w' v.ownBlock ∧
   (v'.ownBlock = v.ownBlock ∨ v'.ownBlock = some w.heap.size) := by
 obtain ⟨hl, A, c, rfl, hnc, hr⟩ := hr
 rcases Nat.eq_zero_or_pos m with hm | hm
 ·subst hm
  have hn : news = [] := List.eq_nil_of_length_eq_zero (by simpa using hl)
  subst hn
  rcases A with _ | ad
  ·exact ⟨v, w, QAZ w base t ty e i size ht hi v n xs hown c, by simpa using hown, World.grownBy.refl w _, .inl rfl⟩
  ·obtain ⟨v', w', hrun, h2, h3, _, h5⟩ := run_append_own_at (P := P) w base t ty e i z size bytes ht hi hz hsize hby hzs hsz v n xs hown ad 0 c [] hl (by simp) (by simp) h63 hbytes hbase
   exact ⟨v', w', hrun, h2, h3, h5⟩
 ·obtain ⟨b, off, rfl, _, hc⟩ := hr hm
  obtain ⟨v', w', hrun, h2, h3, _, h5⟩ := run_append_own_at (P := P) w base t ty e i z size bytes ht hi hz hsize hby hzs hsz v n xs hown ⟨b, off, none⟩ m c news hl (fun j u hu => by rw [Addr.add_lit]; exact hc j u hu) h1 h63 hbytes hbase
  exact ⟨v', w', hrun, h2, h3, h5⟩
end
/-- what is known of a slice type and of its element's type -/
structure Elem (P : Program) (t e : TypeId) (size bytes : Nat) : Prop where
 ht : P.underlying t = some (.slice e)
 hi : ∃ i z, P.info? e = some i ∧ i.zero = some z ∧ i.size = size ∧ i.bytes = bytes ∧ z.cells.size = size
 hs : 0 < size
theorem Elem.mk' {P : Program} {t e : TypeId} {size bytes : Nat} {z : Value} (ht : P.underlying t = some (.slice e)) (hi : (P.info? e).map (fun i => (i.zero, i.size, i.bytes)) = some (some z, size, bytes)) (hz : z.cells.size = size) (hs : 0 < size) : Elem P t e size bytes := by
 obtain ⟨i0, hi0, hz0, hz1, hz2⟩ := info_parts hi
 exact ⟨ht, ⟨i0, z, hi0, hz0, hz1, hz2, hz⟩, hs⟩
section
variable {P : Program} {t e : TypeId} {size bytes : Nat}
end
section
variable {w w' W : World} {B base e size n : Nat} {v v' : Value} {xs : List Value}
theorem Below.push (h : Below B w W) (hown : W.ownsRow base e size v n xs) (hg : W.grownBy w' v.ownBlock) (hb : B ≤ base) (hB : B ≤ W.heap.size) : Below B w w' :=
 h.grown hg hB fun k hk => Nat.le_trans hb (hown.lt k hk).1
theorem Rd.push {C m : Nat} {u : Value} {ys : List Value} {sz : Nat} (h : Rd W C sz u m ys) (hown : W.ownsRow base e size v n xs) (hg : W.grownBy w' v.ownBlock) (hb : C ≤ base) (hB : C ≤ W.heap.size) : Rd w' C sz u m ys :=
 h.grown hg hB fun k hk => Nat.le_trans hb (hown.lt k hk).1
end
/-- a block that is known whole -/
def Blk (w : World) (g : Nat) (t : TypeId) (cs : Array Value) : Prop := w.heap[g]? = some (.cells cs t (0, 0))
section
variable {w w' : World} {g : Nat} {t : TypeId} {cs : Array Value}
theorem Blk.lt (h : Blk w g t cs) : g < w.heap.size := by
 rcases Nat.lt_or_ge g w.heap.size with hlt | hge
 ·exact hlt
 ·unfold Blk at h; rw [Array.getElem?_eq_none hge] at h; cases h
theorem Blk.cell (h : Blk w g t cs) (i : Nat) : w.cell? ⟨g, i, none⟩ = cs[i]? := cell_of_row w g i cs t (0, 0) h
theorem Blk.new (w : World) (t : TypeId) (cs : Array Value) : Blk (w.alloc (.cells cs t)) w.heap.size t cs := heap_alloc_new w _
theorem Blk.drewN (h : Blk w g t cs) (n : Nat) : Blk (w.drewN n) g t cs := h
theorem Blk.drew (h : Blk w g t cs) : Blk w.drew g t cs := h
theorem Blk.alloc (h : Blk w g t cs) (o : Obj) : Blk (w.alloc o) g t cs := (Below.heap_alloc w o g h.lt).trans h
theorem Blk.below {B : Nat} (h : Blk w g t cs) (hb : Below B w w') (hg : g < B) : Blk w' g t cs := (hb.block g hg).trans h
theorem Blk.grown {row : Option Nat} (h : Blk w g t cs) (hb : w.grownBy w' row) (hg : some g ≠ row) : Blk w' g t cs := (hb.block g h.lt hg).trans h
theorem Blk.push {base e size n : Nat} {v : Value} {xs : List Value} (h : Blk w g t cs) (hown : w.ownsRow base e size v n xs) (hg : w.grownBy w' v.ownBlock) (hb : g < base) : Blk w' g t cs :=
 h.grown hg fun hk => by have := (hown.lt g hk.symm).1; omega
theorem YX {row : Option Nat} {a : World} (h : a.grownBy w row) (k : Below w.heap.size w w') : a.grownBy w' row :=
 ⟨k.os.trans h.os, k.tape.trans h.tape, k.output.trans h.output, Nat.le_trans h.size k.size, fun i hi hne => (k.block i (Nat.lt_of_lt_of_le hi h.size)).trans (h.block i hi hne)⟩
end
theorem Yv (w : World) (base : Nat) (e : TypeId) (size : Nat) : w.ownsRow base e size (.slice none 0 0) 0 [] := ⟨by simp, .inl ⟨rfl, rfl⟩⟩
/-- integers as values -/
def ints (l : List Int) : List Value := l.map (Value.int .i64)
theorem ints_len (l : List Int) : (ints l).length = l.length := by simp [ints]
end Go.Proofs.Ytlbfnimilcnihaa
namespace Go.Proofs.Ytlbfnimilcnihaa
open Go.RowKit
theorem ZB {w w' : World} {base e size n B : Nat} {v : Value} {xs : List Value} (h : w.ownsRow base e size v n xs) (hg : Below B w w') (hB : w.heap.size ≤ B) : w'.ownsRow base e size v n xs :=
 h.kept (row := none) ⟨hg.os, hg.tape, hg.output, hg.size, fun k hk _ => hg.block k (by omega)⟩ (by
  rcases hv : v.ownBlock with _ | k
  ·exact .inl rfl
  ·exact .inr (by simp))
theorem QBo {w : World} {base e size n : Nat} {v : Value} {xs : List Value} (h : w.ownsRow base e size v n xs) (k : Nat) : (w.drewN k).ownsRow base e size v n xs := h
end Go.Proofs.Ytlbfnimilcnihaa
namespace Go.Proofs.Ytlbfnimilcnihaa
open Go.RowKit
/-- two rows share no block -/
def QEb (v u : Value) : Prop := ∀ g, v.ownBlock = some g → u.ownBlock ≠ some g
theorem QEb.symm {v u : Value} (h : QEb v u) : QEb u v := fun g hu hv => h g hv hu
section
variable {W w' : World} {base e size n : Nat} {v v' u : Value} {xs : List Value}
/-- a row is as it was where another row has grown -/
theorem QIg {base2 e2 size2 m : Nat} {ys : List Value} (hu : W.ownsRow base2 e2 size2 u m ys) (hg : W.grownBy w' v.ownBlock) (ha : QEb v u) : w'.ownsRow base2 e2 size2 u m ys :=
 hu.kept hg (by
  rcases h : u.ownBlock with _ | g
  ·exact .inl rfl
  ·exact .inr fun h' => ha g h'.symm h)
/-- a row that has grown is apart from those that it was apart from -/
theorem QEb.push {base2 e2 size2 m : Nat} {ys : List Value} (ha : QEb v u) (hu : W.ownsRow base2 e2 size2 u m ys) (hv : v'.ownBlock = v.ownBlock ∨ v'.ownBlock = some (W.heap.size + 1)) : QEb v' u := by
 intro g hg hgu
 rcases hv with h | h
 ·exact ha g (h ▸ hg) hgu
 ·rw [h] at hg
  injection hg with hg
  have := (hu.lt g hgu).2
  omega
end
end Go.Proofs.Ytlbfnimilcnihaa
namespace Go.Proofs.Ytlbfnimilcnihaa
open Go.RowKit
theorem Rd.drew {w : World} {B size n : Nat} {v : Value} {xs : List Value} (h : Rd w B size v n xs) : Rd w.drew B size v n xs := h.keep fun _ _ => rfl
theorem Rd.drewN {w : World} {B size n : Nat} {v : Value} {xs : List Value} (h : Rd w B size v n xs) (k : Nat) : Rd (w.drewN k) B size v n xs := h.keep fun _ _ => rfl
section
variable {P : Program} {t e : TypeId} {size bytes : Nat}
end
end Go.Proofs.Ytlbfnimilcnihaa
namespace Go.Proofs.Ytlbfnimilcnihaa
open Go Go.RowKit
theorem ZC {w w' : World} (hb : Below w.heap.size w w') {p : Addr} {v : Value} (h : w.cell? p = some v) : w'.cell? p = some v := (hb.cell (block_lt_of_cell h)).trans h
def nth : List Value → Nat → Option Value
 | [], _ => none
 | v :: _, 0 => some v
 | _ :: l, k + 1 => nth l k
theorem QG8 : ∀ (l : List Value) (k : Nat), nth l k = l[k]?
 | [], _ => rfl
 | _ :: _, 0 => rfl
 | _ :: l, k + 1 => by simpa [nth] using QG8 l k
def ovr : List Value → List Value → List Value
 | l, [] => l
 | [], _ => []
 | _ :: l, v :: vs => v :: ovr l vs
/-- what is stored at offset o -/
def spl : List Value → Nat → List Value → List Value
 | l, 0, vs => ovr l vs
 | [], _, _ => []
 | x :: l, o + 1, vs => x :: spl l o vs
theorem QJa : ∀ (l vs : List Value), vs.length ≤ l.length → ovr l vs = vs ++ l.drop vs.length
 | l, [], _ => by cases l <;> simp [ovr]
 | [], v :: vs, h => by simp at h
 | x :: l, v :: vs, h => by simp [ovr, QJa l vs (by simpa using h)]
theorem QB8 : ∀ (l : List Value) (o : Nat) (vs : List Value), o + vs.length ≤ l.length → spl l o vs = l.take o ++ vs ++ l.drop (o + vs.length)
 | [], 0, vs, h => by
  have e : vs = [] := List.eq_nil_of_length_eq_zero (by simpa using h)
  subst e
  rfl
 | x :: l, 0, vs, h => by
  have := QJa (x :: l) vs (by simpa using h)
  simp [spl, this]
 | [], o + 1, vs, h => by simp at h
 | x :: l, o + 1, vs, h => by
  have := QB8 l o vs (by simp at h; omega)
  simp [spl, this, show o + 1 + vs.length = o + vs.length + 1 by omega]
def lenV : List Value → Nat
 | [] => 0
 | _ :: l => lenV l + 1
theorem Yw : ∀ l : List Value, lenV l = l.length
 | [] => rfl
 | _ :: l => by simp [lenV, Yw l]
def QA_ : List Value → Bool
 | [] => true
 | v :: l => bif v.oneCell' then QA_ l else false
theorem QEV : ∀ {l : List Value}, QA_ l = true → ∀ v ∈ l, v.oneCell' = true
 | [], _, v, h => by cases h
 | x :: l, h, v, hv => by
  unfold QA_ at h
  cases hx : x.oneCell' with
  | false => rw [hx] at h; cases h
  | true =>
   rw [hx] at h
   rcases List.mem_cons.1 hv with rfl | hv
   ·exact hx
   ·exact QEV h v hv
section
variable {w w' : World} {g : Nat} {T : TypeId} {l : List Value}
theorem Blk.at {v : Value} (h : Blk w g T l.toArray) {j : Nat} (hj : nth l j = some v) : w.cell? ⟨g, j, none⟩ = some v := by
 rw [h.cell, ← hj, QG8]
 simp
end
section
variable {P : Program} {n : Nat} {σ : Sg} {w : World} {Q : Exit → Act → World → Prop} {L : List Oper} {rest : List Oper}
theorem QBP {t T : TypeId} {g o k : Nat} {l l' : List Value} {v : Value} (hs : (P.info? t).map (·.size) = some k) (hb : Blk w g T l.toArray) (hv : v.cells.toList = l') (hk : lenV l' = k) (ho : Nat.ble (o + k) (lenV l) = true) (h1 : QA_ l' = true) :
  (Instr.storeAt t (.pointer (some ⟨g, o, none⟩)) v).run P w = .ok () (w.setRow g (spl l o l').toArray) := by
 have hl : l'.length = k := by rw [← Yw]; exact hk
 have hlo : o + k ≤ l.length := by rw [← Yw]; simpa [Nat.ble_eq] using ho
 have hsz : v.cells.size = k := by rw [← hl, ← hv, Array.length_toList]
 have hst := run_storeCells_at P g o T l' 0 l.toArray w hb (by simp; omega) (QEV h1)
 rw [QB8 l o l' (by omega)]
 cases hq : P.info? t with
 | none => rw [hq] at hs; cases hs
 | some i =>
  have hi : i.size = k := by simpa [hq] using hs
  simp only [Nat.add_zero] at hst
  simp [Instr.storeAt, Instr.sureAddr, storeVar, sizeOf, typeInfo, hq, hi, hsz, hv, hst]
theorem QA5 {g : Nat} {T : TypeId} {cs ds : Array Value} (h : Blk w g T cs) : Blk (w.setRow g ds) g T ds := setRow_heap w g cs ds T (0, 0) h
theorem Ys (w : World) (g : Nat) (ds : Array Value) : w.grownBy (w.setRow g ds) (some g) := by
 have e : ∀ k, k ≠ g → (w.setRow g ds).heap[k]? = w.heap[k]? := fun k hk => by
  unfold World.setRow
  simp only [Array.getElem?_modify]
  rw [if_neg (Ne.symm hk)]
 exact ⟨rfl, rfl, rfl, by simp [World.setRow], fun k _ hne => e k (fun h => hne (by rw [h]))⟩
/-- a store into one's own block -/
theorem EL.store {ty t T g o k : Nat} {x y : Operand} {pos : String} {af : Array Edge} {l l' : List Value} {v : Value} (hx : evS σ x = some (.pointer (some ⟨g, o, none⟩))) (hy : evS σ y = some v) (hb : Blk w g T l.toArray) (hs : (P.info? t).map (·.size) = some k) (hv : v.cells.toList = l') (hk : lenV l' = k) (ho : Nat.ble (o + k) (lenV l) = true) (h1 : QA_ l' = true)
  (next : ∀ w', Blk w' g T (spl l o l').toArray → w.grownBy w' (some g) → EL P n L Q rest σ w') : EL P n L Q (⟨none, .store t x y, ty, pos, af, none⟩ :: rest) σ w := fun a ha => by
 unfold wpList
 rw [if_pos (ZU rfl _)]
 left
 unfold Oper.wp
 have hr : (execOp a.eval ⟨none, .store t x y, ty, pos, af, none⟩).run P w = .ok .skip (w.setRow g (spl l o l').toArray) := by
  simp only [execOp, ha.eval hx, ha.eval hy, Sem.run_bind, QBP hs hb hv hk ho h1, Result.andThen_ok]
  rfl
 rw [hr, Oper.upon_skip]
 exact next _ (QA5 hb) (Ys _ _ _) a ha
/-- a new block -/
theorem EL.new {d ty : Nat} {op : Op} {pos : String} {af : Array Edge} {cs : Array Value} {T : TypeId} {v : Nat → Value} (h : ∀ a, Env n σ a → (execOp a.eval ⟨some d, op, ty, pos, af, none⟩).run P w = .ok (.value (v w.heap.size)) (w.alloc (.cells cs T))) (hd : Nat.blt d n = true)
  (next : ∀ g w', Blk w' g T cs → Below w.heap.size w w' → w.heap.size ≤ g → w.heap.size < w'.heap.size → EL P n L Q rest (ins σ d (v g)) w') : EL P n L Q (⟨some d, op, ty, pos, af, none⟩ :: rest) σ w :=
 EL.turn _ _ h hd (next _ _ (Blk.new w T cs) ((Below.refl _ _).alloc (Nat.le_refl _) _) (Nat.le_refl _) (by simp))
theorem EL.newP {d ty : Nat} {op : Op} {pos : String} {af : Array Edge} {cs : Array Value} {T : TypeId} (h : ∀ a, Env n σ a → (execOp a.eval ⟨some d, op, ty, pos, af, none⟩).run P w = .ok (.value (.pointer (some ⟨w.heap.size, 0, none⟩))) (w.alloc (.cells cs T))) (hd : Nat.blt d n = true)
  (next : ∀ g w', Blk w' g T cs → Below w.heap.size w w' → w.heap.size ≤ g → w.heap.size < w'.heap.size → EL P n L Q rest (ins σ d (.pointer (some ⟨g, 0, none⟩))) w') : EL P n L Q (⟨some d, op, ty, pos, af, none⟩ :: rest) σ w :=
 EL.new (v := fun g => .pointer (some ⟨g, 0, none⟩)) h hd next
theorem EL.newS {d ty m c : Nat} {op : Op} {pos : String} {af : Array Edge} {cs : Array Value} {T : TypeId} (h : ∀ a, Env n σ a → (execOp a.eval ⟨some d, op, ty, pos, af, none⟩).run P w = .ok (.value (.slice (some ⟨w.heap.size, 0, none⟩) m c)) (w.alloc (.cells cs T))) (hd : Nat.blt d n = true)
  (next : ∀ g w', Blk w' g T cs → Below w.heap.size w w' → w.heap.size ≤ g → w.heap.size < w'.heap.size → EL P n L Q rest (ins σ d (.slice (some ⟨g, 0, none⟩) m c)) w') : EL P n L Q (⟨some d, op, ty, pos, af, none⟩ :: rest) σ w :=
 EL.new (v := fun g => .slice (some ⟨g, 0, none⟩) m c) h hd next
theorem ZE {w0 w w' : World} {g : Nat} (hb : Below w0.heap.size w0 w) (hg : w.grownBy w' (some g)) (h : w0.heap.size ≤ g) : Below w0.heap.size w0 w' :=
 hb.grown hg hb.size fun k hk => by injection hk with hk; omega
theorem YQ {t : TypeId} {s x : Operand} {o : Oper} {v v' : Value} {src : Value} {w' : World} {a : Act} (ho : o.op = .call { callee := .builtin .append, args := #[s, x], argTypes := #[t, t] }) (hs : a.eval s = v) (hx : a.eval x = src) (hr : (Builtin.append_ #[t, t] o.type #[v, src]).run P w = .ok v' w') :
  (execOp a.eval o).run P w = .ok (.value v') w' := by
 unfold execOp
 simp only [ho, resolve, invoke, builtin, Sem.run_bind, Sem.run_pure, Result.andThen_ok, List.map_toArray, List.map_cons, List.map_nil, hs, hx, hr]
theorem QCT {t e : TypeId} {size bytes base B m k ty : Nat} (E : Elem P t e size bytes) {v src : Value} {xs news : List Value} (hown : w.ownsRow base e size v k xs) (hr : Rd w B size src m news) (h1 : ∀ u ∈ news, u.oneCell' = true) (hm : k + m ≤ 1048576) (hby : bytes ≤ 1048576) (hbase : base ≤ w.heap.size) :
  ∃ v' w', (Builtin.append_ #[t, t] ty #[v, src]).run P w = .ok v' w' ∧ w'.ownsRow base e size v' (k + m) (xs ++ news) ∧ w.grownBy w' v.ownBlock ∧ Below base w w' ∧ (v'.ownBlock = v.ownBlock ∨ v'.ownBlock = some w.heap.size) := by
 obtain ⟨i, z, hi, hz, hsize, hb, hzs⟩ := E.hi;have hmul : (k + m) * bytes ≤ 140737488355328 := by
  have h1 : (k + m) * bytes ≤ 1048576 * bytes := Nat.mul_le_mul_right _ hm
  omega
 obtain ⟨v', w', h2, h3, h4, h5⟩ := QEe (P := P) w base t ty e i z size bytes E.ht hi hz hsize hb hzs E.hs v k xs hown B src m news hr h1 (by simp only [maxLen]; omega) hmul hbase
 exact ⟨v', w', h2, h3, h4, (Below.refl _ _).grown h4 hbase fun g hg => (hown.lt g hg).1, h5⟩
/-- an append to a row of one's own -/
theorem EL.push {d ty t e size bytes base B m k : Nat} {s x : Operand} {pos : String} {af : Array Edge} (E : Elem P t e size bytes) {v src : Value} {xs news : List Value} (hs : evS σ s = some v) (hx : evS σ x = some src) (hown : w.ownsRow base e size v k xs) (hr : Rd w B size src m news) (h1 : ∀ u ∈ news, u.oneCell' = true) (hm : k + m ≤ 1048576) (hby : Nat.ble bytes 1048576 = true) (hbase : base ≤ w.heap.size) (hd : Nat.blt d n = true)
  (next : ∀ v' w', w'.ownsRow base e size v' (k + m) (xs ++ news) → w.grownBy w' v.ownBlock → Below base w w' → (v'.ownBlock = v.ownBlock ∨ v'.ownBlock = some w.heap.size) → EL P n L Q rest (ins σ d v') w') : EL P n L Q (⟨some d, .call { callee := .builtin .append, args := #[s, x], argTypes := #[t, t] }, ty, pos, af, none⟩ :: rest) σ w := fun a ha => by
 obtain ⟨v', w', h2, h3, h4, h5, h6⟩ := QCT (P := P) (ty := ty) E hown hr h1 hm (by simpa [Nat.ble_eq] using hby) hbase
 exact QA2 (ZU rfl _) (YQ rfl (ha.eval hs) (ha.eval hx) h2) (next v' w' h3 h4 h5 h6 _ (ha.put hd v'))
end
/-- one element in a block -/
theorem QAE {w : World} {g size T : Nat} {l : List Value} (h : Blk w g T l.toArray) (hl : lenV l = size) : Rd w w.heap.size size (.slice (some ⟨g, 0, none⟩) 1 1) 1 l := by
 have hl' : l.length = size := by rw [← Yw]; exact hl
 refine ⟨by omega, _, _, rfl, Nat.le_refl _, fun _ => ⟨g, 0, rfl, h.lt, fun j u hu => ?_⟩⟩
 rw [Nat.zero_add, h.cell]
 simpa using hu
section
variable {P : Program} {n : Nat} {σ : Sg} {w : World}
theorem QGH {fn : Func} {c : Tmp} {t : TypeId} {p : Addr} {v : Value} (h : fn.results = #[.cell c t]) (hc : σ c = some (.pointer (some p))) (hl : (loadVar t p).run P w = .ok v w) (a : Act) (ha : Env n σ a) : (results fn a.tmps).run P w = .ok v w := by
 have h1 : a.tmps.getD c undef = .pointer (some p) := ha.eval (x := .tmp c) hc;rw [Array.getD_eq_getD_getElem?] at h1
 simp [results, h, h1, asAddr, hl]
theorem QLu {fn : Func} {c s : Tmp} {t : TypeId} {p : Addr} {v u : Value} (h : fn.results = #[.cell c t, .tmp s]) (hc : σ c = some (.pointer (some p))) (hs : σ s = some u) (hl : (loadVar t p).run P w = .ok v w) (a : Act) (ha : Env n σ a) : (results fn a.tmps).run P w = .ok (.tuple #[v, u]) w := by
 have h1 : a.tmps.getD c undef = .pointer (some p) := ha.eval (x := .tmp c) hc;have h2 : a.tmps.getD s undef = u := ha.eval (x := .tmp s) hs;rw [Array.getD_eq_getD_getElem?] at h1 h2
 simp [results, h, h1, h2, asAddr, hl]
end
/-- several elements in a block -/
theorem Yt {w : World} {g size k T : Nat} {l : List Value} (h : Blk w g T l.toArray) (hl : lenV l = k * size) : Rd w w.heap.size size (.slice (some ⟨g, 0, none⟩) k k) k l := by
 have hl' : l.length = k * size := by rw [← Yw]; exact hl
 refine ⟨hl', _, _, rfl, Nat.le_refl _, fun _ => ⟨g, 0, rfl, h.lt, fun j u hu => ?_⟩⟩
 rw [Nat.zero_add, h.cell]
 simpa using hu
/-! ### The head of a drawn region -/
section
variable {P : Program} {n : Nat} {L : List Oper} {Q : Exit → Act → World → Prop} {cls : List (List Nat)} {m : Nat} {alc : List Nat} {w w1 : World} {Φ : Nat → (Nat → Value) → World → Prop} {i : Nat} {val : Nat → Value} {a : Act} {σ : Sg}
abbrev HK (L : List Oper) (cls : List (List Nat)) (alc : List Nat) (Φ : Nat → (Nat → Value) → World → Prop) (i : Nat) (val : Nat → Value) (a : Act) (w1 : World) : Act → World → Prop :=
 fun a' w' => ∃ v, a' = a.put (ZS L i) v ∧ Below w1.heap.size w1 w' ∧ Φ i (res (upd val i v) i (clsAt cls i)) w' ∧ (i ∈ alc → v = .pointer (some ⟨w1.heap.size, 0, none⟩) ∧ w1.heap.size < w'.heap.size)
theorem opL {o : Oper} (ho : nthO L i = some o) : L.toArray[i]? = some o ∧ ZS L i = o.dst := by
 have : ∀ (L : List Oper) (i : Nat), nthO L i = some o → L[i]? = some o := by
  intro L
  induction L with
  | nil => intro i h; cases h
  | cons x L ih =>
   intro i h
   cases i with
   | zero => simpa [nthO] using h
   | succ i => simpa using ih i h
 have h := this L i ho
 exact ⟨by simpa using h, dstOf_at h⟩
theorem QHE {o : Oper} {v : Value} {w' : World} (ho : nthO L i = some o) (hg : o.guard = none) (hr : (execOp a.eval o).run P w1 = .ok (.value v) w') (hb : Below w1.heap.size w1 w') (hΦ : Φ i (res (upd val i v) i (clsAt cls i)) w') (halc : i ∈ alc → v = .pointer (some ⟨w1.heap.size, 0, none⟩) ∧ w1.heap.size < w'.heap.size) :
  wpOp P L.toArray Q i (HK L cls alc Φ i val a w1) a w1 := by
 obtain ⟨h1, h2⟩ := opL ho
 unfold wpOp
 simp only [h1]
 rw [if_pos (ZU hg _)]
 left
 unfold Oper.wp
 rw [hr]
 exact ⟨v, by rw [h2], hb, hΦ, halc⟩
/-- a value, the world as it was -/
theorem ZJ {o : Oper} {v : Value} (ha : Env n σ a) (ho : nthO L i = some o) (hg : o.guard = none) (hr : ZI P n σ w1 o v) (hΦ : Φ i (res (upd val i v) i (clsAt cls i)) w1) (halc : memB alc i = false) : wpOp P L.toArray Q i (HK L cls alc Φ i val a w1) a w1 :=
 QHE ho hg (hr a ha) ⟨rfl, rfl, rfl, Nat.le_refl _, fun _ _ => rfl⟩ hΦ fun h => by rw [ZA.2 h] at halc; cases halc
theorem QKB {o : Oper} {cs : Array Value} {T : TypeId} {v : Nat → Value} (ho : nthO L i = some o) (hg : o.guard = none) (hr : ∀ a, Env n σ a → (execOp a.eval o).run P w1 = .ok (.value (v w1.heap.size)) (w1.alloc (.cells cs T))) (ha : Env n σ a)
  (hv : memB alc i = true → v = fun g => .pointer (some ⟨g, 0, none⟩)) (hΦ : ∀ g w', Blk w' g T cs → Below w1.heap.size w1 w' → w1.heap.size ≤ g → Φ i (res (upd val i (v g)) i (clsAt cls i)) w') : wpOp P L.toArray Q i (HK L cls alc Φ i val a w1) a w1 :=
 QHE ho hg (hr a ha) ((Below.refl _ _).alloc (Nat.le_refl _) _) (hΦ _ _ (Blk.new w1 T cs) ((Below.refl _ _).alloc (Nat.le_refl _) _) (Nat.le_refl _)) fun h => by rw [hv (ZA.2 h)]; exact ⟨rfl, by simp⟩
theorem QH5 {o : Oper} {cs : Array Value} {T : TypeId} (ha : Env n σ a) (ho : nthO L i = some o) (hg : o.guard = none) (hr : ∀ a, Env n σ a → (execOp a.eval o).run P w1 = .ok (.value (.pointer (some ⟨w1.heap.size, 0, none⟩))) (w1.alloc (.cells cs T)))
  (hΦ : ∀ g w', Blk w' g T cs → Below w1.heap.size w1 w' → w1.heap.size ≤ g → Φ i (res (upd val i (.pointer (some ⟨g, 0, none⟩))) i (clsAt cls i)) w') : wpOp P L.toArray Q i (HK L cls alc Φ i val a w1) a w1 :=
 QKB (v := fun g => .pointer (some ⟨g, 0, none⟩)) ho hg hr ha (fun _ => rfl) hΦ
theorem QDd {o : Oper} {m c : Nat} {cs : Array Value} {T : TypeId} (ha : Env n σ a) (ho : nthO L i = some o) (hg : o.guard = none) (hr : ∀ a, Env n σ a → (execOp a.eval o).run P w1 = .ok (.value (.slice (some ⟨w1.heap.size, 0, none⟩) m c)) (w1.alloc (.cells cs T))) (halc : memB alc i = false)
  (hΦ : ∀ g w', Blk w' g T cs → Below w1.heap.size w1 w' → w1.heap.size ≤ g → Φ i (res (upd val i (.slice (some ⟨g, 0, none⟩) m c)) i (clsAt cls i)) w') : wpOp P L.toArray Q i (HK L cls alc Φ i val a w1) a w1 :=
 QKB (v := fun g => .slice (some ⟨g, 0, none⟩) m c) ho hg hr ha (fun h => by rw [halc] at h; cases h) hΦ
theorem QAc {o : Oper} {f : FuncId} {args : Array Value} {R : Ending → World → Prop} (ha : Env n σ a) (ho : nthO L i = some o) (hg : o.guard = none) (hr : ∀ a, Env n σ a → (execOp a.eval o).run P w1 = .ok (.enter f args) w1) (hc : Calls P f args w1 R)
  (halc : memB alc i = false) (hΦ : ∀ e w', R e w' → ∃ v, e = .returned v ∧ Below w1.heap.size w1 w' ∧ Φ i (res (upd val i v) i (clsAt cls i)) w') : wpOp P L.toArray Q i (HK L cls alc Φ i val a w1) a w1 := by
 obtain ⟨h1, h2⟩ := opL ho
 unfold wpOp
 simp only [h1]
 rw [if_pos (ZU hg _)]
 left
 unfold Oper.wp
 rw [hr a ha, Oper.upon_enter];refine hc.mono fun e w' he => ?_
 obtain ⟨v, rfl, hb, hp⟩ := hΦ e w' he
 exact ⟨v, by rw [h2], hb, hp, fun h => by rw [ZA.2 h] at halc; cases halc⟩
theorem ZQ {d : Nat} {u v : Value} (h : σ d = some u) (e : u = v) : σ d = some v := h.trans (congrArg some e)
theorem Yc {w' : World} {g : Nat} (h : Alc alc m val w w') (hi : memB alc i = true) (him : Nat.blt i m = true) (e : val i = .pointer (some ⟨g, 0, none⟩)) : w.heap.size ≤ g := by
 obtain ⟨g', h1, h2, _⟩ := h.1 i (ZA.1 hi) (by simpa [Nat.blt_eq] using him)
 rw [e] at h1
 injection h1 with h1
 injection h1 with h1
 injection h1 with h1
 omega
theorem QBe {w' : World} {j g k : Nat} (h : Alc alc m val w w') (hi : memB alc i = true) (hj : memB alc j = true) (him : Nat.blt i m = true) (hjm : Nat.blt j m = true) (hij : Nat.beq i j = false) (e : val i = .pointer (some ⟨g, 0, none⟩)) (e' : val j = .pointer (some ⟨k, 0, none⟩)) : g ≠ k := fun hk => by
 have := h.2 i (ZA.1 hi) j (ZA.1 hj) (by simpa [Nat.blt_eq] using him) (by simpa [Nat.blt_eq] using hjm) (Nat.ne_of_beq_eq_false hij)
 rw [e, e', hk] at this
 exact this rfl
def Mono (F : (Nat → Value) → World → Prop) : Prop := ∀ r w1 w2, Below w1.heap.size w1 w2 → F r w1 → F r w2
theorem QAL {T k m c : Nat} {cs : (Nat → Value) → Array Value} {C : Nat → Prop} : Mono fun r w => ∃ g, r k = .slice (some ⟨g, 0, none⟩) m c ∧ Blk w g T (cs r) ∧ C g := fun _ _ _ hb ⟨g, h1, h2, h3⟩ => ⟨g, h1, h2.below hb h2.lt, h3⟩
/-! what the operations of a head tell -/
def phi (V : Nat → (Nat → Value) → Prop) : List (Nat × ((Nat → Value) → World → Prop)) → Nat → (Nat → Value) → World → Prop
 | [], i, r, _ => V i r
 | p :: l, i, r, w => match Nat.beq i p.1 with
  | true => p.2 r w
  | false => phi V l i r w
theorem Yu {V : Nat → (Nat → Value) → Prop} : ∀ i r w1 w2, Below w1.heap.size w1 w2 → phi V [] i r w1 → phi V [] i r w2 := fun _ _ _ _ _ h => h
theorem Ye {V : Nat → (Nat → Value) → Prop} {k : Nat} {F : (Nat → Value) → World → Prop} {l : List (Nat × ((Nat → Value) → World → Prop))} (hF : Mono F) (hl : ∀ i r w1 w2, Below w1.heap.size w1 w2 → phi V l i r w1 → phi V l i r w2) :
  ∀ i r w1 w2, Below w1.heap.size w1 w2 → phi V ((k, F) :: l) i r w1 → phi V ((k, F) :: l) i r w2 := by
 intro i r w1 w2 hb h
 unfold phi at h ⊢
 cases e : Nat.beq i k with
 | true => simp only [e] at h ⊢; exact hF r w1 w2 hb h
 | false => simp only [e] at h ⊢; exact hl i r w1 w2 hb h
def nthV : List Value → Nat → Value
 | [], _ => undef
 | v :: _, 0 => v
 | _ :: l, k + 1 => nthV l k
def QIS (val : Nat → Value) : Nat → List Value → Prop
 | _, [] => True
 | k, c :: l => val k = c ∧ QIS val (k + 1) l
theorem QEZ {val : Nat → Value} : ∀ {l : List Value} {k : Nat}, QIS val k l → ∀ j, j < l.length → val (k + j) = nthV l j
 | [], _, _, j, h => by simp at h
 | c :: l, k, h, 0, _ => h.1
 | c :: l, k, h, j + 1, hj => by
  have := QEZ h.2 j (by simpa using hj)
  rw [show k + (j + 1) = k + 1 + j by omega]
  exact this
theorem QBM {v1 v2 : Nat → Value} : ∀ m, (∀ j, j < m → v1 j = v2 j) → sgEnd L σ v1 m = sgEnd L σ v2 m
 | 0, _ => rfl
 | m + 1, h => by
  unfold sgEnd
  rw [QBM m fun j hj => h j (by omega), h m (by omega)]
theorem EL.ends {rest : List Oper} {cs : List Value} (hv : QIS val 0 cs) (hl : Nat.ble m (lenV cs) = true) (h : EL P n L Q rest (sgEnd L σ (nthV cs) m) w) : EL P n L Q rest (sgEnd L σ val m) w := by
 have hl' : m ≤ cs.length := by rw [← Yw]; simpa [Nat.ble_eq] using hl
 rw [QBM m fun j hj => by have := QEZ hv j (by omega); simpa using this]
 exact h
end
section
variable {P : Program} {n : Nat} {σ : Sg} {w : World} {Q : Exit → Act → World → Prop} {L : List Oper}
def flD (sto : List Nat) (D : Array Bool) : Nat → Bool := fun k => bif memB sto k then D.getD k false else false
def fset (fl : Nat → Bool) (i : Nat) : Nat → Bool := fun k => bif Nat.beq k i then true else fl k
/-- of what is known of worlds in the region -/
structure BaseOk (w : World) (Base : (Nat → Bool) → World → Prop) : Prop where
 start : ∀ fl, (∀ k, fl k = false) → Base fl { w with drawn := w.drawn + 1 }
 grow : ∀ fl w1 w2, Base fl w1 → Below w1.heap.size w1 w2 → Base fl w2
 size : ∀ fl w1, Base fl w1 → w.heap.size ≤ w1.heap.size
def QL9 (P : Program) (n : Nat) (L : List Oper) (Q : Exit → Act → World → Prop) (cls : List (List Nat)) (m : Nat) (alc sto : List Nat) (σ : Sg) (Base : (Nat → Bool) → World → Prop) (Φ : Nat → (Nat → Bool) → (Nat → Value) → World → Prop) (i : Nat) : Prop :=
 ∀ (val : Nat → Value) (fl : Nat → Bool) (w1 : World) (a : Act), Base fl w1 → Env n (sgAt L cls m σ val i) a → (∀ j, j ∈ clsAt cls i → Φ j fl (res val j (clsAt cls j)) w1) → (∀ s ∈ sto, i ∈ clsAt cls s → fl s = false) →
  wpOp P L.toArray Q i (fun a' w' => ∃ v, a' = a.put (ZS L i) v ∧ Below w1.heap.size w1 w' ∧ Φ i fl (res (upd val i v) i (clsAt cls i)) w' ∧ (i ∈ alc → v = .pointer (some ⟨w1.heap.size, 0, none⟩) ∧ w1.heap.size < w'.heap.size)) a w1
def QL8 (P : Program) (n : Nat) (L : List Oper) (Q : Exit → Act → World → Prop) (cls : List (List Nat)) (m : Nat) (alc sto : List Nat) (σ : Sg) (Base : (Nat → Bool) → World → Prop) (Φ : Nat → (Nat → Bool) → (Nat → Value) → World → Prop) (i : Nat) : Prop :=
 ∀ (val : Nat → Value) (fl : Nat → Bool) (w1 : World) (a : Act), Base fl w1 → fl i = false → Env n (sgAt L cls m σ val i) a → (∀ j, j ∈ clsAt cls i → Φ j fl (res val j (clsAt cls j)) w1) → (∀ s ∈ sto, i ∈ clsAt cls s → fl s = false) →
  wpOp P L.toArray Q i (fun a' w' => ∃ v, a' = a.put (ZS L i) v ∧ w1.heap.size ≤ w'.heap.size ∧ Base (fset fl i) w' ∧ Φ i (fset fl i) (res (upd val i v) i (clsAt cls i)) w' ∧
   ∀ j, j < m → j ≠ i → i ∉ clsAt cls j → (∀ p ∈ alc, (p = j ∨ p ∈ clsAt cls j) → ∀ q ∈ alc, (q = i ∨ q ∈ clsAt cls i) → p ≠ q → val p ≠ val q) → Φ j fl (res val j (clsAt cls j)) w1 → Φ j (fset fl i) (res val j (clsAt cls j)) w') a w1
structure SInv (n : Nat) (L : List Oper) (cls : List (List Nat)) (m : Nat) (alc sto : List Nat) (σ : Sg) (w : World) (Base : (Nat → Bool) → World → Prop) (Φ : Nat → (Nat → Bool) → (Nat → Value) → World → Prop) (D : Array Bool) (val : Nat → Value) (a : Act) (w' : World) : Prop where
 base : Base (flD sto D) w'
 size : a.tmps.size = n
 defers : a.defers = []
 new : ∀ i d, i < m → D.getD i false = true → ZS L i = some d → a.tmps[d]? = some (val i)
 old : ∀ t v, σ t = some v → (∀ k, k < m → D.getD k false = true → ZS L k ≠ some t) → a.tmps[t]? = some v
 says : ∀ i, i < m → D.getD i false = true → Φ i (flD sto D) (res val i (clsAt cls i)) w'
 down : ∀ i, D.getD i false = true → ∀ j ∈ clsAt cls i, D.getD j false = true
 alc1 : ∀ i ∈ alc, i < m → D.getD i false = true → ∃ g, val i = .pointer (some ⟨g, 0, none⟩) ∧ w.heap.size ≤ g ∧ g < w'.heap.size
 alc2 : ∀ i ∈ alc, ∀ j ∈ alc, i < m → j < m → D.getD i false = true → D.getD j false = true → i ≠ j → val i ≠ val j
 high : ∀ i, m ≤ i → D.getD i false = false
theorem QKF {sto : List Nat} {D : Array Bool} {i : Nat} (hi : i ∉ sto) (hs : i < D.size) : flD sto (D.setIfInBounds i true) = flD sto D := by
 funext k
 unfold flD
 cases e : memB sto k with
 | false => rfl
 | true =>
  have : k ≠ i := fun h => hi (h ▸ ZA.1 e)
  rw [set_get hs, if_neg this]
theorem QLN {sto : List Nat} {D : Array Bool} {i : Nat} (hi : i ∈ sto) (hs : i < D.size) : flD sto (D.setIfInBounds i true) = fset (flD sto D) i := by
 funext k
 unfold flD fset
 rw [set_get hs]
 cases e : Nat.beq k i with
 | true =>
  have := Nat.eq_of_beq_eq_true e;subst this;rw [ZA.2 hi]
  simp
 | false =>
  have := Nat.ne_of_beq_eq_false e;rw [if_neg this]
  rfl
theorem EO.regionS (cls : List (List Nat)) (m : Nat) (alc sto : List Nat) (Base : (Nat → Bool) → World → Prop) (Φ : Nat → (Nat → Bool) → (Nat → Value) → World → Prop) (hf : P.follows .mixedOrders = true) (hq : QAJ n cls m 0 L = true) (hml : Nat.ble m L.length = true) (hds : ∀ i ∈ sto, i ∉ alc ∧ i < m) (hB : BaseOk w Base)
  (hmono : ∀ i fl r w1 w2, Below w1.heap.size w1 w2 → Φ i fl r w1 → Φ i fl r w2)
  (hstep : ∀ i, i < m → i ∉ sto → QL9 P n L Q cls m alc sto σ Base Φ i) (hsto : ∀ i ∈ sto, QL8 P n L Q cls m alc sto σ Base Φ i)
  (hend : ∀ val fl w', (∀ k ∈ sto, fl k = true) → Base fl w' → Alc alc m val w w' → (∀ i, i < m → Φ i fl (res val i (clsAt cls i)) w') → EL P n L Q (L.drop m) (sgEnd L σ val m) w') : ∀ a, Env n σ a → RO P L.toArray Q a w := by
 have hm : m ≤ L.length := by simpa [Nat.ble_eq] using hml
 have H := QEG hq;have hback : QDP L.toArray = true := by
  refine List.all_eq_true.2 fun i hi => ?_
  have hi' : i < L.length := by simpa using hi
  have ho : L.toArray[i]? = some L[i] := by simp [hi']
  rw [ho];refine Array.all_eq_true_iff_forall_mem.2 fun e he => ?_
  cases hb : Region.binds .any e with
  | false => rfl
  | true => simpa using H.back i L[i] (by simp [hi']) e he hb
 intro a ha
 -- the tail's part
 have tailDone : ∀ (D : Array Bool) (i : Nat) (o : Oper), (∀ i, D.getD i false = true → ∀ j ∈ clsAt cls i, D.getD j false = true) → L[i]? = some o → (∀ e ∈ o.after, Region.binds .any e = true → D.getD e.on false = true) → ∀ j ∈ clsAt cls i, D.getD j false = true := by
  intro D i o hdown ho hdep j hj;obtain ⟨e, he, hb, h⟩ := H.dep i o ho j hj
  rcases h with rfl | h
  ·exact hdep e he hb
  ·exact hdown _ (hdep e he hb) j h
 have hEnd : ∀ (D : Array Bool) (val : Nat → Value) (a : Act) (w' : World), SInv n L cls m alc sto σ w Base Φ D val a w' → (∀ i, i < m → D.getD i false = true) → wpList P L.toArray Q (L.drop m) a w' := by
  intro D val a w' I hall;refine hend val (flD sto D) w' (fun k hk => by unfold flD; rw [ZA.2 hk]; exact hall k (hds k hk).2) I.base ⟨fun i hi hlt => I.alc1 i hi hlt (hall i hlt), fun i hi j hj h1 h2 hne => I.alc2 i hi j hj h1 h2 (hall i h1) (hall j h2) hne⟩ (fun i hi => I.says i hi (hall i hi)) a ⟨I.size, I.defers, ?_⟩
  have : ∀ k, k ≤ m → ∀ t v, sgEnd L σ val k t = some v → (∀ j, k ≤ j → j < m → ZS L j ≠ some t) → a.tmps[t]? = some v := by
   intro k
   induction k with
   | zero => intro _ t v ht hn; exact I.old t v ht fun j hj _ => hn j (Nat.zero_le _) hj
   | succ k ih =>
    intro hk t v ht hn
    unfold sgEnd at ht
    cases hd : ZS L k with
    | none =>
     simp only [hd] at ht
     exact ih (by omega) t v ht fun j h1 h2 => by
      rcases Nat.lt_or_ge k j with h | h
      ·exact hn j h h2
      ·obtain rfl : j = k := by omega
       rw [hd]; simp
    | some d =>
     simp only [hd] at ht
     unfold ins at ht
     cases e : Nat.beq t d with
     | true =>
      rw [e] at ht;have e' := Nat.eq_of_beq_eq_true e;subst e';rw [I.new k t (by omega) (hall k (by omega)) hd]
      exact ht
     | false =>
      rw [e] at ht
      exact ih (by omega) t v ht fun j h1 h2 => by
       rcases Nat.lt_or_ge k j with h | h
       ·exact hn j h h2
       ·obtain rfl : j = k := by omega
        rw [hd];intro e2
        injection e2 with e2
        exact Nat.ne_of_beq_eq_false e e2.symm
  exact fun t v ht => this m (Nat.le_refl _) t v ht fun j h1 h2 => by omega
 refine QJT hf hback (fun D a w' => (∃ val, SInv n L cls m alc sto σ w Base Φ D val a w') ∨ ∃ k, m < k ∧ k ≤ L.length ∧ (∀ i, D.getD i false = decide (i < k)) ∧ wpList P L.toArray Q (L.drop k) a w') ?_ ?_ ?_
 ·left
  have hno : ∀ i, (Array.replicate L.toArray.size false).getD i false = false := fun i => by
   by_cases h : i < L.toArray.size
   ·simp [Array.getD]
   ·simp [Array.getD]
  refine ⟨fun _ => undef, ⟨hB.start _ (fun k => by unfold flD; rw [hno]; cases memB sto k <;> rfl), ha.size, ha.defers, ?_, fun t v ht _ => ha.get t v ht, ?_, ?_, ?_, ?_, fun i _ => hno i⟩⟩
  ·intro i d _ h; rw [hno] at h; cases h
  ·intro i _ h; rw [hno] at h; cases h
  ·intro i h; rw [hno] at h; cases h
  ·intro i _ _ h; rw [hno] at h; cases h
  ·intro i _ j _ _ _ h; rw [hno] at h; cases h
 ·intro D a w1 i o hs hI hni ho hdep
  have hs' : D.size = L.length := by simpa using hs
  have ho' : L[i]? = some o := by simpa using ho
  have hil : i < L.length := (List.getElem?_eq_some_iff.1 ho').1;have hnd : D.getD i false = false := QAi (by omega) hni
  have takeTail : ∀ (k : Nat), k = i → m ≤ k → (∀ j, D.getD j false = decide (j < k)) → wpList P L.toArray Q (L.drop k) a w1 →
    wpOp P L.toArray Q i (fun a w' => (∃ val, SInv n L cls m alc sto σ w Base Φ (D.setIfInBounds i true) val a w') ∨ ∃ k, m < k ∧ k ≤ L.length ∧ (∀ j, (D.setIfInBounds i true).getD j false = decide (j < k)) ∧ wpList P L.toArray Q (L.drop k) a w') a w1 := by
   intro k hk hmk hD hw;subst hk;rw [List.drop_eq_getElem_cons hil] at hw;have e : L[k] = o := by rw [List.getElem?_eq_getElem hil] at ho'; injection ho'
   rw [e] at hw
   unfold wpList at hw
   have hnext : ∀ a w', wpList P L.toArray Q (L.drop (k + 1)) a w' → (∃ val, SInv n L cls m alc sto σ w Base Φ (D.setIfInBounds k true) val a w') ∨ ∃ k', m < k' ∧ k' ≤ L.length ∧ (∀ j, (D.setIfInBounds k true).getD j false = decide (j < k')) ∧ wpList P L.toArray Q (L.drop k') a w' := fun a w' h => .inr ⟨k + 1, by omega, by omega, fun j => by
    rw [set_get (by omega)]
    by_cases e : j = k
    ·subst e; simp
    ·rw [if_neg e, hD]
     by_cases h : j < k
     ·simp [h]; omega
     ·simp [h]; omega, h⟩
   unfold wpOp
   simp only [ho]
   split
   ·rename_i hw'
    rw [if_pos hw'] at hw
    rcases hw with h | h
    ·exact .inl (Oper.wp_mono hnext h)
    ·exact .inr h
   ·rename_i hw'
    rw [if_neg hw'] at hw
    exact hnext _ _ hw
  rcases hI with ⟨val, I⟩ | ⟨k, hmk, hkl, hD, hw⟩
  ·have hcd := tailDone D i o I.down ho' hdep
   rcases Nat.lt_or_ge i m with him | him
   ·have henv : Env n (sgAt L cls m σ val i) a := by
     refine ⟨I.size, I.defers, fun t v ht => ?_⟩
     unfold sgAt at ht
     cases hfw : QDI L t (clsAt cls i) with
     | some j =>
      simp only [hfw] at ht
      obtain ⟨h1, h2⟩ := QAV hfw
      injection ht with ht
      have hj := hcd j h1;have hjm : j < m := by
       rcases Nat.lt_or_ge j m with h | h
       ·exact h
       ·rw [I.high j h] at hj; cases hj
      rw [I.new j t hjm hj h2, ht]
     | none =>
      simp only [hfw] at ht
      cases hob : oldB L cls i t m with
      | false => rw [hob] at ht; cases ht
      | true =>
       rw [hob] at ht;refine I.old t v ht fun k hk hdk hd => ?_
       rcases QBq hob k hk hd with rfl | h
       ·rw [hnd] at hdk; cases hdk
       ·have := I.down k hdk i h
        rw [hnd] at this; cases this
    have hjm : ∀ j, D.getD j false = true → j < m := fun j hj => by
     rcases Nat.lt_or_ge j m with h | h
     ·exact h
     ·rw [I.high j h] at hj; cases hj
    by_cases his : i ∈ sto
    ·have hfi : flD sto D i = false := by unfold flD; rw [ZA.2 his]; exact hnd
     refine wpOp_mono ?_ (hsto i his val (flD sto D) w1 a I.base hfi henv (fun j hj => I.says j (hjm j (hcd j hj)) (hcd j hj)) fun s hs' hi' => by
       unfold flD; rw [ZA.2 hs']
       rcases Bool.eq_false_or_eq_true (D.getD s false) with h | h
       ·have := I.down s h i hi'; rw [hnd] at this; cases this
       ·exact h)
     rintro a' w' ⟨v, rfl, hgsz, hbase, hphi, hkeep⟩
     left
     have hsz := hB.size _ _ I.base;have hfl := QLN (D := D) his (by omega)
     obtain ⟨hal0, _⟩ := hds i his;have hdi : ZS L i = o.dst := dstOf_at ho';refine ⟨upd val i v, ⟨by rw [hfl]; exact hbase, ?_, ?_, ?_, ?_, ?_, ?_, ?_, ?_, ?_⟩⟩
     ·rw [QCU]; exact I.size
     ·cases ZS L i <;> exact I.defers
     ·intro k d hk hdk hd
      rw [set_get (by omega)] at hdk
      by_cases e : k = i
      ·subst e
       have hdn : d < n := H.small k o d ho' hk (by rw [← hdi]; exact hd)
       rw [hd]
       simp only [Act.put, upd, if_true]
       rw [Array.getElem?_setIfInBounds_self_of_lt (by rw [I.size]; exact hdn)]
      ·rw [if_neg e] at hdk
       have hok : ∃ p, L[k]? = some p := ⟨L[k]'(by omega), by simp [show k < L.length by omega]⟩
       obtain ⟨p, hp⟩ := hok;have hne : ZS L i ≠ some d := by
        intro h'
        rcases Nat.lt_or_gt_of_ne e with hlt | hgt
        ·exact H.dist k i p o d hp ho' hlt him (by rw [← dstOf_at hp]; exact hd) (by rw [← hdi]; exact h')
        ·exact H.dist i k o p d ho' hp hgt hk (by rw [← hdi]; exact h') (by rw [← dstOf_at hp]; exact hd)
       have := I.new k d hk hdk hd
       simp only [upd, if_neg e]
       cases hdi' : ZS L i with
       | none => exact this
       | some d' =>
        have : d' ≠ d := fun h => hne (by rw [hdi', h])
        simp only [Act.put, Array.getElem?_setIfInBounds_ne this]
        assumption
     ·intro t u ht hno
      have h1 : a.tmps[t]? = some u := I.old t u ht fun k hk hdk => hno k hk (by rw [set_get (by omega)]; split <;> simp [hdk])
      have h2 : ZS L i ≠ some t := hno i him (by rw [set_get (by omega), if_pos rfl])
      cases hdi' : ZS L i with
      | none => exact h1
      | some d' =>
       have : d' ≠ t := fun h => h2 (by rw [hdi', h])
       simp only [Act.put, Array.getElem?_setIfInBounds_ne this]
       exact h1
     ·intro k hk hdk
      rw [set_get (by omega)] at hdk
      rw [hfl]
      by_cases e : k = i
      ·subst e; exact hphi
      ·rw [if_neg e] at hdk
       have hni' : i ∉ clsAt cls k := fun h => by
        have := I.down k hdk i h;rw [hnd] at this; cases this
       rw [QDX e hni'];refine hkeep k hk e hni' (fun p hp hpk q hq hqi hne => ?_) (I.says k hk hdk)
       have hpd : D.getD p false = true := by
        rcases hpk with rfl | h
        ·exact hdk
        ·exact I.down k hdk p h
       have hqd : D.getD q false = true := by
        rcases hqi with rfl | h
        ·exact absurd hq hal0
        ·exact hcd q h
       exact I.alc2 p hp q hq (hjm p hpd) (hjm q hqd) hpd hqd hne
     ·intro k hdk j hj
      rw [set_get (by omega)] at hdk ⊢
      by_cases e : k = i
      ·subst e
       rw [hcd j hj]; simp
      ·rw [if_neg e] at hdk
       rw [I.down k hdk j hj]; simp
     ·intro k hk hkm hdk
      rw [set_get (by omega)] at hdk
      by_cases e : k = i
      ·subst e; exact absurd hk hal0
      ·rw [if_neg e] at hdk
       obtain ⟨g, h1, h2, h3⟩ := I.alc1 k hk hkm hdk
       exact ⟨g, by simp [upd, e, h1], h2, Nat.lt_of_lt_of_le h3 hgsz⟩
     ·intro k hk j hj hkm hjm' hdk hdj hne
      rw [set_get (by omega)] at hdk hdj
      by_cases e : k = i
      ·subst e; exact absurd hk hal0
      ·by_cases e2 : j = i
       ·subst e2; exact absurd hj hal0
       ·rw [if_neg e] at hdk
        rw [if_neg e2] at hdj
        simp only [upd, if_neg e, if_neg e2]
        exact I.alc2 k hk j hj hkm hjm' hdk hdj hne
     ·intro k hk
      rw [set_get (by omega), if_neg (by omega)]
      exact I.high k hk
    refine wpOp_mono ?_ (hstep i him his val (flD sto D) w1 a I.base henv (fun j hj => I.says j (hjm j (hcd j hj)) (hcd j hj)) fun s hs' hi' => by
      unfold flD; rw [ZA.2 hs']
      rcases Bool.eq_false_or_eq_true (D.getD s false) with h | h
      ·have := I.down s h i hi'; rw [hnd] at this; cases this
      ·exact h)
    rintro a' w' ⟨v, rfl, hb, hphi, halc⟩
    left
    have hsz := hB.size _ _ I.base;have hfl := QKF (D := D) his (by omega)
    have hdi : ZS L i = o.dst := dstOf_at ho';refine ⟨upd val i v, ⟨by rw [hfl]; exact hB.grow _ _ _ I.base hb, ?_, ?_, ?_, ?_, ?_, ?_, ?_, ?_, ?_⟩⟩
    ·rw [QCU]; exact I.size
    ·cases ZS L i <;> exact I.defers
    ·intro k d hk hdk hd
     rw [set_get (by omega)] at hdk
     by_cases e : k = i
     ·subst e
      have hdn : d < n := H.small k o d ho' hk (by rw [← hdi]; exact hd)
      rw [hd]
      simp only [Act.put, upd, if_true]
      rw [Array.getElem?_setIfInBounds_self_of_lt (by rw [I.size]; exact hdn)]
     ·rw [if_neg e] at hdk
      have hok : ∃ p, L[k]? = some p := ⟨L[k]'(by omega), by simp [show k < L.length by omega]⟩
      obtain ⟨p, hp⟩ := hok;have hne : ZS L i ≠ some d := by
       intro h'
       rcases Nat.lt_or_gt_of_ne e with hlt | hgt
       ·exact H.dist k i p o d hp ho' hlt him (by rw [← dstOf_at hp]; exact hd) (by rw [← hdi]; exact h')
       ·exact H.dist i k o p d ho' hp hgt hk (by rw [← hdi]; exact h') (by rw [← dstOf_at hp]; exact hd)
      have := I.new k d hk hdk hd
      simp only [upd, if_neg e]
      cases hdi' : ZS L i with
      | none => exact this
      | some d' =>
       have : d' ≠ d := fun h => hne (by rw [hdi', h])
       simp only [Act.put, Array.getElem?_setIfInBounds_ne this]
       assumption
    ·intro t u ht hno
     have h1 : a.tmps[t]? = some u := I.old t u ht fun k hk hdk => hno k hk (by rw [set_get (by omega)]; split <;> simp [hdk])
     have h2 : ZS L i ≠ some t := hno i him (by rw [set_get (by omega), if_pos rfl])
     cases hdi' : ZS L i with
     | none => exact h1
     | some d' =>
      have : d' ≠ t := fun h => h2 (by rw [hdi', h])
      simp only [Act.put, Array.getElem?_setIfInBounds_ne this]
      exact h1
    ·intro k hk hdk
     rw [set_get (by omega)] at hdk
     rw [hfl]
     by_cases e : k = i
     ·subst e; exact hphi
     ·rw [if_neg e] at hdk
      have hni' : i ∉ clsAt cls k := fun h => by
       have := I.down k hdk i h;rw [hnd] at this; cases this
      rw [QDX e hni']
      exact hmono k _ _ w1 w' hb (I.says k hk hdk)
    ·intro k hdk j hj
     rw [set_get (by omega)] at hdk ⊢
     by_cases e : k = i
     ·subst e
      rw [hcd j hj]; simp
     ·rw [if_neg e] at hdk
      rw [I.down k hdk j hj]; simp
    ·intro k hk hkm hdk
     rw [set_get (by omega)] at hdk
     by_cases e : k = i
     ·subst e
      obtain ⟨h1, h2⟩ := halc hk
      exact ⟨w1.heap.size, by simp [upd, h1], hsz, h2⟩
     ·rw [if_neg e] at hdk
      obtain ⟨g, h1, h2, h3⟩ := I.alc1 k hk hkm hdk
      exact ⟨g, by simp [upd, e, h1], h2, Nat.lt_of_lt_of_le h3 hb.size⟩
    ·intro k hk j hj hkm hjm' hdk hdj hne
     rw [set_get (by omega)] at hdk hdj
     by_cases e : k = i
     ·subst e
      have e2 : j ≠ k := Ne.symm hne;rw [if_neg e2] at hdj;obtain ⟨h1, _⟩ := halc hk;obtain ⟨g, h3, _, h5⟩ := I.alc1 j hj hjm' hdj
      simp only [upd, if_true, if_neg e2, h1, h3]
      intro h
      injection h with h
      injection h with h
      injection h with h
      omega
     ·rw [if_neg e] at hdk
      by_cases e2 : j = i
      ·subst e2
       obtain ⟨h1, _⟩ := halc hj;obtain ⟨g, h3, _, h5⟩ := I.alc1 k hk hkm hdk
       simp only [upd, if_true, if_neg e, h1, h3]
       intro h
       injection h with h
       injection h with h
       injection h with h
       omega
      ·rw [if_neg e2] at hdj
       simp only [upd, if_neg e, if_neg e2]
       exact I.alc2 k hk j hj hkm hjm' hdk hdj hne
    ·intro k hk
     rw [set_get (by omega), if_neg (by omega)]
     exact I.high k hk
   ·have hall : ∀ j, j < i → D.getD j false = true := fun j hj => hcd j (H.tail i o ho' him j hj)
    have him' : i = m := by
     rcases Nat.lt_or_ge m i with h | h
     ·have := hall m h
      rw [I.high m (Nat.le_refl _)] at this; cases this
     ·omega
    subst him'
    exact takeTail i rfl (Nat.le_refl _) (fun j => by
     by_cases h : j < i
     ·rw [hall j h]; simp [h]
     ·rw [I.high j (by omega)]; simp [h]) (hEnd D val a w1 I hall)
  ·have hcd : ∀ j, j < i → D.getD j false = true := fun j hj => by
    have hmi : m ≤ i := by
     have := hD i;rw [hnd] at this;have : ¬ i < k := by simpa using this.symm
     omega
    have hdn : ∀ i, D.getD i false = true → ∀ j ∈ clsAt cls i, D.getD j false = true := by
     intro x hx y hy;rw [hD] at hx ⊢;have hx' : x < k := by simpa using hx
     obtain ⟨p, hp⟩ : ∃ p, L[x]? = some p := ⟨L[x]'(by omega), by simp [show x < L.length by omega]⟩
     have : ∀ (x : Nat) (p : Oper), L[x]? = some p → ∀ y ∈ clsAt cls x, y < x := by
      intro x
      induction x using Nat.strongRecOn with
      | ind x ih =>
       intro p hp y hy;obtain ⟨e, he, hb, h⟩ := H.dep x p hp y hy;have h1 := H.back x p hp e he hb
       rcases h with rfl | h
       ·exact h1
       ·obtain ⟨q, hq⟩ : ∃ q, L[e.on]? = some q := by
         have : x < L.length := (List.getElem?_eq_some_iff.1 hp).1
         exact ⟨L[e.on]'(by omega), by simp [show e.on < L.length by omega]⟩
        have := ih e.on h1 q hq y h
        omega
     have := this x p hp y hy
     simp
     omega
    exact tailDone D i o hdn ho' hdep j (H.tail i o ho' hmi j hj)
   have hik : k = i := by
    have h1 := hD i;rw [hnd] at h1;have h2 : ¬ i < k := by simpa using h1.symm
    rcases Nat.lt_or_ge k i with h | h
    ·have := hcd k h
     rw [hD] at this
     simp at this
    ·omega
   exact takeTail k hik (by omega) hD hw
 ·intro D a w1 hs hI hall
  have hs' : D.size = L.length := by simpa using hs
  rcases hI with ⟨val, I⟩ | ⟨k, hmk, hkl, hD, hw⟩
  ·have hmL : m = L.length := by
    rcases Nat.lt_or_ge m L.length with h | h
    ·have := hall m (by simpa using h)
     rw [I.high m (Nat.le_refl _)] at this; cases this
    ·omega
   have := hEnd D val a w1 I fun i hi => hall i (by simp; omega)
   rw [hmL, List.drop_length] at this
   exact this
  ·have hk : k = L.length := by
    rcases Nat.lt_or_ge k L.length with h | h
    ·have := hall k (by simpa using h)
     rw [hD] at this
     simp at this
    ·omega
   rw [hk, List.drop_length] at hw
   exact hw
theorem EC.regionS {id : Nat} (cls : List (List Nat)) (m : Nat) (alc sto : List Nat) (Base : (Nat → Bool) → World → Prop) (Φ : Nat → (Nat → Bool) → (Nat → Value) → World → Prop) (hf : P.follows .mixedOrders = true) (hq : QAJ n cls m 0 L = true) (hml : Nat.ble m L.length = true) (hds : ∀ i ∈ sto, i ∉ alc ∧ i < m) (hB : BaseOk w Base)
  (hmono : ∀ i fl r w1 w2, Below w1.heap.size w1 w2 → Φ i fl r w1 → Φ i fl r w2)
  (hstep : ∀ i, i < m → i ∉ sto → QL9 P n L Q cls m alc sto σ Base Φ i) (hsto : ∀ i ∈ sto, QL8 P n L Q cls m alc sto σ Base Φ i)
  (hend : ∀ val fl w', (∀ k ∈ sto, fl k = true) → Base fl w' → Alc alc m val w w' → (∀ i, i < m → Φ i fl (res val i (clsAt cls i)) w') → EL P n L Q (L.drop m) (sgEnd L σ val m) w') : EC P n (.region id L.toArray true) Q σ w := fun a ha => wp_region_draw (EO.regionS cls m alc sto Base Φ hf hq hml hds hB hmono hstep hsto hend a ha)
theorem YZ (w : World) : BaseOk w fun _ w1 => Below w.heap.size w w1 :=
 ⟨fun _ _ => ⟨rfl, rfl, rfl, Nat.le_refl _, fun _ _ => rfl⟩, fun _ _ _ h hb => h.trans (hb.mono h.size), fun _ _ h => h.size⟩
end
section
variable {P : Program} {n : Nat} {L : List Oper} {Q : Exit → Act → World → Prop} {cls : List (List Nat)} {m : Nat} {alc : List Nat} {w w1 : World} {Φ : Nat → (Nat → Bool) → (Nat → Value) → World → Prop} {i : Nat} {val : Nat → Value} {a : Act} {σ : Sg} {fl : Nat → Bool}
abbrev SK (fl : Nat → Bool) (L : List Oper) (cls : List (List Nat)) (alc : List Nat) (Φ : Nat → (Nat → Bool) → (Nat → Value) → World → Prop) (i : Nat) (val : Nat → Value) (a : Act) (w1 : World) : Act → World → Prop :=
 fun a' w' => ∃ v, a' = a.put (ZS L i) v ∧ Below w1.heap.size w1 w' ∧ Φ i fl (res (upd val i v) i (clsAt cls i)) w' ∧ (i ∈ alc → v = .pointer (some ⟨w1.heap.size, 0, none⟩) ∧ w1.heap.size < w'.heap.size)
theorem QJN {o : Oper} {v : Value} {w' : World} (ho : nthO L i = some o) (hg : o.guard = none) (hr : (execOp a.eval o).run P w1 = .ok (.value v) w') (hb : Below w1.heap.size w1 w') (hΦ : Φ i fl (res (upd val i v) i (clsAt cls i)) w') (halc : i ∈ alc → v = .pointer (some ⟨w1.heap.size, 0, none⟩) ∧ w1.heap.size < w'.heap.size) :
  wpOp P L.toArray Q i (SK fl L cls alc Φ i val a w1) a w1 := by
 obtain ⟨h1, h2⟩ := opL ho
 unfold wpOp
 simp only [h1]
 rw [if_pos (ZU hg _)]
 left
 unfold Oper.wp
 rw [hr]
 exact ⟨v, by rw [h2], hb, hΦ, halc⟩
/-- a value, the world as it was -/
theorem ZD {o : Oper} {v : Value} (ha : Env n σ a) (ho : nthO L i = some o) (hg : o.guard = none) (hr : ZI P n σ w1 o v) (hΦ : Φ i fl (res (upd val i v) i (clsAt cls i)) w1) (halc : memB alc i = false) : wpOp P L.toArray Q i (SK fl L cls alc Φ i val a w1) a w1 :=
 QJN ho hg (hr a ha) ⟨rfl, rfl, rfl, Nat.le_refl _, fun _ _ => rfl⟩ hΦ fun h => by rw [ZA.2 h] at halc; cases halc
theorem QJO {o : Oper} {cs : Array Value} {T : TypeId} {v : Nat → Value} (ho : nthO L i = some o) (hg : o.guard = none) (hr : ∀ a, Env n σ a → (execOp a.eval o).run P w1 = .ok (.value (v w1.heap.size)) (w1.alloc (.cells cs T))) (ha : Env n σ a)
  (hv : memB alc i = true → v = fun g => .pointer (some ⟨g, 0, none⟩)) (hΦ : ∀ g w', Blk w' g T cs → Below w1.heap.size w1 w' → w1.heap.size ≤ g → Φ i fl (res (upd val i (v g)) i (clsAt cls i)) w') : wpOp P L.toArray Q i (SK fl L cls alc Φ i val a w1) a w1 :=
 QJN ho hg (hr a ha) ((Below.refl _ _).alloc (Nat.le_refl _) _) (hΦ _ _ (Blk.new w1 T cs) ((Below.refl _ _).alloc (Nat.le_refl _) _) (Nat.le_refl _)) fun h => by rw [hv (ZA.2 h)]; exact ⟨rfl, by simp⟩
theorem YG {o : Oper} {cs : Array Value} {T : TypeId} (ha : Env n σ a) (ho : nthO L i = some o) (hg : o.guard = none) (hr : ∀ a, Env n σ a → (execOp a.eval o).run P w1 = .ok (.value (.pointer (some ⟨w1.heap.size, 0, none⟩))) (w1.alloc (.cells cs T)))
  (hΦ : ∀ g w', Blk w' g T cs → Below w1.heap.size w1 w' → w1.heap.size ≤ g → Φ i fl (res (upd val i (.pointer (some ⟨g, 0, none⟩))) i (clsAt cls i)) w') : wpOp P L.toArray Q i (SK fl L cls alc Φ i val a w1) a w1 :=
 QJO (v := fun g => .pointer (some ⟨g, 0, none⟩)) ho hg hr ha (fun _ => rfl) hΦ
theorem QCQ {o : Oper} {m c : Nat} {cs : Array Value} {T : TypeId} (ha : Env n σ a) (ho : nthO L i = some o) (hg : o.guard = none) (hr : ∀ a, Env n σ a → (execOp a.eval o).run P w1 = .ok (.value (.slice (some ⟨w1.heap.size, 0, none⟩) m c)) (w1.alloc (.cells cs T))) (halc : memB alc i = false)
  (hΦ : ∀ g w', Blk w' g T cs → Below w1.heap.size w1 w' → w1.heap.size ≤ g → Φ i fl (res (upd val i (.slice (some ⟨g, 0, none⟩) m c)) i (clsAt cls i)) w') : wpOp P L.toArray Q i (SK fl L cls alc Φ i val a w1) a w1 :=
 QJO (v := fun g => .slice (some ⟨g, 0, none⟩) m c) ho hg hr ha (fun h => by rw [halc] at h; cases h) hΦ
theorem Yb {o : Oper} {f : FuncId} {args : Array Value} {R : Ending → World → Prop} (ha : Env n σ a) (ho : nthO L i = some o) (hg : o.guard = none) (hr : ∀ a, Env n σ a → (execOp a.eval o).run P w1 = .ok (.enter f args) w1) (hc : Calls P f args w1 R)
  (halc : memB alc i = false) (hΦ : ∀ e w', R e w' → ∃ v, e = .returned v ∧ Below w1.heap.size w1 w' ∧ Φ i fl (res (upd val i v) i (clsAt cls i)) w') : wpOp P L.toArray Q i (SK fl L cls alc Φ i val a w1) a w1 := by
 obtain ⟨h1, h2⟩ := opL ho
 unfold wpOp
 simp only [h1]
 rw [if_pos (ZU hg _)]
 left
 unfold Oper.wp
 rw [hr a ha, Oper.upon_enter];refine hc.mono fun e w' he => ?_
 obtain ⟨v, rfl, hb, hp⟩ := hΦ e w' he
 exact ⟨v, by rw [h2], hb, hp, fun h => by rw [ZA.2 h] at halc; cases halc⟩
def phiS (V : Nat → (Nat → Value) → Prop) : List (Nat × ((Nat → Bool) → (Nat → Value) → World → Prop)) → Nat → (Nat → Bool) → (Nat → Value) → World → Prop
 | [], i, _, r, _ => V i r
 | p :: l, i, fl, r, w => match Nat.beq i p.1 with
  | true => p.2 fl r w
  | false => phiS V l i fl r w
def QFB (F : (Nat → Bool) → (Nat → Value) → World → Prop) : Prop := ∀ fl r w1 w2, Below w1.heap.size w1 w2 → F fl r w1 → F fl r w2
theorem Zd {V : Nat → (Nat → Value) → Prop} : ∀ i fl r w1 w2, Below w1.heap.size w1 w2 → phiS V [] i fl r w1 → phiS V [] i fl r w2 := fun _ _ _ _ _ _ h => h
theorem ZL {V : Nat → (Nat → Value) → Prop} {k : Nat} {F : (Nat → Bool) → (Nat → Value) → World → Prop} {l : List (Nat × ((Nat → Bool) → (Nat → Value) → World → Prop))} (hF : QFB F) (hl : ∀ i fl r w1 w2, Below w1.heap.size w1 w2 → phiS V l i fl r w1 → phiS V l i fl r w2) :
  ∀ i fl r w1 w2, Below w1.heap.size w1 w2 → phiS V ((k, F) :: l) i fl r w1 → phiS V ((k, F) :: l) i fl r w2 := by
 intro i fl r w1 w2 hb h
 unfold phiS at h ⊢
 cases e : Nat.beq i k with
 | true => simp only [e] at h ⊢; exact hF fl r w1 w2 hb h
 | false => simp only [e] at h ⊢; exact hl i fl r w1 w2 hb h
theorem ZF {V : Nat → (Nat → Value) → Prop} {s k : Nat} {w2 : World} {C : Nat → Prop} {F : (Nat → Bool) → (Nat → Value) → World → Prop} {l : List (Nat × ((Nat → Bool) → (Nat → Value) → World → Prop))} (hF : C k → F fl (res val k (clsAt cls k)) w1 → F (fset fl s) (res val k (clsAt cls k)) w2)
  (hl : ∀ j, C j → phiS V l j fl (res val j (clsAt cls j)) w1 → phiS V l j (fset fl s) (res val j (clsAt cls j)) w2) :
  ∀ j, C j → phiS V ((k, F) :: l) j fl (res val j (clsAt cls j)) w1 → phiS V ((k, F) :: l) j (fset fl s) (res val j (clsAt cls j)) w2 := by
 intro j hc h
 unfold phiS at h ⊢
 cases e : Nat.beq j k with
 | true =>
  have e' := Nat.eq_of_beq_eq_true e;subst e'
  simp only [e] at h ⊢
  exact hF hc h
 | false => simp only [e] at h ⊢; exact hl j hc h
/-- a block made here, till it is stored into -/
theorem Zi {T k s B : Nat} {cs : Array Value} : QFB fun fl r w => ∃ g, r k = .pointer (some ⟨g, 0, none⟩) ∧ B ≤ g ∧ (fl s = false → Blk w g T cs) := fun _ _ _ _ hb ⟨g, h1, h2, h3⟩ => ⟨g, h1, h2, fun h => (h3 h).below hb (h3 h).lt⟩
theorem Zh {T k : Nat} {cs : (Nat → Value) → Array Value} : QFB fun _ r w => ∃ g, r k = .pointer (some ⟨g, 0, none⟩) ∧ Blk w g T (cs r) := fun _ _ _ _ hb ⟨g, h1, h3⟩ => ⟨g, h1, h3.below hb h3.lt⟩
theorem QAN {T g : Nat} {cs : (Nat → Value) → Array Value} : QFB fun _ r w => Blk w g T (cs r) := fun _ _ _ _ hb h3 => h3.below hb h3.lt
theorem QAq {T e size base k : Nat} {xs : List Value} {C : Value → Prop} : QFB fun _ r w => w.ownsRow base T size (r e) k xs ∧ C (r e) := fun _ _ _ _ hb ⟨h1, h2⟩ => ⟨ZB h1 hb (Nat.le_refl _), h2⟩
/-- what is dropped once a store has come -/
theorem QAS {s : Nat} {F : (Nat → Value) → World → Prop} (h : Mono F) : QFB fun fl r w => fl s = false → F r w := fun _ r w1 w2 hb hf e => h r w1 w2 hb (hf e)
theorem ZR {s : Nat} : fset fl s s = true := by simp [fset]
theorem Z2 {s k : Nat} (h : Nat.beq k s = false) : fset fl s k = fl k := by simp [fset, h]
theorem YB {w w1 w2 : World} {g : Nat} (h : w.grownBy w1 (some g)) (k : w1.grownBy w2 (some g)) : w.grownBy w2 (some g) :=
 ⟨k.os.trans h.os, k.tape.trans h.tape, k.output.trans h.output, Nat.le_trans h.size k.size, fun i hi hne => (k.block i (Nat.lt_of_lt_of_le hi h.size) hne).trans (h.block i hi hne)⟩
theorem Yy {w : World} {g T s : Nat} {cs : Array Value} (hq : Blk w g T cs) : BaseOk w fun fl w1 => w.grownBy w1 (some g) ∧ (fl s = false → Blk w1 g T cs) :=
 ⟨fun _ _ => ⟨⟨rfl, rfl, rfl, Nat.le_refl _, fun _ _ _ => rfl⟩, fun _ => hq⟩, fun _ _ _ ⟨h1, h2⟩ hb => ⟨YX h1 hb, fun h => (h2 h).below hb (h2 h).lt⟩, fun _ _ h => h.1.size⟩
theorem QBc {w : World} {base e size k s : Nat} {v : Value} {xs : List Value} (ho : w.ownsRow base e size v k xs) : BaseOk w fun fl w1 => w.grownBy w1 v.ownBlock ∧ (fl s = false → w1.ownsRow base e size v k xs) :=
 ⟨fun _ _ => ⟨⟨rfl, rfl, rfl, Nat.le_refl _, fun _ _ _ => rfl⟩, fun _ => QBo ho 1⟩, fun _ _ _ ⟨h1, h2⟩ hb => ⟨YX h1 hb, fun h => ZB (h2 h) hb (Nat.le_refl _)⟩, fun _ _ h => h.1.size⟩
theorem Zm {w w1 w2 : World} {row : Option Nat} (h : w.grownBy w1 row) (k : w1.grownBy w2 row) : w.grownBy w2 row :=
 ⟨k.os.trans h.os, k.tape.trans h.tape, k.output.trans h.output, Nat.le_trans h.size k.size, fun i hi hne => (k.block i (Nat.lt_of_lt_of_le hi h.size) hne).trans (h.block i hi hne)⟩
theorem ZM {w w1 : World} {base e size k : Nat} {v : Value} {xs : List Value} (ho : w.ownsRow base e size v k xs) (h : w.grownBy w1 v.ownBlock) (hb : base ≤ w.heap.size) : Below base w w1 :=
 (Below.refl _ _).grown h hb fun g hg => (ho.lt g hg).1
/-- an append to one's own row, in a head -/
theorem QCM {d ty t e size bytes base B mm k : Nat} {s x : Operand} {pos : String} {af : Array Edge} (E : Elem P t e size bytes) {v src : Value} {xs news : List Value} {K : Act → World → Prop} (ha : Env n σ a) (ho : nthO L i = some ⟨some d, .call { callee := .builtin .append, args := #[s, x], argTypes := #[t, t] }, ty, pos, af, none⟩) (hs : evS σ s = some v) (hx : evS σ x = some src)
  (hown : w1.ownsRow base e size v k xs) (hr : Rd w1 B size src mm news) (h1 : ∀ u ∈ news, u.oneCell' = true) (hm : k + mm ≤ 1048576) (hby : Nat.ble bytes 1048576 = true) (hbase : base ≤ w1.heap.size)
  (next : ∀ v' w', w'.ownsRow base e size v' (k + mm) (xs ++ news) → w1.grownBy w' v.ownBlock → (v'.ownBlock = v.ownBlock ∨ v'.ownBlock = some w1.heap.size) → K (a.put (ZS L i) v') w') : wpOp P L.toArray Q i K a w1 := by
 obtain ⟨v', w', h2, h3, h4, _, h6⟩ := QCT (P := P) (ty := ty) E hown hr h1 hm (by simpa [Nat.ble_eq] using hby) hbase
 obtain ⟨h7, h8⟩ := opL ho
 unfold wpOp
 simp only [h7]
 rw [if_pos (ZU rfl _)]
 left
 unfold Oper.wp
 rw [YQ rfl (ha.eval hs) (ha.eval hx) h2];have := next v' w' h3 h4 h6;rw [h8] at this
 exact this
/-- a store, in a head -/
theorem ZY {ty t T g o k : Nat} {x y : Operand} {pos : String} {af : Array Edge} {l l' : List Value} {v : Value} {K : Act → World → Prop} (ha : Env n σ a) (ho : nthO L i = some ⟨none, .store t x y, ty, pos, af, none⟩) (hx : evS σ x = some (.pointer (some ⟨g, o, none⟩))) (hy : evS σ y = some v) (hb : Blk w1 g T l.toArray) (hs : (P.info? t).map (·.size) = some k) (hv : v.cells.toList = l') (hk : lenV l' = k) (hok : Nat.ble (o + k) (lenV l) = true) (h1 : QA_ l' = true)
  (next : ∀ w', Blk w' g T (spl l o l').toArray → w1.grownBy w' (some g) → K a w') : wpOp P L.toArray Q i K a w1 := by
 obtain ⟨h2, _⟩ := opL ho
 unfold wpOp
 simp only [h2]
 rw [if_pos (ZU rfl _)]
 left
 unfold Oper.wp
 have hr : (execOp a.eval ⟨none, .store t x y, ty, pos, af, none⟩).run P w1 = .ok .skip (w1.setRow g (spl l o l').toArray) := by
  simp only [execOp, ha.eval hx, ha.eval hy, Sem.run_bind, QBP hs hb hv hk hok h1, Result.andThen_ok]
  rfl
 rw [hr, Oper.upon_skip]
 exact next _ (QA5 hb) (Ys _ _ _)
end
section
variable {P : Program} {n g T : Nat} {cs : Array Value} {w w' : World} {Q : Exit → Act → World → Prop} {L rest : List Oper} {σ τ : Sg} {a : Act}
theorem Blk.bl (h : Blk w g T cs) (hb : Below w.heap.size w w') : Blk w' g T cs := h.below hb h.lt
theorem Blk.na {k : Nat} (h : Blk w g T cs) (hk : w.heap.size ≤ k) : g ≠ k := Nat.ne_of_lt (Nat.lt_of_lt_of_le h.lt hk)
theorem Blk.gr {k : Nat} (h : Blk w g T cs) (hg : w.grownBy w' (some k)) (hn : g ≠ k) : Blk w' g T cs := h.grown hg fun e => hn (Option.some.inj e)
theorem bo_ {a b c : World} (h : Below a.heap.size a b) (k : Below b.heap.size b c) : Below a.heap.size a c := Below.on h k h.size
theorem EL.mv {d ty : Nat} {x : Operand} {pos : String} {af : Array Edge} {v : Value} (h : evS σ x = some v) (hd : Nat.blt d n = true) (k : EL P n L Q rest (ins σ d v) w) : EL P n L Q (⟨some d, .move x, ty, pos, af, none⟩ :: rest) σ w := EL.val (x_move h) hd k
theorem EL.as {d ty : Nat} {x : Operand} {pos : String} {af : Array Edge} {v : Value} (h : evS σ x = some v) (hd : Nat.blt d n = true) (k : EL P n L Q rest (ins σ d v) w) : EL P n L Q (⟨some d, .assign x, ty, pos, af, none⟩ :: rest) σ w := EL.val (ZZ h) hd k
theorem Env.s0 {d : Nat} {v : Value} (h : Env n σ a) (hd : σ d = some v) : Env n (ins (fun _ => none) d v) a := h.sub (Sub.ins (Sub.nil _) hd)
theorem Env.s1 {d : Nat} {u v : Value} (h : Env n σ a) (hd : σ d = some u) (e : u = v) : Env n (ins (fun _ => none) d v) a := h.sub (Sub.ins (Sub.nil _) (ZQ hd e))
theorem Env.s2 {d e : Nat} {u v x y : Value} (h : Env n σ a) (hd : σ d = some u) (p : u = v) (he : σ e = some x) (q : x = y) : Env n (ins (ins (fun _ => none) e y) d v) a := h.sub (Sub.ins (Sub.ins (Sub.nil _) (ZQ he q)) (ZQ hd p))
theorem sp_ {σ0 : Sg} {ds : List Nat} {d : Nat} {v : Value} (hd : memB ds d = true) (h : Sub (del σ0 ds) τ) : Sub (del σ0 ds) (ins τ d v) := QJM hd h
theorem sd_ {σ0 : Sg} {ds ds2 : List Nat} (hd : QEW ds2 ds = true) (h : Sub (del σ0 ds) τ) : Sub (del σ0 ds) (del τ ds2) := QKp hd h
theorem sn_ {σ0 : Sg} (h : Sub σ0 τ) : Sub σ0 (insL τ []) := QFJ h
theorem EL.mg {d ty j t : Nat} {b : Bool} {x : Operand} {pos : String} {af : Array Edge} {v : Value} (hj : ZS L j = some t) (ht : σ t = some (.bool b)) (h : evS σ x = some v) (hd : Nat.blt d n = true) (k : EL P n L Q rest (ins σ d v) w) : EL P n L Q (⟨some d, .move x, ty, pos, af, some (j, b)⟩ :: rest) σ w := EL.valg hj ht (x_move h) hd k
theorem EL.pt {d ty : Nat} {x y z : Operand} {pos : String} {af : Array Edge} {v : Value} (hx : evS σ x = some (.bool true)) (hy : evS σ y = some v) (hd : Nat.blt d n = true) (k : EL P n L Q rest (ins σ d v) w) : EL P n L Q (⟨some d, .pick x y z, ty, pos, af, none⟩ :: rest) σ w := EL.val (YH hx hy) hd k
theorem EL.pf {d ty : Nat} {x y z : Operand} {pos : String} {af : Array Edge} {v : Value} (hx : evS σ x = some (.bool false)) (hy : evS σ z = some v) (hd : Nat.blt d n = true) (k : EL P n L Q rest (ins σ d v) w) : EL P n L Q (⟨some d, .pick x y z, ty, pos, af, none⟩ :: rest) σ w := EL.val (Zz hx hy) hd k
theorem EL.xt {d ty i : Nat} {x : Operand} {pos : String} {af : Array Edge} {vs : Array Value} {v : Value} (hx : evS σ x = some (.tuple vs)) (hi : vs[i]? = some v) (hd : Nat.blt d n = true) (k : EL P n L Q rest (ins σ d v) w) : EL P n L Q (⟨some d, .extract x i, ty, pos, af, none⟩ :: rest) σ w := EL.val (ZP hx hi) hd k
theorem EQ.mv {C : World → Prop} {Z : Act → Prop} {d ty : Nat} {x : Operand} {pos : String} {af : Array Edge} {v : Value} (h : evS σ x = some v) (hd : Nat.blt d n = true) (k : EQ P n L C Z rest (ins σ d v)) : EQ P n L C Z (⟨some d, .move x, ty, pos, af, none⟩ :: rest) σ := EQ.val (fun _ _ => x_move h) hd k
theorem EQ.mg {C : World → Prop} {Z : Act → Prop} {d ty j t : Nat} {b : Bool} {x : Operand} {pos : String} {af : Array Edge} {v : Value} (hj : ZS L j = some t) (ht : σ t = some (.bool b)) (h : evS σ x = some v) (hd : Nat.blt d n = true) (k : EQ P n L C Z rest (ins σ d v)) : EQ P n L C Z (⟨some d, .move x, ty, pos, af, some (j, b)⟩ :: rest) σ := EQ.valg hj ht (fun _ _ => x_move h) hd k
end
theorem EC.cutD {P : Program} {n : Nat} {Q : Exit → Act → World → Prop} {σ : Sg} {w : World} {x y : Code} {ι : Type} (ds : List Nat) (vs : ι → List (Nat × Value)) (I : ι → World → Prop)
  (h : EC P n x (Exit.then (fun a' w' => ∃ i, Env n (insL (del σ ds) (vs i)) a' ∧ I i w') Q) σ w)
  (k : ∀ i w', I i w' → EC P n y Q (insL (del σ ds) (vs i)) w') : EC P n (.seq x y) Q σ w := fun a ha =>
 wp_seq (wp_mono (h a ha) fun e a' w' hq => by
  cases e with
  | normal =>
   obtain ⟨i, h1, h2⟩ := hq
   exact k i w' h2 a' h1
  | _ => exact hq)
theorem EX.cutE {n : Nat} {Q : Exit → Act → World → Prop} {σ : Sg} {w : World} {ι : Type} {σ0 : Sg} {ds : List Nat} {vs : ι → List (Nat × Value)} {I : ι → World → Prop} (i : ι) (hv : QCH σ (vs i)) (hd : Sub (del σ0 ds) σ) (hI : I i w) : EX n (Exit.then (fun a' w' => ∃ i, Env n (insL (del σ0 ds) (vs i)) a' ∧ I i w') Q) .normal σ w :=
 fun _ ha => ⟨i, ha.sub (QAn hd hv), hI⟩
theorem QDV {l : List Value} {o : Nat} {vs : List Value} (h : o + vs.length ≤ l.length) : (spl l o vs).length = l.length := by
 rw [QB8 l o vs h]
 simp
 omega
theorem QF_ {l : List Value} {o N : Nat} {vs : List Value} (h : o + vs.length ≤ N) (hN : N ≤ l.length) : (spl l o vs).take N = spl (l.take N) o vs := by
 rw [QB8 l o vs (by omega), QB8 (l.take N) o vs (by rw [List.length_take]; omega)]
 apply List.ext_getElem?
 intro i
 simp only [List.getElem?_take, List.getElem?_append, List.getElem?_drop, List.length_append, List.length_take]
 by_cases h1 : i < N
 ·rw [if_pos h1]
  by_cases h2 : i < o
  ·rw [if_pos (by omega), if_pos (by omega), if_pos h2, if_pos (by omega), if_pos (by omega), if_pos h2, if_pos h1]
  ·by_cases h3 : i < o + vs.length
   ·rw [if_pos (by omega), if_neg (by omega), if_pos (by omega), if_neg (by omega)]
    congr 1
    omega
   ·rw [if_neg (by omega), if_neg (by omega), if_pos (by omega)]
    congr 1
    omega
 ·rw [if_neg h1, if_neg (by omega), if_neg (by omega)]
section
variable {P : Program} {n : Nat} {σ : Sg} {w : World} {Q : Exit → Act → World → Prop} {L : List Oper} {rest : List Oper}
theorem EL.newSg {d ty m c j t : Nat} {b : Bool} {op : Op} {pos : String} {af : Array Edge} {cs : Array Value} {T : TypeId} (hj : ZS L j = some t) (ht : σ t = some (.bool b)) (h : ∀ a, Env n σ a → (execOp a.eval ⟨some d, op, ty, pos, af, some (j, b)⟩).run P w = .ok (.value (.slice (some ⟨w.heap.size, 0, none⟩) m c)) (w.alloc (.cells cs T))) (hd : Nat.blt d n = true)
  (next : ∀ g w', Blk w' g T cs → Below w.heap.size w w' → w.heap.size ≤ g → w.heap.size < w'.heap.size → EL P n L Q rest (ins σ d (.slice (some ⟨g, 0, none⟩) m c)) w') : EL P n L Q (⟨some d, op, ty, pos, af, some (j, b)⟩ :: rest) σ w :=
 fun a ha => QA2 (by simp [Region.wanted, Y9 ha hj ht]) (h a ha) (next _ _ (Blk.new w T cs) ((Below.refl _ _).alloc (Nat.le_refl _) _) (Nat.le_refl _) (by simp) _ (ha.put hd _))
theorem EL.storeRow {ty t g o k base e size m cap : Nat} {x y : Operand} {pos : String} {af : Array Edge} {l' xs : List Value} {v : Value} (hx : evS σ x = some (.pointer (some ⟨g, o, none⟩))) (hy : evS σ y = some v) (hown : w.ownsRow base e size (.slice (some ⟨g, 0, none⟩) m cap) m xs) (hs : (P.info? t).map (·.size) = some k) (hv : v.cells.toList = l') (hk : lenV l' = k) (ho : o + k ≤ xs.length) (h1 : QA_ l' = true)
  (next : ∀ w', w'.ownsRow base e size (.slice (some ⟨g, 0, none⟩) m cap) m (spl xs o l') → w.grownBy w' (some g) → EL P n L Q rest σ w') : EL P n L Q (⟨none, .store t x y, ty, pos, af, none⟩ :: rest) σ w := by
 obtain ⟨hl, ⟨h, _⟩ | ⟨g', cap', cur, h, hb, hg, hc1, hc2, hc3, hc4⟩⟩ := hown
 ·cases h
 ·injection h with h _ h2
  injection h with h
  injection h with h _
  subst h;subst h2;have hlk : l'.length = k := by rw [← Yw]; exact hk
  have hle : m * size ≤ cur.toList.length := by rw [Array.length_toList, hc3]; exact Nat.mul_le_mul_right _ hc1
  have hq : Blk w g e cur.toList.toArray := hg;refine EL.store hx hy hq hs hv hk (by simp only [Nat.ble_eq, Yw]; omega) h1 fun w' hq' hgr => next w' ?_ hgr
  have hx2 : spl xs o l' = (spl cur.toList o l').take (m * size) := by rw [QF_ (by omega) hle, hc4]
  refine ⟨by rw [QDV (by omega)]; exact hl, .inr ⟨g, cap, _, rfl, hb, hq', hc1, hc2, ?_, ?_⟩⟩
  ·rw [List.size_toArray, QDV (by omega), Array.length_toList]; exact hc3
  ·rw [hx2]
end
section
variable {P : Program} {n : Nat} {L : List Oper} {Q : Exit → Act → World → Prop} {cls : List (List Nat)} {m : Nat} {alc : List Nat} {w w1 : World} {i : Nat} {val : Nat → Value} {a : Act} {σ : Sg} {fl : Nat → Bool}
/-- a store into a row of one's own, in a head -/
theorem QBI {ty t g o k base e size mm cap : Nat} {x y : Operand} {pos : String} {af : Array Edge} {l' xs : List Value} {v : Value} {K : Act → World → Prop} (ha : Env n σ a) (ho : nthO L i = some ⟨none, .store t x y, ty, pos, af, none⟩) (hx : evS σ x = some (.pointer (some ⟨g, o, none⟩))) (hy : evS σ y = some v) (hown : w1.ownsRow base e size (.slice (some ⟨g, 0, none⟩) mm cap) mm xs) (hs : (P.info? t).map (·.size) = some k) (hv : v.cells.toList = l') (hk : lenV l' = k) (hok : o + k ≤ xs.length) (h1 : QA_ l' = true)
  (next : ∀ w', w'.ownsRow base e size (.slice (some ⟨g, 0, none⟩) mm cap) mm (spl xs o l') → w1.grownBy w' (some g) → K a w') : wpOp P L.toArray Q i K a w1 := by
 obtain ⟨hl, ⟨h, _⟩ | ⟨g', cap', cur, h, hb, hg, hc1, hc2, hc3, hc4⟩⟩ := hown
 ·cases h
 ·injection h with h _ h2
  injection h with h
  injection h with h _
  subst h;subst h2;have hlk : l'.length = k := by rw [← Yw]; exact hk
  have hle : mm * size ≤ cur.toList.length := by rw [Array.length_toList, hc3]; exact Nat.mul_le_mul_right _ hc1
  have hq : Blk w1 g e cur.toList.toArray := hg;refine ZY ha ho hx hy hq hs hv hk (by simp only [Nat.ble_eq, Yw]; omega) h1 fun w' hq' hgr => next w' ?_ hgr
  have hx2 : spl xs o l' = (spl cur.toList o l').take (mm * size) := by rw [QF_ (by omega) hle, hc4]
  refine ⟨by rw [QDV (by omega)]; exact hl, .inr ⟨g, cap, _, rfl, hb, hq', hc1, hc2, ?_, ?_⟩⟩
  ·rw [List.size_toArray, QDV (by omega), Array.length_toList]; exact hc3
  ·rw [hx2]
end
section
variable {w w' : World} {base base' e size n g T : Nat} {v u : Value} {xs : List Value} {cs : Array Value}
theorem ZG (h : w.ownsRow base e size v n xs) (hq : Blk w g T cs) (hT : Nat.beq T e = false) (hg : w.grownBy w' (some g)) : w'.ownsRow base e size v n xs :=
 h.kept hg (by
  obtain ⟨_, ⟨rfl, _⟩ | ⟨k, cap, cur, rfl, _, hk, _⟩⟩ := h
  ·exact .inl rfl
  ·refine .inr fun h' => ?_
   have h1 : k = g := by simpa [Value.ownBlock] using h'
   subst h1
   unfold Blk at hq
   have h2 : some (Obj.cells cs T (0, 0)) = some (Obj.cells cur e (0, 0)) := hq.symm.trans hk
   injection h2 with h2
   injection h2 with _ h3
   exact Nat.ne_of_beq_eq_false hT h3)
end
theorem QK2 {w : World} {base e size n m c g : Nat} {xs : List Value} (h : w.ownsRow base e size (.slice (some ⟨g, 0, none⟩) n c) m xs) : ∃ cs, Blk w g e cs := by
 obtain ⟨_, ⟨h0, _⟩ | ⟨g', cap, cur, h1, _, hg, _⟩⟩ := h
 ·cases h0
 ·injection h1 with h1
  injection h1 with h1
  injection h1 with h1 _
  subst h1
  exact ⟨cur, hg⟩
theorem QDW {w : World} {base e size n m c g k T : Nat} {xs : List Value} {cs : Array Value} (h : w.ownsRow base e size (.slice (some ⟨g, 0, none⟩) n c) m xs) (hq : Blk w k T cs) (hT : Nat.beq T e = false) : k ≠ g := fun e1 => by
 subst e1;obtain ⟨ds, h1⟩ := QK2 h
 unfold Blk at hq h1
 rw [hq] at h1
 injection h1 with h1
 injection h1 with _ h3
 exact Nat.ne_of_beq_eq_false hT h3
theorem QIe {w : World} {base e size m c : Nat} {A : Option Addr} {xs : List Value} (h : w.ownsRow base e size (.slice A m c) m xs) (hm : 0 < m) : ∃ g, A = some ⟨g, 0, none⟩ := by
 obtain ⟨_, ⟨_, h0⟩ | ⟨g, _, _, h1, _⟩⟩ := h
 ·omega
 ·injection h1 with h1; exact ⟨g, h1⟩
theorem Zl {w w' : World} {base e e' size size' n n' base' : Nat} {v u : Value} {xs ys : List Value} (h : w.ownsRow base e size v n xs) (hu : w.ownsRow base' e' size' u n' ys) (hT : Nat.beq e' e = false) (hg : w.grownBy w' u.ownBlock) : w'.ownsRow base e size v n xs := by
 refine QIg h hg fun g h1 h2 => ?_
 obtain ⟨_, ⟨rfl, _⟩ | ⟨k, cap, cur, rfl, _, hk, _⟩⟩ := hu
 ·cases h1
 ·obtain ⟨_, ⟨rfl, _⟩ | ⟨k2, cap2, cur2, rfl, _, hk2, _⟩⟩ := h
  ·cases h2
  ·have e1 : k = g := by simpa [Value.ownBlock] using h1
   have e2 : k2 = g := by simpa [Value.ownBlock] using h2
   subst e1;subst e2;rw [hk] at hk2
   injection hk2 with hk2
   injection hk2 with _ h3
   exact Nat.ne_of_beq_eq_false hT h3
theorem ZK {w w' : World} {g T e' size' n' base' : Nat} {u : Value} {ys : List Value} {cs : Array Value} (h : Blk w g T cs) (hu : w.ownsRow base' e' size' u n' ys) (hT : Nat.beq e' T = false) (hg : w.grownBy w' u.ownBlock) : Blk w' g T cs := h.grown hg fun e => by
 obtain ⟨_, ⟨rfl, _⟩ | ⟨k, cap, cur, rfl, _, hk, _⟩⟩ := hu
 ·cases e
 ·have e1 : g = k := by simpa [Value.ownBlock] using e
  subst e1
  unfold Blk at h
  rw [hk] at h
  injection h with h
  injection h with _ h3
  exact Nat.ne_of_beq_eq_false hT h3
end Go.Proofs.Ytlbfnimilcnihaa
namespace Go.Proofs.Ytlbfnimilcnihaa
theorem Yi {α : Type} {f : α → List Value} {s : Nat} (hf : ∀ x, (f x).length = s) (l : List α) : (l.flatMap f).length = l.length * s := by
 induction l with
 | nil => simp
 | cons x l ih => simp [ih, hf, Nat.add_mul]; omega
theorem QBZ {α : Type} {f : α → List Value} {s : Nat} (hf : ∀ x, (f x).length = s) : ∀ (l : List α) (k : Nat) (hk : k < l.length) (j : Nat), j < s → (l.flatMap f)[k * s + j]? = (f l[k])[j]?
 | [], k, hk, _, _ => absurd hk (by simp)
 | x :: l, 0, _, j, hj => by
  rw [List.flatMap_cons, Nat.zero_mul, Nat.zero_add, List.getElem?_append_left (by rw [hf]; exact hj)]
  rfl
 | x :: l, k + 1, hk, j, hj => by
  rw [List.flatMap_cons, List.getElem?_append_right (by rw [hf, Nat.add_mul]; omega), hf, show (k + 1) * s + j - s = k * s + j by rw [Nat.add_mul]; omega]
  exact QBZ hf l k (by simpa using hk) j hj
theorem QEI {α : Type} {f : α → List Value} (hf : ∀ x, ∀ u ∈ f x, u.oneCell' = true) (l : List α) : ∀ u ∈ l.flatMap f, u.oneCell' = true := by
 intro u hu;obtain ⟨x, _, h⟩ := List.mem_flatMap.1 hu
 exact hf x u h
end Go.Proofs.Ytlbfnimilcnihaa
namespace Go.Proofs.Ytlbfnimilcnihaa
open Go Go.RowKit
structure Bd where
 lo : Int
 hi : Int
def bd0 : Bd := ⟨0, 0⟩
/-- a reach of a chain, and a lock of it -/
structure LR where
 vol : Int
 least : Int
 inf : Bd
def lr0 : LR := ⟨0, 0, bd0⟩
structure LT where
 fill : Int
 cyc : Bd
def lt0 : LT := ⟨0, bd0⟩
/-- a lock, and a tow at it -/
structure LK where
 length : Int
 cycle : Int
 turn : Int
 fill : Int
 save : Int
 high : Bool
structure TW where
 up : Bool
 arrive : Int
 length : Int
 weight : Int
 push : Int
def tw0 : TW := ⟨false, 0, 0, 0, 0⟩
structure SP where
 up : Bool
 tows : Int
def sp0 : SP := ⟨false, 0⟩
structure RN where
 start : Int
 stop : Int
def rn0 : RN := ⟨0, 0⟩
theorem Zg {α : Type} {l : List α} {d : α} {i : Nat} (hi : i < l.length) : l.getD i d = l[i] := by simp [List.getD, hi]
def bdB (b : Bd) (m : Int) : Bool := (inB 0 m b.lo && inB 0 m b.hi) && decide (b.lo ≤ b.hi)
theorem QFx {b : Bd} {m : Int} : bdB b m = true ↔ 0 ≤ b.lo ∧ b.lo ≤ b.hi ∧ b.hi ≤ m := by
 unfold bdB
 simp only [Bool.and_eq_true, Zy, decide_eq_true_eq]
 omega
def lkB (l : LK) : Bool := inB 1 500 l.length && (inB 1 500 l.cycle && (inB 0 500 l.turn && (inB 0 1000000 l.fill && inB 0 90 l.save)))
def twB (l : LK) (t : TW) : Bool := inB 0 100000 t.arrive && (inB 1 (3 * l.length) t.length && (inB 0 100 t.weight && inB 0 100000 t.push))
def towE (l : LK) (ts : List TW) : Int := if lkB l = true then (if 8 < ts.length then 5 else if ts.all (twB l) = true then 0 else 2) else 2
def lrB (x : LR) : Bool := (inB 0 1000000000000 x.vol && inB 0 1000000000000 x.least) && bdB x.inf 1000000000000
def ltB (k : LT) : Bool := inB 0 1000000 k.fill && bdB k.cyc 100
def chE (x : List LR) (y : List LT) (days : Int) : Int :=
 if 10 < x.length then 5 else if x.length = 0 ∨ y.length + 1 ≠ x.length then 4 else if x.all lrB = true then (if y.all ltB = true then (if inB 0 60 days = true then 0 else 3) else 2) else 2
/-! ### Volumes -/
def movT (k : LT) : Bd := ⟨k.fill * k.cyc.lo, k.fill * k.cyc.hi⟩
def plusB (a b : Bd) : Bd := ⟨a.lo + b.lo, a.hi + b.hi⟩
def oppB (b : Bd) : Bd := ⟨-b.hi, -b.lo⟩
/-- what the locks have done to reach i when the first j of them were looked at -/
def lkD (y : List LT) (j i : Nat) : Bd := plusB (if i < j then oppB (movT (y.getD i lt0)) else bd0) (if 0 < i ∧ i ≤ j then movT (y.getD (i - 1) lt0) else bd0)
/-- the volume of reach i after d days -/
def volD (x : List LR) (y : List LT) (i d : Nat) : Bd :=
 ⟨(x.getD i lr0).vol + d * ((x.getD i lr0).inf.lo + (lkD y y.length i).lo), (x.getD i lr0).vol + d * ((x.getD i lr0).inf.hi + (lkD y y.length i).hi)⟩
theorem QEk (x : List LR) (y : List LT) (i : Nat) : volD x y i 0 = ⟨(x.getD i lr0).vol, (x.getD i lr0).vol⟩ := by simp [volD]
theorem QEl (x : List LR) (y : List LT) (i d : Nat) : volD x y i (d + 1) = plusB (plusB (volD x y i d) (x.getD i lr0).inf) (lkD y y.length i) := by
 unfold volD plusB
 simp only
 have e : ∀ a b c : Int, a + ((d + 1 : Nat) : Int) * (b + c) = a + (d : Int) * (b + c) + b + c := fun a b c => by
  rw [Int.natCast_add, Int.add_mul]
  omega
 rw [e, e]
theorem QJw (y : List LT) (i : Nat) : lkD y 0 i = bd0 := by
 unfold lkD
 rw [if_neg (by omega), if_neg (by omega)]
 rfl
/-- one lock more -/
theorem QEC (y : List LT) (j i : Nat) : lkD y (j + 1) i = if i = j then plusB (lkD y j i) (oppB (movT (y.getD j lt0))) else if i = j + 1 then plusB (lkD y j i) (movT (y.getD j lt0)) else lkD y j i := by
 unfold lkD
 by_cases h1 : i = j
 ·subst h1
  rw [if_pos (Nat.lt_succ_self i), if_pos rfl, if_neg (Nat.lt_irrefl i)]
  by_cases h2 : 0 < i
  ·rw [if_pos ⟨h2, by omega⟩, if_pos ⟨h2, Nat.le_refl i⟩]
   simp only [plusB, bd0, Bd.mk.injEq]
   omega
  ·rw [if_neg (fun h => h2 h.1), if_neg (fun h => h2 h.1)]
   simp only [plusB, bd0, Bd.mk.injEq]
   omega
 ·rw [if_neg h1]
  by_cases h2 : i = j + 1
  ·subst h2
   have a1 : ¬j + 1 < j + 1 := Nat.lt_irrefl _;have a2 : 0 < j + 1 ∧ j + 1 ≤ j + 1 := ⟨by omega, Nat.le_refl _⟩
   have a3 : ¬j + 1 < j := by omega
   have a4 : ¬(0 < j + 1 ∧ j + 1 ≤ j) := by omega
   rw [if_neg a1, if_pos a2, if_pos rfl, if_neg a3, if_neg a4, show j + 1 - 1 = j by omega]
   simp only [plusB, bd0, Bd.mk.injEq]
   omega
  ·rw [if_neg h2]
   by_cases h3 : i < j
   ·rw [if_pos (by omega), if_pos h3]
    by_cases h4 : 0 < i
    ·rw [if_pos ⟨h4, by omega⟩, if_pos ⟨h4, by omega⟩]
    ·rw [if_neg (fun h => h4 h.1), if_neg (fun h => h4 h.1)]
   ·rw [if_neg (by omega), if_neg h3, if_neg (by omega), if_neg (by omega)]
/-- the first day and reach with too little water, among the first n days and the first k reaches of the next one -/
def Y6 (x : List LR) (y : List LT) (d i : Nat) : Bool := decide ((volD x y i d).lo < (x.getD i lr0).least)
def Yj (x : List LR) (y : List LT) (d k : Nat) : Prop := (∀ e i, 1 ≤ e → e ≤ d → i < x.length → Y6 x y e i = false) ∧ ∀ i, i < k → Y6 x y (d + 1) i = false
/-! ### How they are read -/
def bdC (x : Bd) : List Value := [.int .i64 x.lo, .int .i64 x.hi]
def bdsC (l : List Bd) : List Value := l.flatMap bdC
def lrC (x : LR) : List Value := [.int .i64 x.vol, .int .i64 x.least, .int .i64 x.inf.lo, .int .i64 x.inf.hi]
def lrsC (l : List LR) : List Value := l.flatMap lrC
def ltC (x : LT) : List Value := [.int .i64 x.fill, .int .i64 x.cyc.lo, .int .i64 x.cyc.hi]
def ltsC (l : List LT) : List Value := l.flatMap ltC
def twC (x : TW) : List Value := [.bool x.up, .int .i64 x.arrive, .int .i64 x.length, .int .i64 x.weight, .int .i64 x.push]
def twsC (l : List TW) : List Value := l.flatMap twC
def spC (x : SP) : List Value := [.bool x.up, .int .i64 x.tows]
def spsC (l : List SP) : List Value := l.flatMap spC
def rnC (x : RN) : List Value := [.int .i64 x.start, .int .i64 x.stop]
def rnsC (l : List RN) : List Value := l.flatMap rnC
theorem QBw (x : Bd) : (bdC x).length = 2 := rfl
theorem QLH (x : LR) : (lrC x).length = 4 := rfl
theorem QLE (x : LT) : (ltC x).length = 3 := rfl
theorem QBg (x : TW) : (twC x).length = 5 := rfl
theorem QKr (x : SP) : (spC x).length = 2 := rfl
theorem QKY (l : List Bd) : ∀ u ∈ bdsC l, u.oneCell' = true := QEI (by intro x u hu; simp [bdC] at hu; rcases hu with rfl | rfl <;> rfl) l
theorem lrsC_one (l : List LR) : ∀ u ∈ lrsC l, u.oneCell' = true := QEI (by intro x u hu; simp [lrC] at hu; rcases hu with rfl | rfl | rfl | rfl <;> rfl) l
theorem ltsC_one (l : List LT) : ∀ u ∈ ltsC l, u.oneCell' = true := QEI (by intro x u hu; simp [ltC] at hu; rcases hu with rfl | rfl | rfl <;> rfl) l
/-- the cells of one element of a list that is read -/
theorem elem_cells {α : Type} {f : α → List Value} {z : Nat} (hz : ∀ x, (f x).length = z) (h0 : 0 < z) (l : List α) (d : α) {k : Nat} (hk : k < l.length) {w : World} {B : Nat} {A : Option Addr} {n c : Nat} (hr : Rd w B z (.slice A n c) n (l.flatMap f)) :
  ∃ b off, A = some ⟨b, off, none⟩ ∧ b < B ∧ ∀ j u, (f (l.getD k d))[j]? = some u → w.cell? ⟨b, off + k * z + j, none⟩ = some u := by
 have hl : n * z = l.length * z := by rw [← hr.len, Yi hz l]
 have hn : n = l.length := Nat.eq_of_mul_eq_mul_right h0 hl;obtain ⟨b, off, rfl, hb, hc⟩ := hr.at_ (by omega)
 refine ⟨b, off, rfl, hb, fun j u hu => ?_⟩
 rw [Zg hk] at hu;have hj : j < z := by
  have := (List.getElem?_eq_some_iff.1 hu).1;rw [hz] at this
  exact this
 have g := QBZ hz l k hk j hj;rw [hu] at g;have := hc (k * z + j) u g;rw [← Nat.add_assoc] at this
 exact this
structure LRAt (w : World) (b o : Nat) (s : LR) : Prop where
 c0 : w.cell? ⟨b, o, none⟩ = some (.int .i64 s.vol)
 c1 : w.cell? ⟨b, o + 1, none⟩ = some (.int .i64 s.least)
 c2 : w.cell? ⟨b, o + 2, none⟩ = some (.int .i64 s.inf.lo)
 c3 : w.cell? ⟨b, o + 3, none⟩ = some (.int .i64 s.inf.hi)
theorem Yp (l : List LR) (k : Nat) (hk : k < l.length) (w : World) (B : Nat) (A : Option Addr) (n c : Nat) (hr : Rd w B 4 (.slice A n c) n (lrsC l)) :
  ∃ b off, A = some ⟨b, off, none⟩ ∧ b < B ∧ LRAt w b (off + k * 4) (l.getD k lr0) := by
 obtain ⟨b, off, h1, h2, h3⟩ := elem_cells QLH (by omega) l lr0 hk hr
 exact ⟨b, off, h1, h2, h3 0 _ rfl, h3 1 _ rfl, h3 2 _ rfl, h3 3 _ rfl⟩
structure LTAt (w : World) (b o : Nat) (s : LT) : Prop where
 c0 : w.cell? ⟨b, o, none⟩ = some (.int .i64 s.fill)
 c1 : w.cell? ⟨b, o + 1, none⟩ = some (.int .i64 s.cyc.lo)
 c2 : w.cell? ⟨b, o + 2, none⟩ = some (.int .i64 s.cyc.hi)
theorem QAO (l : List LT) (k : Nat) (hk : k < l.length) (w : World) (B : Nat) (A : Option Addr) (n c : Nat) (hr : Rd w B 3 (.slice A n c) n (ltsC l)) :
  ∃ b off, A = some ⟨b, off, none⟩ ∧ b < B ∧ LTAt w b (off + k * 3) (l.getD k lt0) := by
 obtain ⟨b, off, h1, h2, h3⟩ := elem_cells QLE (by omega) l lt0 hk hr
 exact ⟨b, off, h1, h2, h3 0 _ rfl, h3 1 _ rfl, h3 2 _ rfl⟩
structure TWAt (w : World) (b o : Nat) (s : TW) : Prop where
 c0 : w.cell? ⟨b, o, none⟩ = some (.bool s.up)
 c1 : w.cell? ⟨b, o + 1, none⟩ = some (.int .i64 s.arrive)
 c2 : w.cell? ⟨b, o + 2, none⟩ = some (.int .i64 s.length)
 c3 : w.cell? ⟨b, o + 3, none⟩ = some (.int .i64 s.weight)
 c4 : w.cell? ⟨b, o + 4, none⟩ = some (.int .i64 s.push)
theorem Ya (l : List TW) (k : Nat) (hk : k < l.length) (w : World) (B : Nat) (A : Option Addr) (n c : Nat) (hr : Rd w B 5 (.slice A n c) n (twsC l)) :
  ∃ b off, A = some ⟨b, off, none⟩ ∧ b < B ∧ TWAt w b (off + k * 5) (l.getD k tw0) := by
 obtain ⟨b, off, h1, h2, h3⟩ := elem_cells QBg (by omega) l tw0 hk hr
 exact ⟨b, off, h1, h2, h3 0 _ rfl, h3 1 _ rfl, h3 2 _ rfl, h3 3 _ rfl, h3 4 _ rfl⟩
theorem QAl (l : List TW) : (twsC l).length = l.length * 5 := Yi QBg l
structure SPAt (w : World) (b o : Nat) (s : SP) : Prop where
 c0 : w.cell? ⟨b, o, none⟩ = some (.bool s.up)
 c1 : w.cell? ⟨b, o + 1, none⟩ = some (.int .i64 s.tows)
theorem QBl (l : List SP) (k : Nat) (hk : k < l.length) (w : World) (B : Nat) (A : Option Addr) (n c : Nat) (hr : Rd w B 2 (.slice A n c) n (spsC l)) :
  ∃ b off, A = some ⟨b, off, none⟩ ∧ b < B ∧ SPAt w b (off + k * 2) (l.getD k sp0) := by
 obtain ⟨b, off, h1, h2, h3⟩ := elem_cells QKr (by omega) l sp0 hk hr
 exact ⟨b, off, h1, h2, h3 0 _ rfl, h3 1 _ rfl⟩
structure RNAt (w : World) (b o : Nat) (s : RN) : Prop where
 c0 : w.cell? ⟨b, o, none⟩ = some (.int .i64 s.start)
 c1 : w.cell? ⟨b, o + 1, none⟩ = some (.int .i64 s.stop)
structure BdAt (w : World) (b o : Nat) (s : Bd) : Prop where
 c0 : w.cell? ⟨b, o, none⟩ = some (.int .i64 s.lo)
 c1 : w.cell? ⟨b, o + 1, none⟩ = some (.int .i64 s.hi)
theorem YL (l : List Bd) (k : Nat) (hk : k < l.length) (w : World) (B : Nat) (A : Option Addr) (n c : Nat) (hr : Rd w B 2 (.slice A n c) n (bdsC l)) :
  ∃ b off, A = some ⟨b, off, none⟩ ∧ b < B ∧ BdAt w b (off + k * 2) (l.getD k bd0) := by
 obtain ⟨b, off, h1, h2, h3⟩ := elem_cells QBw (by omega) l bd0 hk hr
 exact ⟨b, off, h1, h2, h3 0 _ rfl, h3 1 _ rfl⟩
theorem QCw (l : List Bd) : (bdsC l).length = l.length * 2 := Yi QBw l
theorem YO (l : List Int) (k : Nat) (hk : k < l.length) (w : World) (B : Nat) (A : Option Addr) (n c : Nat) (hr : Rd w B 1 (.slice A n c) n (ints l)) :
  ∃ b off, A = some ⟨b, off, none⟩ ∧ b < B ∧ w.cell? ⟨b, off + k, none⟩ = some (.int .i64 (l.getD k 0)) := by
 have hl : n * 1 = l.length := by rw [← hr.len, ints_len]
 obtain ⟨b, off, rfl, hb, hc⟩ := hr.at_ (by omega)
 have e : l.getD k 0 = l[k] := by simp [hk]
 rw [e]
 exact ⟨b, off, rfl, hb, hc k _ (by simp [ints, hk])⟩
theorem Zo {α : Type} {l : List α} {i : Nat} (h : i < l.length) (d : α) : l.getD i d ∈ l := by rw [Zg h]; exact List.getElem_mem h
section
variable {n : Nat} {σ : Sg} {w : World} {dst : Option Tmp} {ty : TypeId} {pos : String} {af : Array Edge} {g : Option (Nat × Bool)} {x y z : Operand} {at' : Array TypeId}
theorem QJu {A : Option Addr} {m c : Nat} (hx : evS σ x = some (.slice A m c)) : ZI Try.prog n σ w ⟨dst, .call { callee := .builtin .len, args := #[x], argTypes := #[101] }, ty, pos, af, g⟩ (.int .i64 (m : Int)) := fun a ha => by
 simp only [execOp, resolve, List.map_toArray, List.map_cons, List.map_nil, ha.eval hx]
 simp [go_sem]
theorem Y4 {b o m c k : Nat} (hx : evS σ x = some (.slice (some ⟨b, o, none⟩) m c)) (hy : evS σ y = some (.int .i64 (k : Int))) (hk : k < m) : ZI Try.prog n σ w ⟨dst, .indexAddr 101 x y, ty, pos, af, g⟩ (.pointer (some ⟨b, o + k, none⟩)) := fun a ha => by
 have k0 : (0 : Int) ≤ (k : Int) := Int.natCast_nonneg _;have k1 : (k : Int) < (m : Int) := by omega
 simp only [execOp, ha.eval hx, ha.eval hy]
 simp [go_sem, k0, k1]
theorem ld_3 {b o : Nat} {v0 : Value} (hx : evS σ x = some (.pointer (some ⟨b, o, none⟩))) (c0 : w.cell? ⟨b, o, none⟩ = some v0) : ZI Try.prog n σ w ⟨dst, .load 3 x, ty, pos, af, g⟩ (v0) := fun a ha => by
 simp only [execOp, ha.eval hx]
 simp [go_sem, c0]
theorem QFr {xf x0 : Operand} {v0 p0 p1 : Value} (hf : evS σ xf = some (.func (.func 54) #[] #[p0, p1])) (h0 : evS σ x0 = some v0) (a : Act) (ha : Env n σ a) : (execOp a.eval ⟨dst, .call { callee := .value xf, args := #[x0], argTypes := at' }, ty, pos, af, g⟩).run Try.prog w = .ok (.enter 54 #[v0, p0, p1]) w := by
 simp only [execOp, resolve, List.map_toArray, List.map_cons, List.map_nil, ha.eval hf, ha.eval h0]
 simp [go_sem, Deferred.ofValue]
def cF (F : FuncId) : Prop := ∀ vs w, (callFunc F vs).run Try.prog w = .ok (.enter F vs) w
theorem cA2 {F : FuncId} (hF : cF F) {x0 x1 : Operand} {v0 v1 : Value} (h0 : evS σ x0 = some v0) (h1 : evS σ x1 = some v1) (a : Act) (ha : Env n σ a) : (execOp a.eval ⟨dst, .call { callee := .value (.func F), args := #[x0, x1], argTypes := at' }, ty, pos, af, g⟩).run Try.prog w = .ok (.enter F #[v0, v1]) w := by
 simp only [execOp, resolve, List.map_toArray, List.map_cons, List.map_nil, ha.eval h0, ha.eval h1]
 simp [go_sem, Act.eval, hF _ _]
theorem cF72 : cF 72 := fun _ _ => by simp [go_sem]
theorem Yg {A : Option Addr} {m c : Nat} (hx : evS σ x = some (.slice A m c)) : ZI Try.prog n σ w ⟨dst, .call { callee := .builtin .len, args := #[x], argTypes := #[24] }, ty, pos, af, g⟩ (.int .i64 (m : Int)) := fun a ha => by
 simp only [execOp, resolve, List.map_toArray, List.map_cons, List.map_nil, ha.eval hx]
 simp [go_sem]
theorem QAv {b o m c k : Nat} (hx : evS σ x = some (.slice (some ⟨b, o, none⟩) m c)) (hy : evS σ y = some (.int .i64 (k : Int))) (hk : k < m) : ZI Try.prog n σ w ⟨dst, .indexAddr 24 x y, ty, pos, af, g⟩ (.pointer (some ⟨b, o + k * 5, none⟩)) := fun a ha => by
 have k0 : (0 : Int) ≤ (k : Int) := Int.natCast_nonneg _;have k1 : (k : Int) < (m : Int) := by omega
 simp only [execOp, ha.eval hx, ha.eval hy]
 simp [go_sem, k0, k1]
theorem QAt {b o : Nat} {v0 v1 v2 v3 v4 : Value} (hx : evS σ x = some (.pointer (some ⟨b, o, none⟩))) (c0 : w.cell? ⟨b, o, none⟩ = some v0) (c1 : w.cell? ⟨b, o + 1, none⟩ = some v1) (c2 : w.cell? ⟨b, o + 2, none⟩ = some v2) (c3 : w.cell? ⟨b, o + 3, none⟩ = some v3) (c4 : w.cell? ⟨b, o + 4, none⟩ = some v4) : ZI Try.prog n σ w ⟨dst, .load 39 x, ty, pos, af, g⟩ (.agg #[v0, v1, v2, v3, v4]) := fun a ha => by
 simp only [execOp, ha.eval hx]
 simp [go_sem, c0, c1, c2, c3, c4]
theorem QFq {xf x0 : Operand} {v0 p0 : Value} (hf : evS σ xf = some (.func (.func 59) #[] #[p0])) (h0 : evS σ x0 = some v0) (a : Act) (ha : Env n σ a) : (execOp a.eval ⟨dst, .call { callee := .value xf, args := #[x0], argTypes := at' }, ty, pos, af, g⟩).run Try.prog w = .ok (.enter 59 #[v0, p0]) w := by
 simp only [execOp, resolve, List.map_toArray, List.map_cons, List.map_nil, ha.eval hf, ha.eval h0]
 simp [go_sem, Deferred.ofValue]
theorem cF79 : cF 79 := fun _ _ => by simp [go_sem]
theorem QAB {A : Option Addr} {m c : Nat} (hx : evS σ x = some (.slice A m c)) : ZI Try.prog n σ w ⟨dst, .call { callee := .builtin .len, args := #[x], argTypes := #[59] }, ty, pos, af, g⟩ (.int .i64 (m : Int)) := fun a ha => by
 simp only [execOp, resolve, List.map_toArray, List.map_cons, List.map_nil, ha.eval hx]
 simp [go_sem]
theorem QB3 {b o m c k : Nat} (hx : evS σ x = some (.slice (some ⟨b, o, none⟩) m c)) (hy : evS σ y = some (.int .i64 (k : Int))) (hk : k < m) : ZI Try.prog n σ w ⟨dst, .indexAddr 59 x y, ty, pos, af, g⟩ (.pointer (some ⟨b, o + k * 4, none⟩)) := fun a ha => by
 have k0 : (0 : Int) ≤ (k : Int) := Int.natCast_nonneg _;have k1 : (k : Int) < (m : Int) := by omega
 simp only [execOp, ha.eval hx, ha.eval hy]
 simp [go_sem, k0, k1]
theorem QJ0 {b o : Nat} {v0 v1 v2 v3 : Value} (hx : evS σ x = some (.pointer (some ⟨b, o, none⟩))) (c0 : w.cell? ⟨b, o, none⟩ = some v0) (c1 : w.cell? ⟨b, o + 1, none⟩ = some v1) (c2 : w.cell? ⟨b, o + 2, none⟩ = some v2) (c3 : w.cell? ⟨b, o + 3, none⟩ = some v3) : ZI Try.prog n σ w ⟨dst, .load 69 x, ty, pos, af, g⟩ (.agg #[v0, v1, v2, v3]) := fun a ha => by
 simp only [execOp, ha.eval hx]
 simp [go_sem, c0, c1, c2, c3]
theorem QFp {xf x0 : Operand} {v0 : Value} (hf : evS σ xf = some (.func (.func 68) #[] #[])) (h0 : evS σ x0 = some v0) (a : Act) (ha : Env n σ a) : (execOp a.eval ⟨dst, .call { callee := .value xf, args := #[x0], argTypes := at' }, ty, pos, af, g⟩).run Try.prog w = .ok (.enter 68 #[v0]) w := by
 simp only [execOp, resolve, List.map_toArray, List.map_cons, List.map_nil, ha.eval hf, ha.eval h0]
 simp [go_sem, Deferred.ofValue]
theorem cF84 : cF 84 := fun _ _ => by simp [go_sem]
theorem QGa {A : Option Addr} {m c : Nat} (hx : evS σ x = some (.slice A m c)) : ZI Try.prog n σ w ⟨dst, .call { callee := .builtin .len, args := #[x], argTypes := #[60] }, ty, pos, af, g⟩ (.int .i64 (m : Int)) := fun a ha => by
 simp only [execOp, resolve, List.map_toArray, List.map_cons, List.map_nil, ha.eval hx]
 simp [go_sem]
theorem QH3 {b o m c k : Nat} (hx : evS σ x = some (.slice (some ⟨b, o, none⟩) m c)) (hy : evS σ y = some (.int .i64 (k : Int))) (hk : k < m) : ZI Try.prog n σ w ⟨dst, .indexAddr 60 x y, ty, pos, af, g⟩ (.pointer (some ⟨b, o + k * 3, none⟩)) := fun a ha => by
 have k0 : (0 : Int) ≤ (k : Int) := Int.natCast_nonneg _;have k1 : (k : Int) < (m : Int) := by omega
 simp only [execOp, ha.eval hx, ha.eval hy]
 simp [go_sem, k0, k1]
theorem QH2 {b o : Nat} {v0 v1 v2 : Value} (hx : evS σ x = some (.pointer (some ⟨b, o, none⟩))) (c0 : w.cell? ⟨b, o, none⟩ = some v0) (c1 : w.cell? ⟨b, o + 1, none⟩ = some v1) (c2 : w.cell? ⟨b, o + 2, none⟩ = some v2) : ZI Try.prog n σ w ⟨dst, .load 71 x, ty, pos, af, g⟩ (.agg #[v0, v1, v2]) := fun a ha => by
 simp only [execOp, ha.eval hx]
 simp [go_sem, c0, c1, c2]
theorem QFo {xf x0 : Operand} {v0 : Value} (hf : evS σ xf = some (.func (.func 71) #[] #[])) (h0 : evS σ x0 = some v0) (a : Act) (ha : Env n σ a) : (execOp a.eval ⟨dst, .call { callee := .value xf, args := #[x0], argTypes := at' }, ty, pos, af, g⟩).run Try.prog w = .ok (.enter 71 #[v0]) w := by
 simp only [execOp, resolve, List.map_toArray, List.map_cons, List.map_nil, ha.eval hf, ha.eval h0]
 simp [go_sem, Deferred.ofValue]
theorem cF85 : cF 85 := fun _ _ => by simp [go_sem]
theorem bx_3 {v0 : Value} (hx : evS σ x = some (v0)) (h1 : v0.oneCell' = true) (a : Act) (ha : Env n σ a) : (execOp a.eval ⟨dst, .box 3 x, ty, pos, af, g⟩).run Try.prog w = .ok (.value (.pointer (some ⟨w.heap.size, 0, none⟩))) (w.alloc (.cells #[v0] 3)) := by
 simp only [execOp, ha.eval hx]
 cases v0 <;> first | (simp [Value.oneCell'] at h1; done) | simp [go_sem, Value.cells]
theorem QIl {x0 x1 : Operand} {v0 v1 : Value} (h0 : evS σ x0 = some v0) (h1 : evS σ x1 = some v1) : ZI Try.prog n σ w ⟨dst, .makeFunc (.func 54) #[] #[x0, x1], ty, pos, af, g⟩ (.func (.func 54) #[] #[v0, v1]) := fun a ha => by
 simp only [execOp, List.map_toArray, List.map_cons, List.map_nil, ha.eval h0, ha.eval h1]
 simp [go_sem]
theorem cF53 : cF 53 := fun _ _ => by simp [go_sem]
theorem QGo {v0 v1 : Value} (hx : evS σ x = some (.agg #[v0, v1])) (a : Act) (ha : Env n σ a) : (execOp a.eval ⟨dst, .box 67 x, ty, pos, af, g⟩).run Try.prog w = .ok (.value (.pointer (some ⟨w.heap.size, 0, none⟩))) (w.alloc (.cells #[v0, v1] 67)) := by
 simp only [execOp, ha.eval hx]
 simp [go_sem]
theorem YE {b o : Nat} (hx : evS σ x = some (.pointer (some ⟨b, o, none⟩))) : ZI Try.prog n σ w ⟨dst, .fieldAddr 67 x 0, ty, pos, af, g⟩ (.pointer (some ⟨b, o, none⟩)) := fun a ha => by
 simp only [execOp, ha.eval hx]
 simp [go_sem]
theorem YP {b o : Nat} (hx : evS σ x = some (.pointer (some ⟨b, o, none⟩))) : ZI Try.prog n σ w ⟨dst, .fieldAddr 67 x 1, ty, pos, af, g⟩ (.pointer (some ⟨b, o + 1, none⟩)) := fun a ha => by
 simp only [execOp, ha.eval hx]
 simp [go_sem]
theorem QEQ {x0 x1 : Operand} {z0_0 z1_0 : Int} (h0 : evS σ x0 = some (.int .i64 z0_0)) (h1 : evS σ x1 = some (.int .i64 z1_0)) (a : Act) (ha : Env n σ a) : (execOp a.eval ⟨dst, .buildSlice 101 2 #[(0, x0), (1, x1)], ty, pos, af, g⟩).run Try.prog w = .ok (.value (.slice (some ⟨w.heap.size, 0, none⟩) 2 2)) (w.alloc (.cells #[.int .i64 z0_0, .int .i64 z1_0] 3)) := by
 simp only [execOp, List.map_toArray, List.map_cons, List.map_nil, ha.eval h0, ha.eval h1]
 go_simp
theorem cA3 {F : FuncId} (hF : cF F) {x0 x1 x2 : Operand} {v0 v1 v2 : Value} (h0 : evS σ x0 = some v0) (h1 : evS σ x1 = some v1) (h2 : evS σ x2 = some v2) (a : Act) (ha : Env n σ a) : (execOp a.eval ⟨dst, .call { callee := .value (.func F), args := #[x0, x1, x2], argTypes := at' }, ty, pos, af, g⟩).run Try.prog w = .ok (.enter F #[v0, v1, v2]) w := by
 simp only [execOp, resolve, List.map_toArray, List.map_cons, List.map_nil, ha.eval h0, ha.eval h1, ha.eval h2]
 simp [go_sem, Act.eval, hF _ _]
theorem cF39 : cF 39 := fun _ _ => by simp [go_sem]
theorem QNL {v0 v1 v2 v3 : Value} (hx : evS σ x = some (.agg #[v0, v1, v2, v3])) (a : Act) (ha : Env n σ a) : (execOp a.eval ⟨dst, .box 69 x, ty, pos, af, g⟩).run Try.prog w = .ok (.value (.pointer (some ⟨w.heap.size, 0, none⟩))) (w.alloc (.cells #[v0, v1, v2, v3] 69)) := by
 simp only [execOp, ha.eval hx]
 simp [go_sem]
theorem QCl {b o : Nat} (hx : evS σ x = some (.pointer (some ⟨b, o, none⟩))) : ZI Try.prog n σ w ⟨dst, .fieldAddr 69 x 0, ty, pos, af, g⟩ (.pointer (some ⟨b, o, none⟩)) := fun a ha => by
 simp only [execOp, ha.eval hx]
 simp [go_sem]
theorem QCk {b o : Nat} (hx : evS σ x = some (.pointer (some ⟨b, o, none⟩))) : ZI Try.prog n σ w ⟨dst, .fieldAddr 69 x 1, ty, pos, af, g⟩ (.pointer (some ⟨b, o + 1, none⟩)) := fun a ha => by
 simp only [execOp, ha.eval hx]
 simp [go_sem]
theorem QFf {b o : Nat} (hx : evS σ x = some (.pointer (some ⟨b, o, none⟩))) : ZI Try.prog n σ w ⟨dst, .fieldAddr 69 x 2, ty, pos, af, g⟩ (.pointer (some ⟨b, o + 2, none⟩)) := fun a ha => by
 simp only [execOp, ha.eval hx]
 simp [go_sem]
theorem QBV {b o : Nat} {v0 v1 : Value} (hx : evS σ x = some (.pointer (some ⟨b, o, none⟩))) (c0 : w.cell? ⟨b, o, none⟩ = some v0) (c1 : w.cell? ⟨b, o + 1, none⟩ = some v1) : ZI Try.prog n σ w ⟨dst, .load 67 x, ty, pos, af, g⟩ (.agg #[v0, v1]) := fun a ha => by
 simp only [execOp, ha.eval hx]
 simp [go_sem, c0, c1]
theorem cF69 : cF 69 := fun _ _ => by simp [go_sem]
theorem QL5 {v0 v1 v2 : Value} (hx : evS σ x = some (.agg #[v0, v1, v2])) (a : Act) (ha : Env n σ a) : (execOp a.eval ⟨dst, .box 71 x, ty, pos, af, g⟩).run Try.prog w = .ok (.value (.pointer (some ⟨w.heap.size, 0, none⟩))) (w.alloc (.cells #[v0, v1, v2] 71)) := by
 simp only [execOp, ha.eval hx]
 simp [go_sem]
theorem QDh {b o : Nat} (hx : evS σ x = some (.pointer (some ⟨b, o, none⟩))) : ZI Try.prog n σ w ⟨dst, .fieldAddr 71 x 0, ty, pos, af, g⟩ (.pointer (some ⟨b, o, none⟩)) := fun a ha => by
 simp only [execOp, ha.eval hx]
 simp [go_sem]
theorem YF {x0 : Operand} {z0_0 : Int} (h0 : evS σ x0 = some (.int .i64 z0_0)) (a : Act) (ha : Env n σ a) : (execOp a.eval ⟨dst, .buildSlice 101 1 #[(0, x0)], ty, pos, af, g⟩).run Try.prog w = .ok (.value (.slice (some ⟨w.heap.size, 0, none⟩) 1 1)) (w.alloc (.cells #[.int .i64 z0_0] 3)) := by
 simp only [execOp, List.map_toArray, List.map_cons, List.map_nil, ha.eval h0]
 go_simp
theorem QDg {b o : Nat} (hx : evS σ x = some (.pointer (some ⟨b, o, none⟩))) : ZI Try.prog n σ w ⟨dst, .fieldAddr 71 x 1, ty, pos, af, g⟩ (.pointer (some ⟨b, o + 1, none⟩)) := fun a ha => by
 simp only [execOp, ha.eval hx]
 simp [go_sem]
theorem QDN {v0 v1 v2 v3 v4 v5 : Value} (hx : evS σ x = some (.agg #[v0, v1, v2, v3, v4, v5])) (a : Act) (ha : Env n σ a) : (execOp a.eval ⟨dst, .box 23 x, ty, pos, af, g⟩).run Try.prog w = .ok (.value (.pointer (some ⟨w.heap.size, 0, none⟩))) (w.alloc (.cells #[v0, v1, v2, v3, v4, v5] 23)) := by
 simp only [execOp, ha.eval hx]
 simp [go_sem]
theorem QA9 {b o : Nat} (hx : evS σ x = some (.pointer (some ⟨b, o, none⟩))) : ZI Try.prog n σ w ⟨dst, .fieldAddr 23 x 0, ty, pos, af, g⟩ (.pointer (some ⟨b, o, none⟩)) := fun a ha => by
 simp only [execOp, ha.eval hx]
 simp [go_sem]
theorem QCm {b o : Nat} (hx : evS σ x = some (.pointer (some ⟨b, o, none⟩))) : ZI Try.prog n σ w ⟨dst, .fieldAddr 23 x 1, ty, pos, af, g⟩ (.pointer (some ⟨b, o + 1, none⟩)) := fun a ha => by
 simp only [execOp, ha.eval hx]
 simp [go_sem]
theorem QAM {b o : Nat} (hx : evS σ x = some (.pointer (some ⟨b, o, none⟩))) : ZI Try.prog n σ w ⟨dst, .fieldAddr 23 x 2, ty, pos, af, g⟩ (.pointer (some ⟨b, o + 2, none⟩)) := fun a ha => by
 simp only [execOp, ha.eval hx]
 simp [go_sem]
theorem QBu {b o : Nat} (hx : evS σ x = some (.pointer (some ⟨b, o, none⟩))) : ZI Try.prog n σ w ⟨dst, .fieldAddr 23 x 3, ty, pos, af, g⟩ (.pointer (some ⟨b, o + 3, none⟩)) := fun a ha => by
 simp only [execOp, ha.eval hx]
 simp [go_sem]
theorem QH_ {b o : Nat} (hx : evS σ x = some (.pointer (some ⟨b, o, none⟩))) : ZI Try.prog n σ w ⟨dst, .fieldAddr 23 x 4, ty, pos, af, g⟩ (.pointer (some ⟨b, o + 4, none⟩)) := fun a ha => by
 simp only [execOp, ha.eval hx]
 simp [go_sem]
theorem QKT {v0 v1 v2 v3 v4 : Value} (hx : evS σ x = some (.agg #[v0, v1, v2, v3, v4])) (a : Act) (ha : Env n σ a) : (execOp a.eval ⟨dst, .box 39 x, ty, pos, af, g⟩).run Try.prog w = .ok (.value (.pointer (some ⟨w.heap.size, 0, none⟩))) (w.alloc (.cells #[v0, v1, v2, v3, v4] 39)) := by
 simp only [execOp, ha.eval hx]
 simp [go_sem]
theorem QBs {b o : Nat} (hx : evS σ x = some (.pointer (some ⟨b, o, none⟩))) : ZI Try.prog n σ w ⟨dst, .fieldAddr 39 x 1, ty, pos, af, g⟩ (.pointer (some ⟨b, o + 1, none⟩)) := fun a ha => by
 simp only [execOp, ha.eval hx]
 simp [go_sem]
theorem QH9 {b o : Nat} (hx : evS σ x = some (.pointer (some ⟨b, o, none⟩))) : ZI Try.prog n σ w ⟨dst, .fieldAddr 39 x 2, ty, pos, af, g⟩ (.pointer (some ⟨b, o + 2, none⟩)) := fun a ha => by
 simp only [execOp, ha.eval hx]
 simp [go_sem]
theorem QFh {b o : Nat} (hx : evS σ x = some (.pointer (some ⟨b, o, none⟩))) : ZI Try.prog n σ w ⟨dst, .fieldAddr 39 x 3, ty, pos, af, g⟩ (.pointer (some ⟨b, o + 3, none⟩)) := fun a ha => by
 simp only [execOp, ha.eval hx]
 simp [go_sem]
theorem QFg {b o : Nat} (hx : evS σ x = some (.pointer (some ⟨b, o, none⟩))) : ZI Try.prog n σ w ⟨dst, .fieldAddr 39 x 4, ty, pos, af, g⟩ (.pointer (some ⟨b, o + 4, none⟩)) := fun a ha => by
 simp only [execOp, ha.eval hx]
 simp [go_sem]
theorem QIP (a : Act) (_ : Env n σ a) : (execOp a.eval ⟨dst, .alloc 67, ty, pos, af, g⟩).run Try.prog w = .ok (.value (.pointer (some ⟨w.heap.size, 0, none⟩))) (w.alloc (.cells #[.int .i64 0, .int .i64 0] 67)) := by
 simp only [execOp]
 simp [go_sem]
theorem YM {x0 x1 : Operand} {z0 : Int} {z1 : Int} (h0 : evS σ x0 = some (.int .i64 z0)) (h1 : evS σ x1 = some (.int .i64 z1)) : ZI Try.prog n σ w ⟨dst, .build 67 #[(0, x0), (1, x1)], ty, pos, af, g⟩ (.agg #[.int .i64 z0, .int .i64 z1]) := fun a ha => by
 simp only [execOp, List.map_toArray, List.map_cons, List.map_nil, ha.eval h0, ha.eval h1]
 go_simp
theorem QDB : (Try.prog.info? 67).map (·.size) = some 2 := by kernel_rfl
theorem QJj {b o : Nat} {v0 v1 : Value} (c0 : w.cell? ⟨b, o, none⟩ = some v0) (c1 : w.cell? ⟨b, o + 1, none⟩ = some v1) : (loadVar 67 ⟨b, o, none⟩).run Try.prog w = .ok (.agg #[v0, v1]) w := by
 simp [go_sem, loadVar, c0, c1]
end
theorem QCy {α : Type} {l : List α} {d : α} {p : α → Bool} {k : Nat} (hk : k < l.length) : (l.take (k + 1)).any p = ((l.take k).any p || p (l.getD k d)) := by
 rw [List.take_succ_eq_append_getElem hk, List.any_append, show l.getD k d = l[k] by simp [hk]]
 simp only [List.any_cons, List.any_nil, Bool.or_false]
theorem QFy {α : Type} {l : List α} {d : α} {p : α → Bool} {k : Nat} (hk : k < l.length) (h : p (l.getD k d) = true) : l.any p = true := by
 rw [List.any_eq_true]
 exact ⟨l.getD k d, by rw [show l.getD k d = l[k] by simp [hk]]; exact List.getElem_mem hk, h⟩
theorem QLn {α : Type} {l : List α} {p : α → Bool} : (!l.any p) = l.all (fun x => !p x) := by
 rw [List.all_eq_not_any_not]; simp
set_option maxRecDepth 100000 in
theorem QIq (l : List Int) (pred : Int → Bool) (p0 p1 : Value) (v : Value) (w : World) (B : Nat) (hr : Rd w B 1 v l.length (ints l)) (hB : B ≤ w.heap.size) (hn : l.length ≤ 9223372036854775806) (hf : ∀ x ∈ l, ∀ W, Below w.heap.size w W → Calls Try.prog 54 #[.int .i64 x, p0, p1] W fun e w' => e = .returned (.bool (pred x)) ∧ Below W.heap.size W w') :
  Calls Try.prog 72 #[v, .func (.func 54) #[] #[p0, p1]] w fun e w' => (∃ r : Int, e = .returned (.int .i64 r) ∧ decide (0 ≤ r) = l.any pred) ∧ Below w.heap.size w w' := by
 obtain ⟨A, c, rfl, _⟩ := hr.shape;have hbw := Below.refl w.heap.size w;refine EC.enter 19 Try.func72 rfl rfl rfl (EC.seq (EC.region (EL.as rfl rfl (EL.nil (EX.seq (EC.seq (EC.seq (EC.region (EL.mv rfl rfl ?_)))))))));refine EL.val (QJu rfl) rfl (EL.mv rfl rfl (EL.nil (EX.seq (EC.block ?_))));refine EC.loopD [4, 5, 8, 9, 10, 11, 12, 13, 14, 15, 16, 17, 18] (fun x : Nat => [(8, .int .i64 (x : Nat))]) (fun x W => x ≤ l.length ∧ (l.take x).any pred = false ∧ Below w.heap.size w W) (fun x => l.length - x) 0 ⟨Nat.zero_le _, rfl, hbw⟩ ⟨rfl, trivial⟩ ?_
 clear hbw
 rintro k wk ⟨hk, hno, hbw⟩
 by_cases hlt : k < l.length
 ·
  obtain ⟨b, o, rfl, _, cc⟩ := YO l k hlt w w.heap.size _ _ _ (hr.more hB);have hat := QCy (d := 0) (p := pred) hlt;have hmem : l.getD k 0 ∈ l := by rw [Zg hlt]; exact List.getElem_mem hlt
  obtain ⟨x, ex⟩ : ∃ z, z = l.getD k 0 := ⟨_, rfl⟩;rw [← ex] at hat hmem cc;have hc := hf x hmem wk hbw;refine EC.seq (EC.region ?_);refine EL.val (ZO rfl rfl (by first | assumption | exact decide_eq_true (by omega))) rfl ?_
  refine EL.nil (EX.seq (EC.seq (EC.yes rfl (EC.skip (EX.seq (EC.seq (EC.block (EC.seq (EC.region ?_)))))))));refine EL.mv rfl rfl (EL.as rfl rfl (EL.nil (EX.seq (EC.seq (EC.region (EL.mv rfl rfl (EL.mv rfl rfl (EL.mv rfl rfl (EL.val (Y4 rfl rfl hlt) rfl ?_)))))))));refine EL.val (ld_3 rfl (ZC hbw cc)) rfl (EL.call (QFr rfl rfl) rfl hc ?_)
  rintro e w2 ⟨rfl, hc2⟩
  refine ⟨_, rfl, ?_⟩;replace hbw := bo_ hbw hc2;clear hc2;refine EL.nil (EX.seq ?_)
  cases hp : pred x
  ·
   refine EC.no rfl (EC.skip (EX.blk (EX.seq (EC.region ?_))));refine EL.val (x_add rfl rfl (by first | assumption | exact IntWalk.i64_in _ ⟨by omega, by omega⟩)) rfl ?_
   refine EL.mv rfl rfl (EL.nil ?_);refine EX.roundD (k + 1) ⟨rfl, trivial⟩ (by repeat first | with_reducible exact .refl _ | refine sp_ rfl ?_ | exact .refl _ | refine sd_ rfl ?_ | refine sn_ ?_) ⟨hlt, by rw [hat, hno, hp]; rfl, hbw⟩ (by omega)
  ·
   refine EC.yes rfl (EC.seq (EC.region (EL.mv rfl rfl (EL.as rfl rfl (EL.nil (EX.seq (EC.ret (EX.blk_ret (EX.seq_ret ?_)))))))));refine EX.seq_ret (EX.blk_ret (EX.seq_ret ?_))
   exact EX.done (res1 rfl rfl) ⟨⟨_, rfl, by rw [QFy hlt (ex ▸ hp)]; exact decide_eq_true (by omega)⟩, hbw⟩
 ·
  obtain rfl : k = l.length := by omega
  rw [List.take_length] at hno;refine EC.seq (EC.region ?_);refine EL.val (ZO rfl rfl (by first | assumption | exact decide_eq_false (by omega))) rfl ?_
  refine EL.nil (EX.seq (EC.seq (EC.no rfl (EC.exit (EX.seq_exit (EX.seq_exit (EX.blk_here (EX.seq (EC.seq ?_)))))))));refine EC.region (EL.as rfl rfl (EL.nil (EX.seq (EC.ret ?_))))
  exact EX.done (res1 rfl rfl) ⟨⟨_, rfl, by rw [hno]; rfl⟩, hbw⟩
theorem QFl (l : List Int) (pred : Int → Bool) (p0 p1 : Value) (v : Value) (w : World) (B : Nat) (hr : Rd w B 1 v l.length (ints l)) (hB : B ≤ w.heap.size) (hn : l.length ≤ 9223372036854775806) (hf : ∀ x ∈ l, ∀ W, Below w.heap.size w W → Calls Try.prog 54 #[.int .i64 x, p0, p1] W fun e w' => e = .returned (.bool (pred x)) ∧ Below W.heap.size W w') :
  Calls Try.prog 53 #[v, .func (.func 54) #[] #[p0, p1]] w fun e w' => e = .returned (.bool (l.any pred)) ∧ Below w.heap.size w w' := by
 have hbw := Below.refl w.heap.size w;refine EC.enter 9 Try.func53 rfl rfl rfl (EC.seq (EC.region (EL.as rfl rfl (EL.nil (EX.seq (EC.seq (EC.region (EL.mv rfl rfl (EL.mv rfl rfl ?_)))))))));refine EL.call (cA2 cF72 rfl rfl) rfl (QIq l pred p0 p1 _ w B hr hB hn hf) ?_
 rintro e w2 ⟨⟨r, rfl, hres⟩, hc2⟩
 refine ⟨_, rfl, ?_⟩;replace hbw := bo_ hbw hc2;refine EL.val (QDA rfl rfl hres) rfl (EL.as rfl rfl (EL.nil (EX.seq (EC.ret ?_))))
 exact EX.done (res1 rfl rfl) ⟨rfl, hbw⟩
set_option maxRecDepth 100000 in
theorem QJ9 (l : List TW) (pred : TW → Bool) (p0 : Value) (v : Value) (w : World) (B : Nat) (hr : Rd w B 5 v l.length (twsC l)) (hB : B ≤ w.heap.size) (hn : l.length ≤ 9223372036854775806) (hf : ∀ x ∈ l, ∀ W, Below w.heap.size w W → Calls Try.prog 59 #[.agg #[.bool x.up, .int .i64 x.arrive, .int .i64 x.length, .int .i64 x.weight, .int .i64 x.push], p0] W fun e w' => e = .returned (.bool (pred x)) ∧ Below W.heap.size W w') :
  Calls Try.prog 79 #[v, .func (.func 59) #[] #[p0]] w fun e w' => (∃ r : Int, e = .returned (.int .i64 r) ∧ decide (0 ≤ r) = l.any pred) ∧ Below w.heap.size w w' := by
 obtain ⟨A, c, rfl, _⟩ := hr.shape;have hbw := Below.refl w.heap.size w;refine EC.enter 19 Try.func79 rfl rfl rfl (EC.seq (EC.region (EL.as rfl rfl (EL.nil (EX.seq (EC.seq (EC.seq (EC.region (EL.mv rfl rfl ?_)))))))));refine EL.val (Yg rfl) rfl (EL.mv rfl rfl (EL.nil (EX.seq (EC.block ?_))));refine EC.loopD [4, 5, 8, 9, 10, 11, 12, 13, 14, 15, 16, 17, 18] (fun x : Nat => [(8, .int .i64 (x : Nat))]) (fun x W => x ≤ l.length ∧ (l.take x).any pred = false ∧ Below w.heap.size w W) (fun x => l.length - x) 0 ⟨Nat.zero_le _, rfl, hbw⟩ ⟨rfl, trivial⟩ ?_
 clear hbw
 rintro k wk ⟨hk, hno, hbw⟩
 by_cases hlt : k < l.length
 ·
  obtain ⟨b, o, rfl, _, cc⟩ := Ya l k hlt w w.heap.size _ _ _ (hr.more hB);have hat := QCy (d := tw0) (p := pred) hlt;have hmem : l.getD k tw0 ∈ l := by rw [Zg hlt]; exact List.getElem_mem hlt
  obtain ⟨x, ex⟩ : ∃ z, z = l.getD k tw0 := ⟨_, rfl⟩;rw [← ex] at hat hmem cc;have hc := hf x hmem wk hbw;refine EC.seq (EC.region ?_);refine EL.val (ZO rfl rfl (by first | assumption | exact decide_eq_true (by omega))) rfl ?_
  refine EL.nil (EX.seq (EC.seq (EC.yes rfl (EC.skip (EX.seq (EC.seq (EC.block (EC.seq (EC.region ?_)))))))));refine EL.mv rfl rfl (EL.as rfl rfl (EL.nil (EX.seq (EC.seq (EC.region (EL.mv rfl rfl (EL.mv rfl rfl (EL.mv rfl rfl (EL.val (QAv rfl rfl hlt) rfl ?_)))))))));refine EL.val (QAt rfl (ZC hbw cc.c0) (ZC hbw cc.c1) (ZC hbw cc.c2) (ZC hbw cc.c3) (ZC hbw cc.c4)) rfl (EL.call (QFq rfl rfl) rfl hc ?_)
  rintro e w2 ⟨rfl, hc2⟩
  refine ⟨_, rfl, ?_⟩;replace hbw := bo_ hbw hc2;clear hc2;refine EL.nil (EX.seq ?_)
  cases hp : pred x
  ·
   refine EC.no rfl (EC.skip (EX.blk (EX.seq (EC.region ?_))));refine EL.val (x_add rfl rfl (by first | assumption | exact IntWalk.i64_in _ ⟨by omega, by omega⟩)) rfl ?_
   refine EL.mv rfl rfl (EL.nil ?_);refine EX.roundD (k + 1) ⟨rfl, trivial⟩ (by repeat first | with_reducible exact .refl _ | refine sp_ rfl ?_ | exact .refl _ | refine sd_ rfl ?_ | refine sn_ ?_) ⟨hlt, by rw [hat, hno, hp]; rfl, hbw⟩ (by omega)
  ·
   refine EC.yes rfl (EC.seq (EC.region (EL.mv rfl rfl (EL.as rfl rfl (EL.nil (EX.seq (EC.ret (EX.blk_ret (EX.seq_ret ?_)))))))));refine EX.seq_ret (EX.blk_ret (EX.seq_ret ?_))
   exact EX.done (res1 rfl rfl) ⟨⟨_, rfl, by rw [QFy hlt (ex ▸ hp)]; exact decide_eq_true (by omega)⟩, hbw⟩
 ·
  obtain rfl : k = l.length := by omega
  rw [List.take_length] at hno;refine EC.seq (EC.region ?_);refine EL.val (ZO rfl rfl (by first | assumption | exact decide_eq_false (by omega))) rfl ?_
  refine EL.nil (EX.seq (EC.seq (EC.no rfl (EC.exit (EX.seq_exit (EX.seq_exit (EX.blk_here (EX.seq (EC.seq ?_)))))))));refine EC.region (EL.as rfl rfl (EL.nil (EX.seq (EC.ret ?_))))
  exact EX.done (res1 rfl rfl) ⟨⟨_, rfl, by rw [hno]; rfl⟩, hbw⟩
theorem QDJ (l : List TW) (pred : TW → Bool) (p0 : Value) (v : Value) (w : World) (B : Nat) (hr : Rd w B 5 v l.length (twsC l)) (hB : B ≤ w.heap.size) (hn : l.length ≤ 9223372036854775806) (hf : ∀ x ∈ l, ∀ W, Below w.heap.size w W → Calls Try.prog 59 #[.agg #[.bool x.up, .int .i64 x.arrive, .int .i64 x.length, .int .i64 x.weight, .int .i64 x.push], p0] W fun e w' => e = .returned (.bool (pred x)) ∧ Below W.heap.size W w') :
  Calls Try.prog 60 #[v, .func (.func 59) #[] #[p0]] w fun e w' => e = .returned (.bool (l.any pred)) ∧ Below w.heap.size w w' := by
 have hbw := Below.refl w.heap.size w;refine EC.enter 9 Try.func60 rfl rfl rfl (EC.seq (EC.region (EL.as rfl rfl (EL.nil (EX.seq (EC.seq (EC.region (EL.mv rfl rfl (EL.mv rfl rfl ?_)))))))));refine EL.call (cA2 cF79 rfl rfl) rfl (QJ9 l pred p0 _ w B hr hB hn hf) ?_
 rintro e w2 ⟨⟨r, rfl, hres⟩, hc2⟩
 refine ⟨_, rfl, ?_⟩;replace hbw := bo_ hbw hc2;refine EL.val (QDA rfl rfl hres) rfl (EL.as rfl rfl (EL.nil (EX.seq (EC.ret ?_))))
 exact EX.done (res1 rfl rfl) ⟨rfl, hbw⟩
set_option maxRecDepth 100000 in
theorem QKA (l : List LR) (pred : LR → Bool) (v : Value) (w : World) (B : Nat) (hr : Rd w B 4 v l.length (lrsC l)) (hB : B ≤ w.heap.size) (hn : l.length ≤ 9223372036854775806) (hf : ∀ x ∈ l, ∀ W, Below w.heap.size w W → Calls Try.prog 68 #[.agg #[.int .i64 x.vol, .int .i64 x.least, .int .i64 x.inf.lo, .int .i64 x.inf.hi]] W fun e w' => e = .returned (.bool (pred x)) ∧ Below W.heap.size W w') :
  Calls Try.prog 84 #[v, .func (.func 68) #[] #[]] w fun e w' => (∃ r : Int, e = .returned (.int .i64 r) ∧ decide (0 ≤ r) = l.any pred) ∧ Below w.heap.size w w' := by
 obtain ⟨A, c, rfl, _⟩ := hr.shape;have hbw := Below.refl w.heap.size w;refine EC.enter 19 Try.func84 rfl rfl rfl (EC.seq (EC.region (EL.as rfl rfl (EL.nil (EX.seq (EC.seq (EC.seq (EC.region (EL.mv rfl rfl ?_)))))))));refine EL.val (QAB rfl) rfl (EL.mv rfl rfl (EL.nil (EX.seq (EC.block ?_))));refine EC.loopD [4, 5, 8, 9, 10, 11, 12, 13, 14, 15, 16, 17, 18] (fun x : Nat => [(8, .int .i64 (x : Nat))]) (fun x W => x ≤ l.length ∧ (l.take x).any pred = false ∧ Below w.heap.size w W) (fun x => l.length - x) 0 ⟨Nat.zero_le _, rfl, hbw⟩ ⟨rfl, trivial⟩ ?_
 clear hbw
 rintro k wk ⟨hk, hno, hbw⟩
 by_cases hlt : k < l.length
 ·
  obtain ⟨b, o, rfl, _, cc⟩ := Yp l k hlt w w.heap.size _ _ _ (hr.more hB);have hat := QCy (d := lr0) (p := pred) hlt;have hmem : l.getD k lr0 ∈ l := by rw [Zg hlt]; exact List.getElem_mem hlt
  obtain ⟨x, ex⟩ : ∃ z, z = l.getD k lr0 := ⟨_, rfl⟩;rw [← ex] at hat hmem cc;have hc := hf x hmem wk hbw;refine EC.seq (EC.region ?_);refine EL.val (ZO rfl rfl (by first | assumption | exact decide_eq_true (by omega))) rfl ?_
  refine EL.nil (EX.seq (EC.seq (EC.yes rfl (EC.skip (EX.seq (EC.seq (EC.block (EC.seq (EC.region ?_)))))))));refine EL.mv rfl rfl (EL.as rfl rfl (EL.nil (EX.seq (EC.seq (EC.region (EL.mv rfl rfl (EL.mv rfl rfl (EL.mv rfl rfl (EL.val (QB3 rfl rfl hlt) rfl ?_)))))))));refine EL.val (QJ0 rfl (ZC hbw cc.c0) (ZC hbw cc.c1) (ZC hbw cc.c2) (ZC hbw cc.c3)) rfl (EL.call (QFp rfl rfl) rfl hc ?_)
  rintro e w2 ⟨rfl, hc2⟩
  refine ⟨_, rfl, ?_⟩;replace hbw := bo_ hbw hc2;clear hc2;refine EL.nil (EX.seq ?_)
  cases hp : pred x
  ·
   refine EC.no rfl (EC.skip (EX.blk (EX.seq (EC.region ?_))));refine EL.val (x_add rfl rfl (by first | assumption | exact IntWalk.i64_in _ ⟨by omega, by omega⟩)) rfl ?_
   refine EL.mv rfl rfl (EL.nil ?_);refine EX.roundD (k + 1) ⟨rfl, trivial⟩ (by repeat first | with_reducible exact .refl _ | refine sp_ rfl ?_ | exact .refl _ | refine sd_ rfl ?_ | refine sn_ ?_) ⟨hlt, by rw [hat, hno, hp]; rfl, hbw⟩ (by omega)
  ·
   refine EC.yes rfl (EC.seq (EC.region (EL.mv rfl rfl (EL.as rfl rfl (EL.nil (EX.seq (EC.ret (EX.blk_ret (EX.seq_ret ?_)))))))));refine EX.seq_ret (EX.blk_ret (EX.seq_ret ?_))
   exact EX.done (res1 rfl rfl) ⟨⟨_, rfl, by rw [QFy hlt (ex ▸ hp)]; exact decide_eq_true (by omega)⟩, hbw⟩
 ·
  obtain rfl : k = l.length := by omega
  rw [List.take_length] at hno;refine EC.seq (EC.region ?_);refine EL.val (ZO rfl rfl (by first | assumption | exact decide_eq_false (by omega))) rfl ?_
  refine EL.nil (EX.seq (EC.seq (EC.no rfl (EC.exit (EX.seq_exit (EX.seq_exit (EX.blk_here (EX.seq (EC.seq ?_)))))))));refine EC.region (EL.as rfl rfl (EL.nil (EX.seq (EC.ret ?_))))
  exact EX.done (res1 rfl rfl) ⟨⟨_, rfl, by rw [hno]; rfl⟩, hbw⟩
theorem QDL (l : List LR) (pred : LR → Bool) (v : Value) (w : World) (B : Nat) (hr : Rd w B 4 v l.length (lrsC l)) (hB : B ≤ w.heap.size) (hn : l.length ≤ 9223372036854775806) (hf : ∀ x ∈ l, ∀ W, Below w.heap.size w W → Calls Try.prog 68 #[.agg #[.int .i64 x.vol, .int .i64 x.least, .int .i64 x.inf.lo, .int .i64 x.inf.hi]] W fun e w' => e = .returned (.bool (pred x)) ∧ Below W.heap.size W w') :
  Calls Try.prog 67 #[v, .func (.func 68) #[] #[]] w fun e w' => e = .returned (.bool (l.any pred)) ∧ Below w.heap.size w w' := by
 have hbw := Below.refl w.heap.size w;refine EC.enter 9 Try.func67 rfl rfl rfl (EC.seq (EC.region (EL.as rfl rfl (EL.nil (EX.seq (EC.seq (EC.region (EL.mv rfl rfl (EL.mv rfl rfl ?_)))))))));refine EL.call (cA2 cF84 rfl rfl) rfl (QKA l pred  _ w B hr hB hn hf) ?_
 rintro e w2 ⟨⟨r, rfl, hres⟩, hc2⟩
 refine ⟨_, rfl, ?_⟩;replace hbw := bo_ hbw hc2;refine EL.val (QDA rfl rfl hres) rfl (EL.as rfl rfl (EL.nil (EX.seq (EC.ret ?_))))
 exact EX.done (res1 rfl rfl) ⟨rfl, hbw⟩
set_option maxRecDepth 100000 in
theorem QJ_ (l : List LT) (pred : LT → Bool) (v : Value) (w : World) (B : Nat) (hr : Rd w B 3 v l.length (ltsC l)) (hB : B ≤ w.heap.size) (hn : l.length ≤ 9223372036854775806) (hf : ∀ x ∈ l, ∀ W, Below w.heap.size w W → Calls Try.prog 71 #[.agg #[.int .i64 x.fill, .int .i64 x.cyc.lo, .int .i64 x.cyc.hi]] W fun e w' => e = .returned (.bool (pred x)) ∧ Below W.heap.size W w') :
  Calls Try.prog 85 #[v, .func (.func 71) #[] #[]] w fun e w' => (∃ r : Int, e = .returned (.int .i64 r) ∧ decide (0 ≤ r) = l.any pred) ∧ Below w.heap.size w w' := by
 obtain ⟨A, c, rfl, _⟩ := hr.shape;have hbw := Below.refl w.heap.size w;refine EC.enter 19 Try.func85 rfl rfl rfl (EC.seq (EC.region (EL.as rfl rfl (EL.nil (EX.seq (EC.seq (EC.seq (EC.region (EL.mv rfl rfl ?_)))))))));refine EL.val (QGa rfl) rfl (EL.mv rfl rfl (EL.nil (EX.seq (EC.block ?_))));refine EC.loopD [4, 5, 8, 9, 10, 11, 12, 13, 14, 15, 16, 17, 18] (fun x : Nat => [(8, .int .i64 (x : Nat))]) (fun x W => x ≤ l.length ∧ (l.take x).any pred = false ∧ Below w.heap.size w W) (fun x => l.length - x) 0 ⟨Nat.zero_le _, rfl, hbw⟩ ⟨rfl, trivial⟩ ?_
 clear hbw
 rintro k wk ⟨hk, hno, hbw⟩
 by_cases hlt : k < l.length
 ·
  obtain ⟨b, o, rfl, _, cc⟩ := QAO l k hlt w w.heap.size _ _ _ (hr.more hB);have hat := QCy (d := lt0) (p := pred) hlt;have hmem : l.getD k lt0 ∈ l := by rw [Zg hlt]; exact List.getElem_mem hlt
  obtain ⟨x, ex⟩ : ∃ z, z = l.getD k lt0 := ⟨_, rfl⟩;rw [← ex] at hat hmem cc;have hc := hf x hmem wk hbw;refine EC.seq (EC.region ?_);refine EL.val (ZO rfl rfl (by first | assumption | exact decide_eq_true (by omega))) rfl ?_
  refine EL.nil (EX.seq (EC.seq (EC.yes rfl (EC.skip (EX.seq (EC.seq (EC.block (EC.seq (EC.region ?_)))))))));refine EL.mv rfl rfl (EL.as rfl rfl (EL.nil (EX.seq (EC.seq (EC.region (EL.mv rfl rfl (EL.mv rfl rfl (EL.mv rfl rfl (EL.val (QH3 rfl rfl hlt) rfl ?_)))))))));refine EL.val (QH2 rfl (ZC hbw cc.c0) (ZC hbw cc.c1) (ZC hbw cc.c2)) rfl (EL.call (QFo rfl rfl) rfl hc ?_)
  rintro e w2 ⟨rfl, hc2⟩
  refine ⟨_, rfl, ?_⟩;replace hbw := bo_ hbw hc2;clear hc2;refine EL.nil (EX.seq ?_)
  cases hp : pred x
  ·
   refine EC.no rfl (EC.skip (EX.blk (EX.seq (EC.region ?_))));refine EL.val (x_add rfl rfl (by first | assumption | exact IntWalk.i64_in _ ⟨by omega, by omega⟩)) rfl ?_
   refine EL.mv rfl rfl (EL.nil ?_);refine EX.roundD (k + 1) ⟨rfl, trivial⟩ (by repeat first | with_reducible exact .refl _ | refine sp_ rfl ?_ | exact .refl _ | refine sd_ rfl ?_ | refine sn_ ?_) ⟨hlt, by rw [hat, hno, hp]; rfl, hbw⟩ (by omega)
  ·
   refine EC.yes rfl (EC.seq (EC.region (EL.mv rfl rfl (EL.as rfl rfl (EL.nil (EX.seq (EC.ret (EX.blk_ret (EX.seq_ret ?_)))))))));refine EX.seq_ret (EX.blk_ret (EX.seq_ret ?_))
   exact EX.done (res1 rfl rfl) ⟨⟨_, rfl, by rw [QFy hlt (ex ▸ hp)]; exact decide_eq_true (by omega)⟩, hbw⟩
 ·
  obtain rfl : k = l.length := by omega
  rw [List.take_length] at hno;refine EC.seq (EC.region ?_);refine EL.val (ZO rfl rfl (by first | assumption | exact decide_eq_false (by omega))) rfl ?_
  refine EL.nil (EX.seq (EC.seq (EC.no rfl (EC.exit (EX.seq_exit (EX.seq_exit (EX.blk_here (EX.seq (EC.seq ?_)))))))));refine EC.region (EL.as rfl rfl (EL.nil (EX.seq (EC.ret ?_))))
  exact EX.done (res1 rfl rfl) ⟨⟨_, rfl, by rw [hno]; rfl⟩, hbw⟩
theorem QDK (l : List LT) (pred : LT → Bool) (v : Value) (w : World) (B : Nat) (hr : Rd w B 3 v l.length (ltsC l)) (hB : B ≤ w.heap.size) (hn : l.length ≤ 9223372036854775806) (hf : ∀ x ∈ l, ∀ W, Below w.heap.size w W → Calls Try.prog 71 #[.agg #[.int .i64 x.fill, .int .i64 x.cyc.lo, .int .i64 x.cyc.hi]] W fun e w' => e = .returned (.bool (pred x)) ∧ Below W.heap.size W w') :
  Calls Try.prog 70 #[v, .func (.func 71) #[] #[]] w fun e w' => e = .returned (.bool (l.any pred)) ∧ Below w.heap.size w w' := by
 have hbw := Below.refl w.heap.size w;refine EC.enter 9 Try.func70 rfl rfl rfl (EC.seq (EC.region (EL.as rfl rfl (EL.nil (EX.seq (EC.seq (EC.region (EL.mv rfl rfl (EL.mv rfl rfl ?_)))))))));refine EL.call (cA2 cF85 rfl rfl) rfl (QJ_ l pred  _ w B hr hB hn hf) ?_
 rintro e w2 ⟨⟨r, rfl, hres⟩, hc2⟩
 refine ⟨_, rfl, ?_⟩;replace hbw := bo_ hbw hc2;refine EL.val (QDA rfl rfl hres) rfl (EL.as rfl rfl (EL.nil (EX.seq (EC.ret ?_))))
 exact EX.done (res1 rfl rfl) ⟨rfl, hbw⟩
theorem QKg (x lo hi : Int) (b1 b2 : Nat) (w : World) (hp : w.cell? ⟨b1, 0, none⟩ = some (.int .i64 lo)) (hq : w.cell? ⟨b2, 0, none⟩ = some (.int .i64 hi)) :
  Calls Try.prog 54 #[.int .i64 x, .pointer (some ⟨b1, 0, none⟩), .pointer (some ⟨b2, 0, none⟩)] w fun e w' => e = .returned (.bool (!inB lo hi x)) ∧ Below w.heap.size w w' := by
 have hbw := Below.refl w.heap.size w;refine EC.enter 13 Try.func54 rfl rfl rfl (EC.seq (EC.region (EL.as rfl rfl (EL.nil (EX.seq (EC.seq (EC.region (EL.mv rfl rfl (EL.val (ld_3 rfl hp) rfl ?_)))))))))
 by_cases h1 : x < lo
 ·
  refine EL.val (ZO rfl rfl (by first | assumption | exact decide_eq_true (by omega))) rfl ?_
  refine EL.mv rfl rfl (EL.skip rfl rfl rfl rfl (EL.skip rfl rfl rfl rfl (EL.skip rfl rfl rfl rfl (EL.pt rfl rfl rfl (EL.as rfl rfl (EL.nil (EX.seq (EC.ret ?_))))))))
  exact EX.done (res1 rfl rfl) ⟨by congr 2; symm; first | (rw [Bool.not_eq_true', QFe]; omega) | (rw [Bool.not_eq_false', Zy]; omega), hbw⟩
 ·
  refine EL.val (ZO rfl rfl (by first | assumption | exact decide_eq_false (by omega))) rfl ?_
  refine EL.mv rfl rfl (EL.mg rfl rfl rfl rfl (EL.valg rfl rfl (ld_3 rfl hq) rfl ?_))
  by_cases h2 : hi < x
  ·
   refine EL.valg rfl rfl (Zw rfl rfl (by first | assumption | exact decide_eq_true (by omega))) rfl ?_
   refine EL.pf rfl rfl rfl (EL.as rfl rfl (EL.nil (EX.seq (EC.ret ?_))))
   exact EX.done (res1 rfl rfl) ⟨by congr 2; symm; first | (rw [Bool.not_eq_true', QFe]; omega) | (rw [Bool.not_eq_false', Zy]; omega), hbw⟩
  ·
   refine EL.valg rfl rfl (Zw rfl rfl (by first | assumption | exact decide_eq_false (by omega))) rfl ?_
   refine EL.pf rfl rfl rfl (EL.as rfl rfl (EL.nil (EX.seq (EC.ret ?_))))
   exact EX.done (res1 rfl rfl) ⟨by congr 2; symm; first | (rw [Bool.not_eq_true', QFe]; omega) | (rw [Bool.not_eq_false', Zy]; omega), hbw⟩
theorem QDq (lo hi : Int) (l : List Int) (v : Value) (w : World) (B : Nat) (hr : Rd w B 1 v l.length (ints l)) (hB : B ≤ w.heap.size) (hn : l.length ≤ 9223372036854775806) :
  Calls Try.prog 39 #[.int .i64 lo, .int .i64 hi, v] w fun e w' => e = .returned (.bool (l.all (inB lo hi))) ∧ Below w.heap.size w w' := by
 have hbw := Below.refl w.heap.size w;refine EC.enter 11 Try.func39 rfl rfl rfl (EC.seq (EC.region (EL.newP (bx_3 rfl rfl) rfl ?_)));intro g1 w1 q1 hb1 hg1 hl1;have bhbw_1 := Nat.le_trans hbw.size hg1;replace hbw := bo_ hbw hb1;clear hb1 hg1 hl1;refine EL.newP (bx_3 rfl rfl) rfl ?_;intro g2 w2 q2 hb2 hg2 hl2;have n1_2 := q1.na hg2;have bhbw_2 := Nat.le_trans hbw.size hg2;replace q1 := q1.bl hb2;replace hbw := bo_ hbw hb2;clear hb2 hg2 hl2;refine EL.as rfl rfl (EL.nil (EX.seq (EC.seq (EC.region (EL.mv rfl rfl (EL.val (QIl rfl rfl) rfl ?_))))));refine EL.call (cA2 cF53 rfl rfl) rfl (QFl l (fun x => !inB lo hi x) _ _ _ _ B (hr.below (hbw.mono hB)) (Nat.le_trans hB hbw.size) hn (fun x _ W hb => QKg x lo hi _ _ W (ZC hb (q1.at (j := 0) rfl)) (ZC hb (q2.at (j := 0) rfl)))) ?_
 rintro e w3 ⟨rfl, hc3⟩
 refine ⟨_, rfl, ?_⟩;replace q1 := q1.bl hc3;replace q2 := q2.bl hc3;replace hbw := bo_ hbw hc3;clear hc3;refine EL.val (ZX rfl) rfl (EL.as rfl rfl (EL.nil (EX.seq (EC.ret ?_))))
 exact EX.done (res1 rfl rfl) ⟨by rw [QLn]; simp, hbw⟩
theorem Za {lo hi x : Int} {g : Nat} {w : World} {b : Bool} (hq : Blk w g 3 #[.int .i64 x]) (h : inB lo hi x = b) :
  Calls Try.prog 39 #[.int .i64 lo, .int .i64 hi, .slice (some ⟨g, 0, none⟩) 1 1] w fun e w' => e = .returned (.bool b) ∧ Below w.heap.size w w' := by
 have key := QDq lo hi [x] _ w w.heap.size (Yt (k := 1) (l := [.int .i64 x]) hq rfl) (Nat.le_refl _) (by simp)
 simpa [h] using key
theorem QCK {lo hi x y : Int} {g : Nat} {w : World} {b : Bool} (hq : Blk w g 3 #[.int .i64 x, .int .i64 y]) (h : (inB lo hi x && inB lo hi y) = b) :
  Calls Try.prog 39 #[.int .i64 lo, .int .i64 hi, .slice (some ⟨g, 0, none⟩) 2 2] w fun e w' => e = .returned (.bool b) ∧ Below w.heap.size w w' := by
 have key := QDq lo hi [x, y] _ w w.heap.size (Yt (k := 2) (l := [.int .i64 x, .int .i64 y]) hq rfl) (Nat.le_refl _) (by simp)
 simpa [h] using key
theorem QFd (x : Bd) (m : Int) (w : World) : Calls Try.prog 69 #[.agg #[.int .i64 x.lo, .int .i64 x.hi], .int .i64 m] w fun e w' => e = .returned (.bool (bdB x m)) ∧ Below w.heap.size w w' := by
 have hbw := Below.refl w.heap.size w;refine EC.enter 19 Try.func69 rfl rfl rfl (EC.seq (EC.region (EL.newP (QGo rfl) rfl ?_)));intro g1 w1 q1 hb1 hg1 hl1;have bhbw_1 := Nat.le_trans hbw.size hg1;replace hbw := bo_ hbw hb1;clear hb1 hg1 hl1;refine EL.as rfl rfl (EL.nil (EX.seq (EC.seq (EC.region (EL.mv rfl rfl (EL.val (YE rfl) rfl (EL.val (ld_3 rfl (q1.at (j := 0) rfl)) rfl (EL.val (YP rfl) rfl (EL.val (ld_3 rfl (q1.at (j := 1) rfl)) rfl ?_)))))))));refine EL.newS (QEQ rfl rfl) rfl ?_;intro g2 w2 q2 hb2 hg2 hl2;have n1_2 := q1.na hg2;have bhbw_2 := Nat.le_trans hbw.size hg2;replace q1 := q1.bl hb2;replace hbw := bo_ hbw hb2;clear hb2 hg2 hl2
 cases h1 : (inB 0 m x.lo && inB 0 m x.hi)
 ·
  refine EL.call (cA3 cF39 rfl rfl rfl) rfl (QCK q2 h1) ?_
  rintro e w3 ⟨rfl, hc3⟩
  refine ⟨_, rfl, ?_⟩;replace q1 := q1.bl hc3;replace q2 := q2.bl hc3;replace hbw := bo_ hbw hc3;clear hc3;refine EL.mv rfl rfl (EL.skip rfl rfl rfl rfl (EL.skip rfl rfl rfl rfl (EL.skip rfl rfl rfl rfl (EL.skip rfl rfl rfl rfl (EL.skip rfl rfl rfl rfl (EL.pf rfl rfl rfl (EL.as rfl rfl (EL.nil (EX.seq ?_)))))))));refine EC.ret ?_
  exact EX.done (res1 rfl rfl) ⟨by congr 2; simp [bdB, *], hbw⟩
 ·
  refine EL.call (cA3 cF39 rfl rfl rfl) rfl (QCK q2 h1) ?_
  rintro e w4 ⟨rfl, hc4⟩
  refine ⟨_, rfl, ?_⟩;replace q1 := q1.bl hc4;replace q2 := q2.bl hc4;replace hbw := bo_ hbw hc4;clear hc4;refine EL.mv rfl rfl (EL.valg rfl rfl (YE rfl) rfl (EL.valg rfl rfl (ld_3 rfl (q1.at (j := 0) rfl)) rfl (EL.valg rfl rfl (YP rfl) rfl (EL.valg rfl rfl (ld_3 rfl (q1.at (j := 1) rfl)) rfl ?_))))
  by_cases h2 : x.lo ≤ x.hi
  ·
   refine EL.valg rfl rfl (QF1 rfl rfl (by first | assumption | exact decide_eq_true (by omega))) rfl ?_
   refine EL.pt rfl rfl rfl (EL.as rfl rfl (EL.nil (EX.seq (EC.ret ?_))))
   exact EX.done (res1 rfl rfl) ⟨by congr 2; simp [bdB, *], hbw⟩
  ·
   refine EL.valg rfl rfl (QF1 rfl rfl (by first | assumption | exact decide_eq_false (by omega))) rfl ?_
   refine EL.pt rfl rfl rfl (EL.as rfl rfl (EL.nil (EX.seq (EC.ret ?_))))
   exact EX.done (res1 rfl rfl) ⟨by congr 2; simp [bdB, *], hbw⟩
theorem QAb {x : Bd} {m : Int} {b : Bool} (h : bdB x m = b) (w : World) : Calls Try.prog 69 #[.agg #[.int .i64 x.lo, .int .i64 x.hi], .int .i64 m] w fun e w' => e = .returned (.bool b) ∧ Below w.heap.size w w' := h ▸ QFd x m w
theorem QEO (x : LR) (w : World) : Calls Try.prog 68 #[.agg #[.int .i64 x.vol, .int .i64 x.least, .int .i64 x.inf.lo, .int .i64 x.inf.hi]] w fun e w' => e = .returned (.bool (!lrB x)) ∧ Below w.heap.size w w' := by
 have hbw := Below.refl w.heap.size w;refine EC.enter 16 Try.func68 rfl rfl rfl (EC.seq (EC.region (EL.newP (QNL rfl) rfl ?_)));intro g1 w1 q1 hb1 hg1 hl1;have bhbw_1 := Nat.le_trans hbw.size hg1;replace hbw := bo_ hbw hb1;clear hb1 hg1 hl1;refine EL.as rfl rfl (EL.nil (EX.seq (EC.seq (EC.region (EL.val (QCl rfl) rfl (EL.val (ld_3 rfl (q1.at (j := 0) rfl)) rfl (EL.val (QCk rfl) rfl (EL.val (ld_3 rfl (q1.at (j := 1) rfl)) rfl (EL.newS (QEQ rfl rfl) rfl ?_)))))))));intro g2 w2 q2 hb2 hg2 hl2;have n1_2 := q1.na hg2;have bhbw_2 := Nat.le_trans hbw.size hg2;replace q1 := q1.bl hb2;replace hbw := bo_ hbw hb2;clear hb2 hg2 hl2
 cases h1 : (inB 0 1000000000000 x.vol && inB 0 1000000000000 x.least)
 ·
  refine EL.call (cA3 cF39 rfl rfl rfl) rfl (QCK q2 h1) ?_
  rintro e w3 ⟨rfl, hc3⟩
  refine ⟨_, rfl, ?_⟩;replace q1 := q1.bl hc3;replace q2 := q2.bl hc3;replace hbw := bo_ hbw hc3;clear hc3;refine EL.val (ZX rfl) rfl (EL.mv rfl rfl (EL.skip rfl rfl rfl rfl (EL.skip rfl rfl rfl rfl (EL.skip rfl rfl rfl rfl (EL.skip rfl rfl rfl rfl (EL.pt rfl rfl rfl (EL.as rfl rfl (EL.nil (EX.seq ?_)))))))));refine EC.ret ?_
  exact EX.done (res1 rfl rfl) ⟨by congr 2; simp [lrB, *], hbw⟩
 ·
  refine EL.call (cA3 cF39 rfl rfl rfl) rfl (QCK q2 h1) ?_
  rintro e w4 ⟨rfl, hc4⟩
  refine ⟨_, rfl, ?_⟩;replace q1 := q1.bl hc4;replace q2 := q2.bl hc4;replace hbw := bo_ hbw hc4;clear hc4;refine EL.val (ZX rfl) rfl (EL.mv rfl rfl (EL.valg rfl rfl (QFf rfl) rfl (EL.valg rfl rfl (QBV rfl (q1.at (j := 2) rfl) (q1.at (j := 3) rfl)) rfl ?_)))
  cases h2 : (bdB x.inf 1000000000000)
  ·
   refine EL.callg rfl rfl (cA2 cF69 rfl rfl) rfl (QAb h2 _) ?_
   rintro e w5 ⟨rfl, hc5⟩
   refine ⟨_, rfl, ?_⟩;replace q1 := q1.bl hc5;replace q2 := q2.bl hc5;replace hbw := bo_ hbw hc5;clear hc5;refine EL.valg rfl rfl (ZX rfl) rfl (EL.pf rfl rfl rfl (EL.as rfl rfl (EL.nil (EX.seq (EC.ret ?_)))))
   exact EX.done (res1 rfl rfl) ⟨by congr 2; simp [lrB, *], hbw⟩
  ·
   refine EL.callg rfl rfl (cA2 cF69 rfl rfl) rfl (QAb h2 _) ?_
   rintro e w6 ⟨rfl, hc6⟩
   refine ⟨_, rfl, ?_⟩;replace q1 := q1.bl hc6;replace q2 := q2.bl hc6;replace hbw := bo_ hbw hc6;clear hc6;refine EL.valg rfl rfl (ZX rfl) rfl (EL.pf rfl rfl rfl (EL.as rfl rfl (EL.nil (EX.seq (EC.ret ?_)))))
   exact EX.done (res1 rfl rfl) ⟨by congr 2; simp [lrB, *], hbw⟩
theorem QEN (x : LT) (w : World) : Calls Try.prog 71 #[.agg #[.int .i64 x.fill, .int .i64 x.cyc.lo, .int .i64 x.cyc.hi]] w fun e w' => e = .returned (.bool (!ltB x)) ∧ Below w.heap.size w w' := by
 have hbw := Below.refl w.heap.size w;refine EC.enter 14 Try.func71 rfl rfl rfl (EC.seq (EC.region (EL.newP (QL5 rfl) rfl ?_)));intro g1 w1 q1 hb1 hg1 hl1;have bhbw_1 := Nat.le_trans hbw.size hg1;replace hbw := bo_ hbw hb1;clear hb1 hg1 hl1;refine EL.as rfl rfl (EL.nil (EX.seq (EC.seq (EC.region (EL.val (QDh rfl) rfl (EL.val (ld_3 rfl (q1.at (j := 0) rfl)) rfl (EL.newS (YF rfl) rfl ?_)))))));intro g2 w2 q2 hb2 hg2 hl2;have n1_2 := q1.na hg2;have bhbw_2 := Nat.le_trans hbw.size hg2;replace q1 := q1.bl hb2;replace hbw := bo_ hbw hb2;clear hb2 hg2 hl2
 cases h1 : inB 0 1000000 x.fill
 ·
  refine EL.call (cA3 cF39 rfl rfl rfl) rfl (Za q2 h1) ?_
  rintro e w3 ⟨rfl, hc3⟩
  refine ⟨_, rfl, ?_⟩;replace q1 := q1.bl hc3;replace q2 := q2.bl hc3;replace hbw := bo_ hbw hc3;clear hc3;refine EL.val (ZX rfl) rfl (EL.mv rfl rfl (EL.skip rfl rfl rfl rfl (EL.skip rfl rfl rfl rfl (EL.skip rfl rfl rfl rfl (EL.skip rfl rfl rfl rfl (EL.pt rfl rfl rfl (EL.as rfl rfl (EL.nil (EX.seq ?_)))))))));refine EC.ret ?_
  exact EX.done (res1 rfl rfl) ⟨by congr 2; simp [ltB, *], hbw⟩
 ·
  refine EL.call (cA3 cF39 rfl rfl rfl) rfl (Za q2 h1) ?_
  rintro e w4 ⟨rfl, hc4⟩
  refine ⟨_, rfl, ?_⟩;replace q1 := q1.bl hc4;replace q2 := q2.bl hc4;replace hbw := bo_ hbw hc4;clear hc4;refine EL.val (ZX rfl) rfl (EL.mv rfl rfl (EL.valg rfl rfl (QDg rfl) rfl (EL.valg rfl rfl (QBV rfl (q1.at (j := 1) rfl) (q1.at (j := 2) rfl)) rfl ?_)))
  cases h2 : (bdB x.cyc 100)
  ·
   refine EL.callg rfl rfl (cA2 cF69 rfl rfl) rfl (QAb h2 _) ?_
   rintro e w5 ⟨rfl, hc5⟩
   refine ⟨_, rfl, ?_⟩;replace q1 := q1.bl hc5;replace q2 := q2.bl hc5;replace hbw := bo_ hbw hc5;clear hc5;refine EL.valg rfl rfl (ZX rfl) rfl (EL.pf rfl rfl rfl (EL.as rfl rfl (EL.nil (EX.seq (EC.ret ?_)))))
   exact EX.done (res1 rfl rfl) ⟨by congr 2; simp [ltB, *], hbw⟩
  ·
   refine EL.callg rfl rfl (cA2 cF69 rfl rfl) rfl (QAb h2 _) ?_
   rintro e w6 ⟨rfl, hc6⟩
   refine ⟨_, rfl, ?_⟩;replace q1 := q1.bl hc6;replace q2 := q2.bl hc6;replace hbw := bo_ hbw hc6;clear hc6;refine EL.valg rfl rfl (ZX rfl) rfl (EL.pf rfl rfl rfl (EL.as rfl rfl (EL.nil (EX.seq (EC.ret ?_)))))
   exact EX.done (res1 rfl rfl) ⟨by congr 2; simp [ltB, *], hbw⟩
theorem QI1 (l : LK) (w : World) : Calls Try.prog 15 #[.agg #[.int .i64 l.length, .int .i64 l.cycle, .int .i64 l.turn, .int .i64 l.fill, .int .i64 l.save, .bool l.high]] w fun e w' => e = .returned (.int .i64 (if lkB l = true then 0 else 2)) ∧ Below w.heap.size w w' := by
 have hbw := Below.refl w.heap.size w;refine EC.enter 36 Try.func15 rfl rfl rfl (EC.seq (EC.region (EL.newP (QDN rfl) rfl ?_)));intro g1 w1 q1 hb1 hg1 hl1;have bhbw_1 := Nat.le_trans hbw.size hg1;replace hbw := bo_ hbw hb1;clear hb1 hg1 hl1;refine EL.as rfl rfl (EL.nil (EX.seq (EC.seq (EC.seq (EC.region (EL.val (QA9 rfl) rfl (EL.val (ld_3 rfl (q1.at (j := 0) rfl)) rfl (EL.newS (YF rfl) rfl ?_))))))));intro g2 w2 q2 hb2 hg2 hl2;have n1_2 := q1.na hg2;have bhbw_2 := Nat.le_trans hbw.size hg2;replace q1 := q1.bl hb2;replace hbw := bo_ hbw hb2;clear hb2 hg2 hl2
 cases h1 : inB 1 500 l.length
 ·
  refine EL.call (cA3 cF39 rfl rfl rfl) rfl (Za q2 h1) ?_
  rintro e w3 ⟨rfl, hc3⟩
  refine ⟨_, rfl, ?_⟩;replace q1 := q1.bl hc3;replace q2 := q2.bl hc3;replace hbw := bo_ hbw hc3;clear hc3;refine EL.val (ZX rfl) rfl (EL.mv rfl rfl (EL.skip rfl rfl rfl rfl (EL.skip rfl rfl rfl rfl (EL.skip rfl rfl rfl rfl (EL.skip rfl rfl rfl rfl (EL.skip rfl rfl rfl rfl (EL.pt rfl rfl rfl (EL.mv rfl rfl (EL.skip rfl rfl rfl rfl ?_)))))))));refine EL.skip rfl rfl rfl rfl (EL.skip rfl rfl rfl rfl (EL.skip rfl rfl rfl rfl (EL.skip rfl rfl rfl rfl (EL.pt rfl rfl rfl (EL.mv rfl rfl (EL.skip rfl rfl rfl rfl (EL.skip rfl rfl rfl rfl (EL.skip rfl rfl rfl rfl (EL.skip rfl rfl rfl rfl ?_)))))))));refine EL.skip rfl rfl rfl rfl (EL.pt rfl rfl rfl (EL.mv rfl rfl (EL.skip rfl rfl rfl rfl (EL.skip rfl rfl rfl rfl (EL.skip rfl rfl rfl rfl (EL.skip rfl rfl rfl rfl (EL.skip rfl rfl rfl rfl (EL.pt rfl rfl rfl (EL.nil ?_)))))))));refine EX.seq (EC.yes rfl (EC.seq (EC.region (EL.as rfl rfl (EL.nil (EX.seq (EC.ret (EX.seq_ret ?_))))))))
  exact EX.done (res1 rfl rfl) ⟨by congr 2; simp [lkB, *], hbw⟩
 ·
  refine EL.call (cA3 cF39 rfl rfl rfl) rfl (Za q2 h1) ?_
  rintro e w4 ⟨rfl, hc4⟩
  refine ⟨_, rfl, ?_⟩;replace q1 := q1.bl hc4;replace q2 := q2.bl hc4;replace hbw := bo_ hbw hc4;clear hc4;refine EL.val (ZX rfl) rfl (EL.mv rfl rfl (EL.valg rfl rfl (QCm rfl) rfl (EL.valg rfl rfl (ld_3 rfl (q1.at (j := 1) rfl)) rfl (EL.newSg rfl rfl (YF rfl) rfl ?_))));intro g5 w5 q5 hb5 hg5 hl5;have n1_5 := q1.na hg5;have n2_5 := q2.na hg5;have bhbw_5 := Nat.le_trans hbw.size hg5;replace q1 := q1.bl hb5;replace q2 := q2.bl hb5;replace hbw := bo_ hbw hb5;clear hb5 hg5 hl5
  cases h2 : inB 1 500 l.cycle
  ·
   refine EL.callg rfl rfl (cA3 cF39 rfl rfl rfl) rfl (Za q5 h2) ?_
   rintro e w6 ⟨rfl, hc6⟩
   refine ⟨_, rfl, ?_⟩;replace q1 := q1.bl hc6;replace q2 := q2.bl hc6;replace q5 := q5.bl hc6;replace hbw := bo_ hbw hc6;clear hc6;refine EL.valg rfl rfl (ZX rfl) rfl (EL.pf rfl rfl rfl (EL.mv rfl rfl (EL.skip rfl rfl rfl rfl (EL.skip rfl rfl rfl rfl (EL.skip rfl rfl rfl rfl (EL.skip rfl rfl rfl rfl (EL.skip rfl rfl rfl rfl (EL.pt rfl rfl rfl (EL.mv rfl rfl ?_)))))))));refine EL.skip rfl rfl rfl rfl (EL.skip rfl rfl rfl rfl (EL.skip rfl rfl rfl rfl (EL.skip rfl rfl rfl rfl (EL.skip rfl rfl rfl rfl (EL.pt rfl rfl rfl (EL.mv rfl rfl (EL.skip rfl rfl rfl rfl (EL.skip rfl rfl rfl rfl (EL.skip rfl rfl rfl rfl ?_)))))))));refine EL.skip rfl rfl rfl rfl (EL.skip rfl rfl rfl rfl (EL.pt rfl rfl rfl (EL.nil (EX.seq (EC.yes rfl (EC.seq (EC.region (EL.as rfl rfl (EL.nil ?_)))))))));refine EX.seq (EC.ret (EX.seq_ret ?_))
   exact EX.done (res1 rfl rfl) ⟨by congr 2; simp [lkB, *], hbw⟩
  ·
   refine EL.callg rfl rfl (cA3 cF39 rfl rfl rfl) rfl (Za q5 h2) ?_
   rintro e w7 ⟨rfl, hc7⟩
   refine ⟨_, rfl, ?_⟩;replace q1 := q1.bl hc7;replace q2 := q2.bl hc7;replace q5 := q5.bl hc7;replace hbw := bo_ hbw hc7;clear hc7;refine EL.valg rfl rfl (ZX rfl) rfl (EL.pf rfl rfl rfl (EL.mv rfl rfl (EL.valg rfl rfl (QAM rfl) rfl (EL.valg rfl rfl (ld_3 rfl (q1.at (j := 2) rfl)) rfl (EL.newSg rfl rfl (YF rfl) rfl ?_)))));intro g8 w8 q8 hb8 hg8 hl8;have n1_8 := q1.na hg8;have n2_8 := q2.na hg8;have n5_8 := q5.na hg8;have bhbw_8 := Nat.le_trans hbw.size hg8;replace q1 := q1.bl hb8;replace q2 := q2.bl hb8;replace q5 := q5.bl hb8;replace hbw := bo_ hbw hb8;clear hb8 hg8 hl8
   cases h3 : inB 0 500 l.turn
   ·
    refine EL.callg rfl rfl (cA3 cF39 rfl rfl rfl) rfl (Za q8 h3) ?_
    rintro e w9 ⟨rfl, hc9⟩
    refine ⟨_, rfl, ?_⟩;replace q1 := q1.bl hc9;replace q2 := q2.bl hc9;replace q5 := q5.bl hc9;replace q8 := q8.bl hc9;replace hbw := bo_ hbw hc9;clear hc9;refine EL.valg rfl rfl (ZX rfl) rfl (EL.pf rfl rfl rfl (EL.mv rfl rfl (EL.skip rfl rfl rfl rfl (EL.skip rfl rfl rfl rfl (EL.skip rfl rfl rfl rfl (EL.skip rfl rfl rfl rfl (EL.skip rfl rfl rfl rfl (EL.pt rfl rfl rfl (EL.mv rfl rfl ?_)))))))));refine EL.skip rfl rfl rfl rfl (EL.skip rfl rfl rfl rfl (EL.skip rfl rfl rfl rfl (EL.skip rfl rfl rfl rfl (EL.skip rfl rfl rfl rfl (EL.pt rfl rfl rfl (EL.nil (EX.seq (EC.yes rfl (EC.seq ?_)))))))));refine EC.region (EL.as rfl rfl (EL.nil (EX.seq (EC.ret (EX.seq_ret ?_)))))
    exact EX.done (res1 rfl rfl) ⟨by congr 2; simp [lkB, *], hbw⟩
   ·
    refine EL.callg rfl rfl (cA3 cF39 rfl rfl rfl) rfl (Za q8 h3) ?_
    rintro e w10 ⟨rfl, hc10⟩
    refine ⟨_, rfl, ?_⟩;replace q1 := q1.bl hc10;replace q2 := q2.bl hc10;replace q5 := q5.bl hc10;replace q8 := q8.bl hc10;replace hbw := bo_ hbw hc10;clear hc10;refine EL.valg rfl rfl (ZX rfl) rfl (EL.pf rfl rfl rfl (EL.mv rfl rfl (EL.valg rfl rfl (QBu rfl) rfl (EL.valg rfl rfl (ld_3 rfl (q1.at (j := 3) rfl)) rfl (EL.newSg rfl rfl (YF rfl) rfl ?_)))));intro g11 w11 q11 hb11 hg11 hl11;have n1_11 := q1.na hg11;have n2_11 := q2.na hg11;have n5_11 := q5.na hg11;have n8_11 := q8.na hg11;have bhbw_11 := Nat.le_trans hbw.size hg11;replace q1 := q1.bl hb11;replace q2 := q2.bl hb11;replace q5 := q5.bl hb11;replace q8 := q8.bl hb11;replace hbw := bo_ hbw hb11;clear hb11 hg11 hl11
    cases h4 : inB 0 1000000 l.fill
    ·
     refine EL.callg rfl rfl (cA3 cF39 rfl rfl rfl) rfl (Za q11 h4) ?_
     rintro e w12 ⟨rfl, hc12⟩
     refine ⟨_, rfl, ?_⟩;replace q1 := q1.bl hc12;replace q2 := q2.bl hc12;replace q5 := q5.bl hc12;replace q8 := q8.bl hc12;replace q11 := q11.bl hc12;replace hbw := bo_ hbw hc12;clear hc12;refine EL.valg rfl rfl (ZX rfl) rfl (EL.pf rfl rfl rfl (EL.mv rfl rfl (EL.skip rfl rfl rfl rfl (EL.skip rfl rfl rfl rfl (EL.skip rfl rfl rfl rfl (EL.skip rfl rfl rfl rfl (EL.skip rfl rfl rfl rfl (EL.pt rfl rfl rfl (EL.nil ?_)))))))));refine EX.seq (EC.yes rfl (EC.seq (EC.region (EL.as rfl rfl (EL.nil (EX.seq (EC.ret (EX.seq_ret ?_))))))))
     exact EX.done (res1 rfl rfl) ⟨by congr 2; simp [lkB, *], hbw⟩
    ·
     refine EL.callg rfl rfl (cA3 cF39 rfl rfl rfl) rfl (Za q11 h4) ?_
     rintro e w13 ⟨rfl, hc13⟩
     refine ⟨_, rfl, ?_⟩;replace q1 := q1.bl hc13;replace q2 := q2.bl hc13;replace q5 := q5.bl hc13;replace q8 := q8.bl hc13;replace q11 := q11.bl hc13;replace hbw := bo_ hbw hc13;clear hc13;refine EL.valg rfl rfl (ZX rfl) rfl (EL.pf rfl rfl rfl (EL.mv rfl rfl (EL.valg rfl rfl (QH_ rfl) rfl (EL.valg rfl rfl (ld_3 rfl (q1.at (j := 4) rfl)) rfl (EL.newSg rfl rfl (YF rfl) rfl ?_)))));intro g14 w14 q14 hb14 hg14 hl14;have n1_14 := q1.na hg14;have n2_14 := q2.na hg14;have n5_14 := q5.na hg14;have n8_14 := q8.na hg14;have n11_14 := q11.na hg14;have bhbw_14 := Nat.le_trans hbw.size hg14;replace q1 := q1.bl hb14;replace q2 := q2.bl hb14;replace q5 := q5.bl hb14;replace q8 := q8.bl hb14;replace q11 := q11.bl hb14;replace hbw := bo_ hbw hb14;clear hb14 hg14 hl14
     cases h5 : inB 0 90 l.save
     ·
      refine EL.callg rfl rfl (cA3 cF39 rfl rfl rfl) rfl (Za q14 h5) ?_
      rintro e w15 ⟨rfl, hc15⟩
      refine ⟨_, rfl, ?_⟩;replace q1 := q1.bl hc15;replace q2 := q2.bl hc15;replace q5 := q5.bl hc15;replace q8 := q8.bl hc15;replace q11 := q11.bl hc15;replace q14 := q14.bl hc15;replace hbw := bo_ hbw hc15;clear hc15;refine EL.valg rfl rfl (ZX rfl) rfl (EL.pf rfl rfl rfl (EL.nil (EX.seq (EC.yes rfl (EC.seq (EC.region (EL.as rfl rfl (EL.nil (EX.seq ?_)))))))));refine EC.ret (EX.seq_ret ?_)
      exact EX.done (res1 rfl rfl) ⟨by congr 2; simp [lkB, *], hbw⟩
     ·
      refine EL.callg rfl rfl (cA3 cF39 rfl rfl rfl) rfl (Za q14 h5) ?_
      rintro e w16 ⟨rfl, hc16⟩
      refine ⟨_, rfl, ?_⟩;replace q1 := q1.bl hc16;replace q2 := q2.bl hc16;replace q5 := q5.bl hc16;replace q8 := q8.bl hc16;replace q11 := q11.bl hc16;replace q14 := q14.bl hc16;replace hbw := bo_ hbw hc16;clear hc16;refine EL.valg rfl rfl (ZX rfl) rfl (EL.pf rfl rfl rfl (EL.nil (EX.seq (EC.no rfl (EC.skip (EX.seq (EC.seq (EC.region (EL.as rfl rfl ?_)))))))));refine EL.nil (EX.seq (EC.ret ?_))
      exact EX.done (res1 rfl rfl) ⟨by congr 2; simp [lkB, *], hbw⟩
theorem QEm (l : LK) (x : TW) (b : Nat) (w : World) (hp : w.cell? ⟨b, 0, none⟩ = some (.int .i64 l.length)) (hl : 1 ≤ l.length ∧ l.length ≤ 500) : Calls Try.prog 59 #[.agg #[.bool x.up, .int .i64 x.arrive, .int .i64 x.length, .int .i64 x.weight, .int .i64 x.push], .pointer (some ⟨b, 0, none⟩)] w fun e w' => e = .returned (.bool (!twB l x)) ∧ Below w.heap.size w w' := by
 obtain ⟨hl1, hl2⟩ := hl;have hbw := Below.refl w.heap.size w;refine EC.enter 33 Try.func59 rfl rfl rfl (EC.seq (EC.region (EL.newP (QKT rfl) rfl ?_)));intro g1 w1 q1 hb1 hg1 hl1;have bhbw_1 := Nat.le_trans hbw.size hg1;replace hbw := bo_ hbw hb1;clear hb1 hg1 hl1;refine EL.as rfl rfl (EL.nil (EX.seq (EC.seq (EC.region (EL.val (QBs rfl) rfl (EL.val (ld_3 rfl (q1.at (j := 1) rfl)) rfl (EL.newS (YF rfl) rfl ?_)))))));intro g2 w2 q2 hb2 hg2 hl2;have n1_2 := q1.na hg2;have bhbw_2 := Nat.le_trans hbw.size hg2;replace q1 := q1.bl hb2;replace hbw := bo_ hbw hb2;clear hb2 hg2 hl2
 cases h1 : inB 0 100000 x.arrive
 ·
  refine EL.call (cA3 cF39 rfl rfl rfl) rfl (Za q2 h1) ?_
  rintro e w3 ⟨rfl, hc3⟩
  refine ⟨_, rfl, ?_⟩;replace q1 := q1.bl hc3;replace q2 := q2.bl hc3;replace hbw := bo_ hbw hc3;clear hc3;refine EL.val (ZX rfl) rfl (EL.mv rfl rfl (EL.skip rfl rfl rfl rfl (EL.skip rfl rfl rfl rfl (EL.skip rfl rfl rfl rfl (EL.skip rfl rfl rfl rfl (EL.skip rfl rfl rfl rfl (EL.skip rfl rfl rfl rfl (EL.skip rfl rfl rfl rfl (EL.skip rfl rfl rfl rfl ?_)))))))));refine EL.pt rfl rfl rfl (EL.mv rfl rfl (EL.skip rfl rfl rfl rfl (EL.skip rfl rfl rfl rfl (EL.skip rfl rfl rfl rfl (EL.skip rfl rfl rfl rfl (EL.skip rfl rfl rfl rfl (EL.pt rfl rfl rfl (EL.mv rfl rfl (EL.skip rfl rfl rfl rfl ?_)))))))));refine EL.skip rfl rfl rfl rfl (EL.skip rfl rfl rfl rfl (EL.skip rfl rfl rfl rfl (EL.skip rfl rfl rfl rfl (EL.pt rfl rfl rfl (EL.as rfl rfl (EL.nil (EX.seq (EC.ret ?_))))))))
  exact EX.done (res1 rfl rfl) ⟨by congr 2; simp [twB, *], hbw⟩
 ·
  refine EL.call (cA3 cF39 rfl rfl rfl) rfl (Za q2 h1) ?_
  rintro e w4 ⟨rfl, hc4⟩
  refine ⟨_, rfl, ?_⟩;replace q1 := q1.bl hc4;replace q2 := q2.bl hc4;replace hbw := bo_ hbw hc4;clear hc4;refine EL.val (ZX rfl) rfl (EL.mv rfl rfl (EL.valg rfl rfl (QA9 rfl) rfl (EL.valg rfl rfl (ld_3 rfl (ZC hbw hp)) rfl ?_)));refine EL.valg rfl rfl (QAY rfl rfl (by first | assumption | exact IntWalk.i64_in _ ⟨by omega, by omega⟩)) rfl ?_
  refine EL.valg rfl rfl (QH9 rfl) rfl (EL.valg rfl rfl (ld_3 rfl (q1.at (j := 2) rfl)) rfl (EL.newSg rfl rfl (YF rfl) rfl ?_));intro g5 w5 q5 hb5 hg5 hl5;have n1_5 := q1.na hg5;have n2_5 := q2.na hg5;have bhbw_5 := Nat.le_trans hbw.size hg5;replace q1 := q1.bl hb5;replace q2 := q2.bl hb5;replace hbw := bo_ hbw hb5;clear hb5 hg5 hl5
  cases h2 : inB 1 (3 * l.length) x.length
  ·
   refine EL.callg rfl rfl (cA3 cF39 rfl rfl rfl) rfl (Za q5 h2) ?_
   rintro e w6 ⟨rfl, hc6⟩
   refine ⟨_, rfl, ?_⟩;replace q1 := q1.bl hc6;replace q2 := q2.bl hc6;replace q5 := q5.bl hc6;replace hbw := bo_ hbw hc6;clear hc6;refine EL.valg rfl rfl (ZX rfl) rfl (EL.pf rfl rfl rfl (EL.mv rfl rfl (EL.skip rfl rfl rfl rfl (EL.skip rfl rfl rfl rfl (EL.skip rfl rfl rfl rfl (EL.skip rfl rfl rfl rfl (EL.skip rfl rfl rfl rfl (EL.pt rfl rfl rfl (EL.mv rfl rfl ?_)))))))));refine EL.skip rfl rfl rfl rfl (EL.skip rfl rfl rfl rfl (EL.skip rfl rfl rfl rfl (EL.skip rfl rfl rfl rfl (EL.skip rfl rfl rfl rfl (EL.pt rfl rfl rfl (EL.as rfl rfl (EL.nil (EX.seq (EC.ret ?_)))))))))
   exact EX.done (res1 rfl rfl) ⟨by congr 2; simp [twB, *], hbw⟩
  ·
   refine EL.callg rfl rfl (cA3 cF39 rfl rfl rfl) rfl (Za q5 h2) ?_
   rintro e w7 ⟨rfl, hc7⟩
   refine ⟨_, rfl, ?_⟩;replace q1 := q1.bl hc7;replace q2 := q2.bl hc7;replace q5 := q5.bl hc7;replace hbw := bo_ hbw hc7;clear hc7;refine EL.valg rfl rfl (ZX rfl) rfl (EL.pf rfl rfl rfl (EL.mv rfl rfl (EL.valg rfl rfl (QFh rfl) rfl (EL.valg rfl rfl (ld_3 rfl (q1.at (j := 3) rfl)) rfl (EL.newSg rfl rfl (YF rfl) rfl ?_)))));intro g8 w8 q8 hb8 hg8 hl8;have n1_8 := q1.na hg8;have n2_8 := q2.na hg8;have n5_8 := q5.na hg8;have bhbw_8 := Nat.le_trans hbw.size hg8;replace q1 := q1.bl hb8;replace q2 := q2.bl hb8;replace q5 := q5.bl hb8;replace hbw := bo_ hbw hb8;clear hb8 hg8 hl8
   cases h3 : inB 0 100 x.weight
   ·
    refine EL.callg rfl rfl (cA3 cF39 rfl rfl rfl) rfl (Za q8 h3) ?_
    rintro e w9 ⟨rfl, hc9⟩
    refine ⟨_, rfl, ?_⟩;replace q1 := q1.bl hc9;replace q2 := q2.bl hc9;replace q5 := q5.bl hc9;replace q8 := q8.bl hc9;replace hbw := bo_ hbw hc9;clear hc9;refine EL.valg rfl rfl (ZX rfl) rfl (EL.pf rfl rfl rfl (EL.mv rfl rfl (EL.skip rfl rfl rfl rfl (EL.skip rfl rfl rfl rfl (EL.skip rfl rfl rfl rfl (EL.skip rfl rfl rfl rfl (EL.skip rfl rfl rfl rfl (EL.pt rfl rfl rfl (EL.as rfl rfl ?_)))))))));refine EL.nil (EX.seq (EC.ret ?_))
    exact EX.done (res1 rfl rfl) ⟨by congr 2; simp [twB, *], hbw⟩
   ·
    refine EL.callg rfl rfl (cA3 cF39 rfl rfl rfl) rfl (Za q8 h3) ?_
    rintro e w10 ⟨rfl, hc10⟩
    refine ⟨_, rfl, ?_⟩;replace q1 := q1.bl hc10;replace q2 := q2.bl hc10;replace q5 := q5.bl hc10;replace q8 := q8.bl hc10;replace hbw := bo_ hbw hc10;clear hc10;refine EL.valg rfl rfl (ZX rfl) rfl (EL.pf rfl rfl rfl (EL.mv rfl rfl (EL.valg rfl rfl (QFg rfl) rfl (EL.valg rfl rfl (ld_3 rfl (q1.at (j := 4) rfl)) rfl (EL.newSg rfl rfl (YF rfl) rfl ?_)))));intro g11 w11 q11 hb11 hg11 hl11;have n1_11 := q1.na hg11;have n2_11 := q2.na hg11;have n5_11 := q5.na hg11;have n8_11 := q8.na hg11;have bhbw_11 := Nat.le_trans hbw.size hg11;replace q1 := q1.bl hb11;replace q2 := q2.bl hb11;replace q5 := q5.bl hb11;replace q8 := q8.bl hb11;replace hbw := bo_ hbw hb11;clear hb11 hg11 hl11
    cases h4 : inB 0 100000 x.push
    ·
     refine EL.callg rfl rfl (cA3 cF39 rfl rfl rfl) rfl (Za q11 h4) ?_
     rintro e w12 ⟨rfl, hc12⟩
     refine ⟨_, rfl, ?_⟩;replace q1 := q1.bl hc12;replace q2 := q2.bl hc12;replace q5 := q5.bl hc12;replace q8 := q8.bl hc12;replace q11 := q11.bl hc12;replace hbw := bo_ hbw hc12;clear hc12;refine EL.valg rfl rfl (ZX rfl) rfl (EL.pf rfl rfl rfl (EL.as rfl rfl (EL.nil (EX.seq (EC.ret ?_)))))
     exact EX.done (res1 rfl rfl) ⟨by congr 2; simp [twB, *], hbw⟩
    ·
     refine EL.callg rfl rfl (cA3 cF39 rfl rfl rfl) rfl (Za q11 h4) ?_
     rintro e w13 ⟨rfl, hc13⟩
     refine ⟨_, rfl, ?_⟩;replace q1 := q1.bl hc13;replace q2 := q2.bl hc13;replace q5 := q5.bl hc13;replace q8 := q8.bl hc13;replace q11 := q11.bl hc13;replace hbw := bo_ hbw hc13;clear hc13;refine EL.valg rfl rfl (ZX rfl) rfl (EL.pf rfl rfl rfl (EL.as rfl rfl (EL.nil (EX.seq (EC.ret ?_)))))
     exact EX.done (res1 rfl rfl) ⟨by congr 2; simp [twB, *], hbw⟩
theorem QD2 (x y : Bd) (w : World) (h1 : -1000000000000000 ≤ x.lo ∧ x.lo ≤ 1000000000000000) (h2 : -1000000000000000 ≤ x.hi ∧ x.hi ≤ 1000000000000000) (h3 : -1000000000000000 ≤ y.lo ∧ y.lo ≤ 1000000000000000) (h4 : -1000000000000000 ≤ y.hi ∧ y.hi ≤ 1000000000000000) : Calls Try.prog 50 #[.agg #[.int .i64 x.lo, .int .i64 x.hi], .agg #[.int .i64 y.lo, .int .i64 y.hi]] w fun e w' => e = .returned (.agg #[.int .i64 (plusB x y).lo, .int .i64 (plusB x y).hi]) ∧ Below w.heap.size w w' := by
 have hbw := Below.refl w.heap.size w;refine EC.enter 16 Try.func50 rfl rfl rfl (EC.seq (EC.region (EL.newP (QGo rfl) rfl ?_)));intro g1 w1 q1 hb1 hg1 hl1;have bhbw_1 := Nat.le_trans hbw.size hg1;replace hbw := bo_ hbw hb1;clear hb1 hg1 hl1;refine EL.newP (QGo rfl) rfl ?_;intro g2 w2 q2 hb2 hg2 hl2;have n1_2 := q1.na hg2;have bhbw_2 := Nat.le_trans hbw.size hg2;replace q1 := q1.bl hb2;replace hbw := bo_ hbw hb2;clear hb2 hg2 hl2;refine EL.newP QIP rfl ?_;intro g3 w3 q3 hb3 hg3 hl3;have n1_3 := q1.na hg3;have n2_3 := q2.na hg3;have bhbw_3 := Nat.le_trans hbw.size hg3;replace q1 := q1.bl hb3;replace q2 := q2.bl hb3;replace hbw := bo_ hbw hb3;clear hb3 hg3 hl3;refine EL.nil (EX.seq (EC.seq (EC.region (EL.val (YE rfl) rfl (EL.val (ld_3 rfl (q1.at (j := 0) rfl)) rfl (EL.val (YE rfl) rfl (EL.val (ld_3 rfl (q2.at (j := 0) rfl)) rfl ?_)))))));refine EL.val (x_add rfl rfl (IntWalk.i64_in _ ⟨by omega, by omega⟩)) rfl ?_
 refine EL.val (YP rfl) rfl (EL.val (ld_3 rfl (q1.at (j := 1) rfl)) rfl (EL.val (YP rfl) rfl (EL.val (ld_3 rfl (q2.at (j := 1) rfl)) rfl ?_)));refine EL.val (x_add rfl rfl (IntWalk.i64_in _ ⟨by omega, by omega⟩)) rfl ?_
 refine EL.val (YM rfl rfl) rfl (EL.store rfl rfl q3 QDB rfl rfl rfl rfl ?_);intro w4 hq4 hg4;replace q1 := q1.gr hg4 n1_3;replace q2 := q2.gr hg4 n2_3;replace hbw := ZE hbw hg4 bhbw_3;replace q3 := hq4;clear hg4 hq4;refine EL.nil (EX.seq (EC.ret ?_))
 exact EX.done (QGH rfl rfl (QJj (q3.at (j := 0) rfl) (q3.at (j := 1) rfl))) ⟨rfl, hbw⟩
theorem QFS (x : Bd) (w : World) (h1 : -1000000000000000 ≤ x.lo ∧ x.lo ≤ 1000000000000000) (h2 : -1000000000000000 ≤ x.hi ∧ x.hi ≤ 1000000000000000) : Calls Try.prog 51 #[.agg #[.int .i64 x.lo, .int .i64 x.hi]] w fun e w' => e = .returned (.agg #[.int .i64 (oppB x).lo, .int .i64 (oppB x).hi]) ∧ Below w.heap.size w w' := by
 have hbw := Below.refl w.heap.size w;refine EC.enter 10 Try.func51 rfl rfl rfl (EC.seq (EC.region (EL.newP (QGo rfl) rfl ?_)));intro g1 w1 q1 hb1 hg1 hl1;have bhbw_1 := Nat.le_trans hbw.size hg1;replace hbw := bo_ hbw hb1;clear hb1 hg1 hl1;refine EL.newP QIP rfl ?_;intro g2 w2 q2 hb2 hg2 hl2;have n1_2 := q1.na hg2;have bhbw_2 := Nat.le_trans hbw.size hg2;replace q1 := q1.bl hb2;replace hbw := bo_ hbw hb2;clear hb2 hg2 hl2;refine EL.nil (EX.seq (EC.seq (EC.region (EL.val (YP rfl) rfl (EL.val (ld_3 rfl (q1.at (j := 1) rfl)) rfl ?_)))));refine EL.val (QLq rfl (IntWalk.i64_in _ ⟨by omega, by omega⟩)) rfl ?_
 refine EL.val (YE rfl) rfl (EL.val (ld_3 rfl (q1.at (j := 0) rfl)) rfl ?_);refine EL.val (QLq rfl (IntWalk.i64_in _ ⟨by omega, by omega⟩)) rfl ?_
 refine EL.val (YM rfl rfl) rfl (EL.store rfl rfl q2 QDB rfl rfl rfl rfl ?_);intro w3 hq3 hg3;replace q1 := q1.gr hg3 n1_2;replace hbw := ZE hbw hg3 bhbw_2;replace q2 := hq3;clear hg3 hq3;refine EL.nil (EX.seq (EC.ret ?_))
 exact EX.done (QGH rfl rfl (QJj (q2.at (j := 0) rfl) (q2.at (j := 1) rfl))) ⟨rfl, hbw⟩
theorem QMX {x : LT} (h : ltB x = true) : 0 ≤ (movT x).lo ∧ (movT x).lo ≤ (movT x).hi ∧ (movT x).hi ≤ 100000000 := by
 unfold ltB at h
 simp only [Bool.and_eq_true, Zy, QFx] at h
 obtain ⟨⟨h1, h2⟩, h3, h4, h5⟩ := h;have e1 : 0 ≤ x.fill * x.cyc.lo := Int.mul_nonneg h1 h3;have e2 : x.fill * x.cyc.lo ≤ x.fill * x.cyc.hi := Int.mul_le_mul_of_nonneg_left h4 h1;have e3 : x.fill * x.cyc.hi ≤ 1000000 * 100 := Int.mul_le_mul h2 h5 (by omega) (by omega)
 exact ⟨e1, e2, e3⟩
theorem QEv (x : LT) (w : World) (h : ltB x = true) : Calls Try.prog 52 #[.agg #[.int .i64 x.fill, .int .i64 x.cyc.lo, .int .i64 x.cyc.hi]] w fun e w' => e = .returned (.agg #[.int .i64 (movT x).lo, .int .i64 (movT x).hi]) ∧ Below w.heap.size w w' := by
 obtain ⟨m1, m2, m3⟩ := QMX h
 unfold movT at m1 m2 m3
 simp only at m1 m2 m3
 have hbw := Below.refl w.heap.size w;refine EC.enter 16 Try.func52 rfl rfl rfl (EC.seq (EC.region (EL.newP (QL5 rfl) rfl ?_)));intro g1 w1 q1 hb1 hg1 hl1;have bhbw_1 := Nat.le_trans hbw.size hg1;replace hbw := bo_ hbw hb1;clear hb1 hg1 hl1;refine EL.newP QIP rfl ?_;intro g2 w2 q2 hb2 hg2 hl2;have n1_2 := q1.na hg2;have bhbw_2 := Nat.le_trans hbw.size hg2;replace q1 := q1.bl hb2;replace hbw := bo_ hbw hb2;clear hb2 hg2 hl2;refine EL.nil (EX.seq (EC.seq (EC.region (EL.val (QDh rfl) rfl (EL.val (ld_3 rfl (q1.at (j := 0) rfl)) rfl (EL.val (QDg rfl) rfl (EL.val (YE rfl) rfl (EL.val (ld_3 rfl (q1.at (j := 1) rfl)) rfl ?_))))))));refine EL.val (QAY rfl rfl (IntWalk.i64_in _ ⟨by omega, by omega⟩)) rfl ?_
 refine EL.val (QDh rfl) rfl (EL.val (ld_3 rfl (q1.at (j := 0) rfl)) rfl (EL.val (QDg rfl) rfl (EL.val (YP rfl) rfl (EL.val (ld_3 rfl (q1.at (j := 2) rfl)) rfl ?_))));refine EL.val (QAY rfl rfl (IntWalk.i64_in _ ⟨by omega, by omega⟩)) rfl ?_
 refine EL.val (YM rfl rfl) rfl (EL.store rfl rfl q2 QDB rfl rfl rfl rfl ?_);intro w3 hq3 hg3;replace q1 := q1.gr hg3 n1_2;replace hbw := ZE hbw hg3 bhbw_2;replace q2 := hq3;clear hg3 hq3;refine EL.nil (EX.seq (EC.ret ?_))
 exact EX.done (QGH rfl rfl (QJj (q2.at (j := 0) rfl) (q2.at (j := 1) rfl))) ⟨rfl, hbw⟩
/-- how far a plan was carried out: the lock (high: its level now), the water, the movements, when it is free, how many tows of each direction were taken, the cost -/
structure ST where
 lk : LK
 up : Int
 lo : Int
 ch : Int
 ba : Int
 mv : Int
 fr : Int
 t0 : Nat
 t1 : Nat
 cost : Int
def lk0 : LK := ⟨0, 0, 0, 0, 0, false⟩
def st0 : ST := ⟨lk0, 0, 0, 0, 0, 0, 0, 0, 0, 0⟩
def lkC (l : LK) : List Value := [.int .i64 l.length, .int .i64 l.cycle, .int .i64 l.turn, .int .i64 l.fill, .int .i64 l.save, .bool l.high]
def stC (s : ST) : List Value := [.int .i64 s.lk.length, .int .i64 s.lk.cycle, .int .i64 s.lk.turn, .int .i64 s.lk.fill, .int .i64 s.lk.save, .bool s.lk.high, .int .i64 s.up, .int .i64 s.lo, .int .i64 s.ch, .int .i64 s.ba, .int .i64 s.mv, .int .i64 s.fr, .int .i64 (s.t0 : Nat), .int .i64 (s.t1 : Nat), .int .i64 s.cost]
abbrev stB (s : ST) : Array Value := #[.int .i64 s.lk.length, .int .i64 s.lk.cycle, .int .i64 s.lk.turn, .int .i64 s.lk.fill, .int .i64 s.lk.save, .bool s.lk.high, .int .i64 s.up, .int .i64 s.lo, .int .i64 s.ch, .int .i64 s.ba, .int .i64 s.mv, .int .i64 s.fr, .int .i64 (s.t0 : Nat), .int .i64 (s.t1 : Nat), .int .i64 s.cost]
abbrev stA (s : ST) : Value := .agg (stB s)
def lkW (l : LK) (h : Bool) : LK := ⟨l.length, l.cycle, l.turn, l.fill, l.save, h⟩
def QCh (l : LK) : Int := (l.fill * l.save).tdiv 100
theorem QAT {l : LK} (h : lkB l = true) : (1 ≤ l.length ∧ l.length ≤ 500) ∧ (1 ≤ l.cycle ∧ l.cycle ≤ 500) ∧ (0 ≤ l.turn ∧ l.turn ≤ 500) ∧ (0 ≤ l.fill ∧ l.fill ≤ 1000000) ∧ (0 ≤ l.save ∧ l.save ≤ 90) := by
 unfold lkB at h
 simp only [Bool.and_eq_true, Zy] at h
 exact h
theorem QGd {l : LK} (h : lkB l = true) : 0 ≤ l.fill * l.save ∧ l.fill * l.save ≤ 90000000 := by
 obtain ⟨_, _, _, h4, h5⟩ := QAT h;have e1 : 0 ≤ l.fill * l.save := Int.mul_nonneg h4.1 h5.1;have e2 : l.fill * l.save ≤ 1000000 * 90 := Int.mul_le_mul h4.2 h5.2 h5.1 (by omega)
 exact ⟨e1, e2⟩
theorem QFc {l : LK} (h : lkB l = true) : 0 ≤ QCh l ∧ QCh l ≤ l.fill := by
 obtain ⟨_, _, _, h4, h5⟩ := QAT h;obtain ⟨e1, e2⟩ := QGd h;have e3 : l.fill * l.save ≤ l.fill * 100 := Int.mul_le_mul_of_nonneg_left (by omega) h4.1
 unfold QCh
 rw [Int.tdiv_eq_ediv_of_nonneg e1]
 omega
/-- the chamber is moved to the other level -/
def mvS (s : ST) : ST :=
 if s.lk.high = true then ⟨lkW s.lk false, s.up, s.lo + s.lk.fill - QCh s.lk, s.ch - s.lk.fill, s.ba + QCh s.lk, s.mv + 1, s.fr, s.t0, s.t1, s.cost⟩
 else ⟨lkW s.lk true, s.up - s.lk.fill + s.ba, s.lo, s.ch + s.lk.fill, 0, s.mv + 1, s.fr, s.t0, s.t1, s.cost⟩
def mvN : Nat → ST → ST
 | 0, s => s
 | n + 1, s => mvS (mvN n s)
theorem QJ2 (l : LK) (a : Bool) : QCh (lkW l a) = QCh l := rfl
/-- the numbers of a state lie within a bound; the basins hold nothing when the chamber is full -/
structure WtB (K : Int) (s : ST) : Prop where
 up : -K ≤ s.up ∧ s.up ≤ K
 lo : -K ≤ s.lo ∧ s.lo ≤ K
 ch : -K ≤ s.ch ∧ s.ch ≤ K
 mv : 0 ≤ s.mv ∧ s.mv ≤ K
 ba : 0 ≤ s.ba ∧ s.ba ≤ QCh s.lk
 hb : s.lk.high = true → s.ba = 0
theorem WtB.mono {K M : Int} {s : ST} (h : WtB K s) (hk : K ≤ M) : WtB M s := ⟨by have := h.up; omega, by have := h.lo; omega, by have := h.ch; omega, by have := h.mv; omega, h.ba, h.hb⟩
theorem QC4 (s : ST) : (mvS s).lk = lkW s.lk (!s.lk.high) := by
 unfold mvS
 split
 ·rename_i h; rw [h]; rfl
 ·rename_i h; rw [Bool.not_eq_true] at h; rw [h]; rfl
theorem QHq {K : Int} {s : ST} (h : WtB K s) (hl : lkB s.lk = true) : WtB (K + 1000000) (mvS s) := by
 obtain ⟨u, l, c, m, b, hb⟩ := h;obtain ⟨_, _, _, h4, h5⟩ := QAT hl;have k := QFc hl
 unfold mvS
 split
 ·rename_i hh
  have := hb hh
  exact ⟨by simp only; omega, by simp only; omega, by simp only; omega, by simp only; omega, by simp only [QJ2]; omega, fun h => by cases h⟩
 ·rename_i hh
  exact ⟨by simp only; omega, by simp only; omega, by simp only; omega, by simp only; omega, by simp only [QJ2]; omega, fun _ => rfl⟩
theorem QAR (s : ST) : (mvS s).fr = s.fr ∧ (mvS s).t0 = s.t0 ∧ (mvS s).t1 = s.t1 ∧ (mvS s).cost = s.cost := by
 unfold mvS
 split <;> exact ⟨rfl, rfl, rfl, rfl⟩
theorem QFV (n : Nat) (s : ST) : ∃ h, (mvN n s).lk = lkW s.lk h := by
 induction n with
 | zero => exact ⟨s.lk.high, rfl⟩
 | succ n ih =>
  obtain ⟨h, e⟩ := ih
  exact ⟨!(mvN n s).lk.high, by rw [mvN, QC4, e]; rfl⟩
theorem QD7 (n : Nat) (s : ST) : (mvN n s).fr = s.fr ∧ (mvN n s).t0 = s.t0 ∧ (mvN n s).t1 = s.t1 ∧ (mvN n s).cost = s.cost := by
 induction n with
 | zero => exact ⟨rfl, rfl, rfl, rfl⟩
 | succ n ih =>
  obtain ⟨a, b, c, d⟩ := QAR (mvN n s);obtain ⟨a2, b2, c2, d2⟩ := ih
  exact ⟨a.trans a2, b.trans b2, c.trans c2, d.trans d2⟩
theorem QFU {n : Nat} {s : ST} (hl : lkB s.lk = true) : lkB (mvN n s).lk = true := by
 obtain ⟨h, e⟩ := QFV n s;rw [e]
 exact hl
theorem QGV {K : Int} {s : ST} (h : WtB K s) (hl : lkB s.lk = true) (n : Nat) : WtB (K + 1000000 * n) (mvN n s) := by
 induction n with
 | zero => exact h.mono (by omega)
 | succ n ih => exact (QHq ih (QFU hl)).mono (by omega)
/-! ### Sums over tows -/
def sumF (f : TW → Int) (l : List TW) : Int := (l.map f).sum
theorem Z1 {α : Type} {l : List α} {d : α} {k : Nat} (hk : k < l.length) : l.take (k + 1) = l.take k ++ [l.getD k d] := by
 rw [Zg hk]
 exact List.take_succ_eq_append_getElem hk
theorem QEp (f : TW → Int) (l : List TW) (x : TW) : sumF f (l ++ [x]) = sumF f l + f x := by simp [sumF]
theorem QIX {f : TW → Int} {l : List TW} {k : Nat} (hk : k < l.length) : sumF f (l.take (k + 1)) = sumF f (l.take k) + f (l.getD k tw0) := by rw [Z1 hk, QEp]
theorem QBk {f : TW → Int} {a b : Int} : ∀ {l : List TW}, (∀ x ∈ l, a ≤ f x ∧ f x ≤ b) → a * l.length ≤ sumF f l ∧ sumF f l ≤ b * l.length
 | [], _ => by simp [sumF]
 | x :: l, h => by
  obtain ⟨h1, h2⟩ := h x (List.mem_cons_self ..);obtain ⟨h3, h4⟩ := QBk (l := l) fun y hy => h y (List.mem_cons_of_mem _ hy)
  have e : sumF f (x :: l) = f x + sumF f l := by simp [sumF]
  rw [e];have e1 : a * ((x :: l).length : Nat) = a * (l.length : Nat) + a := by rw [List.length_cons, Int.natCast_add, Int.mul_add]; simp
  have e2 : b * ((x :: l).length : Nat) = b * (l.length : Nat) + b := by rw [List.length_cons, Int.natCast_add, Int.mul_add]; simp
  rw [e1, e2]
  omega
def arrT (l : List TW) : Int := l.foldl (fun a t => max a t.arrive) 0
theorem QIy (l : List TW) (x : TW) : arrT (l ++ [x]) = max (arrT l) x.arrive := by simp [arrT]
theorem QIx {l : List TW} {k : Nat} (hk : k < l.length) : arrT (l.take (k + 1)) = max (arrT (l.take k)) (l.getD k tw0).arrive := by rw [Z1 hk, QIy]
theorem QET {b : Int} : ∀ {l : List TW} {a : Int}, a ≤ b → (∀ x ∈ l, x.arrive ≤ b) → a ≤ l.foldl (fun a t => max a t.arrive) a ∧ l.foldl (fun a t => max a t.arrive) a ≤ b
 | [], a, h, _ => ⟨Int.le_refl _, h⟩
 | x :: l, a, h, hl => by
  have := QET (l := l) (a := max a x.arrive) (b := b) (by have := hl x (List.mem_cons_self ..); omega) fun y hy => hl y (List.mem_cons_of_mem _ hy)
  rw [List.foldl_cons]
  omega
theorem QIM {l : List TW} {b : Int} (h0 : 0 ≤ b) (h : ∀ x ∈ l, x.arrive ≤ b) : 0 ≤ arrT l ∧ arrT l ≤ b := QET h0 h
theorem QHL : ∀ {l : List TW} {a : Int} {x : TW}, x ∈ l → x.arrive ≤ l.foldl (fun a t => max a t.arrive) a
 | y :: l, a, x, h => by
  rw [List.foldl_cons]
  rcases List.mem_cons.1 h with rfl | h
  ·have hb : ∀ z ∈ l, z.arrive ≤ (l.foldl (fun a t => max a t.arrive) (max a x.arrive)) := fun z hz => QHL hz
   have := (QET (l := l) (a := max a x.arrive) (b := max (max a x.arrive) (l.foldl (fun a t => max a t.arrive) (max a x.arrive))) (Int.le_max_left _ _) fun z hz => Int.le_trans (hb z hz) (Int.le_max_right _ _)).1
   omega
  ·exact QHL h
theorem QLm {l : List TW} {x : TW} (h : x ∈ l) : x.arrive ≤ arrT l := QHL h
def Zq (l : List TW) : Int := sumF (·.length) l
def QCV (l : List TW) : Int := sumF (·.push) l
def QCq (e : Int) (l : List TW) : Int := sumF (fun t => t.weight * (e - t.arrive)) l
/-- in how many parts a length is taken -/
def Z3 (long L : Int) : Nat := ((long + L - 1) / L).toNat
theorem QCW {long L : Int} (hL : 0 < L) (j : Nat) : ((j : Int) * L < long) ↔ j < Z3 long L := by
 unfold Z3
 have e : ((j : Int) + 1 ≤ (long + L - 1) / L) ↔ ((j : Int) + 1) * L ≤ long + L - 1 := Int.le_ediv_iff_mul_le hL;rw [Int.add_mul, Int.one_mul] at e
 constructor
 ·intro h
  have := e.2 (by omega)
  omega
 ·intro h
  have := e.1 (by omega)
  omega
theorem QJY {long L : Int} (hL : 0 < L) {n : Nat} (h : long ≤ n * L) : Z3 long L ≤ n := by
 by_cases h2 : n < Z3 long L
 ·have := (QCW (long := long) hL n).2 h2
  omega
 ·omega
theorem QEs {long L : Int} (hL : 0 < L) (h : 0 < long) : 0 < Z3 long L := (QCW hL 0).1 (by simpa using h)
/-! ### Tows are taken -/
def sgB (u : Bool) : Int := if u = true then 1 else -1
def wyB (u : Bool) : Int := if u = true then 1 else 0
def Zr (s : ST) (u : Bool) : ST := if s.lk.high = u then { mvS s with fr := (mvS s).fr + (mvS s).lk.turn } else s
def runT (s : ST) (ts : List TW) (u : Bool) : RN :=
 let a := max (Zr s u).fr (arrT ts)
 ⟨a, a - s.lk.turn + Z3 (Zq ts) s.lk.length * (s.lk.turn + s.lk.cycle)⟩
def fitB (L : Int) (ts : List TW) : Bool := !(decide (1 < ts.length) && decide (L < Zq ts))
/-- the state while the first k tows go out -/
def outS (s : ST) (ts : List TW) (u : Bool) (e : Int) : ST := { s with cost := s.cost + QCq e ts, up := s.up - sgB u * QCV ts, lo := s.lo + sgB u * QCV ts }
def endS (s : ST) (n : Nat) (u : Bool) (e : Int) : ST := { s with fr := e, t0 := if u = true then s.t0 else s.t0 + n, t1 := if u = true then s.t1 + n else s.t1 }
def midS (s : ST) (ts : List TW) (u : Bool) : ST := mvN (2 * Z3 (Zq ts) s.lk.length - 1) (Zr s u)
def tkS (s : ST) (ts : List TW) (u : Bool) : ST := endS (outS (midS s ts u) ts u (runT s ts u).stop) ts.length u (runT s ts u).stop
theorem QGO (s : ST) (u : Bool) (e : Int) : outS s [] u e = s := by
 cases s
 simp [outS, QCq, QCV, sumF]
theorem QEt (s : ST) (ts : List TW) (x : TW) (u : Bool) (e : Int) : outS s (ts ++ [x]) u e = { outS s ts u e with cost := (outS s ts u e).cost + x.weight * (e - x.arrive), up := (outS s ts u e).up - x.push * (2 * wyB u - 1), lo := (outS s ts u e).lo + x.push * (2 * wyB u - 1) } := by
 have h : sgB u = 2 * wyB u - 1 := by cases u <;> rfl
 simp only [outS, QCq, QCV, QEp, h, ST.mk.injEq, true_and, and_true, Int.mul_add, Int.mul_comm x.push]
 omega
/-- the bounds of a state that has taken T tows -/
structure StOk (l : LK) (s : ST) : Prop where
 lk : s.lk = lkW l s.lk.high
 ok : lkB l = true
 wt : WtB (10000000 * (s.t0 + s.t1 : Nat)) s
 fr : 0 ≤ s.fr ∧ s.fr ≤ 100000 + 4000 * (s.t0 + s.t1 : Nat)
 cost : 0 ≤ s.cost ∧ s.cost ≤ 14000000 * (s.t0 + s.t1 : Nat)
theorem StOk.okL {l : LK} {s : ST} (h : StOk l s) : lkB s.lk = true := by rw [h.lk]; exact h.ok
theorem QBA {l : LK} {t : TW} (h : twB l t = true) : (0 ≤ t.arrive ∧ t.arrive ≤ 100000) ∧ (1 ≤ t.length ∧ t.length ≤ 3 * l.length) ∧ (0 ≤ t.weight ∧ t.weight ≤ 100) ∧ (0 ≤ t.push ∧ t.push ≤ 100000) := by
 unfold twB at h
 simp only [Bool.and_eq_true, Zy] at h
 exact h
theorem QI5 (s : ST) (u : Bool) : (Zr s u).fr = if s.lk.high = u then s.fr + s.lk.turn else s.fr := by
 unfold Zr
 split
 ·show (mvS s).fr + (mvS s).lk.turn = _
  rw [(QAR s).1, QC4]
  rfl
 ·rfl
theorem QB7 (s : ST) (u : Bool) : (Zr s u).t0 = s.t0 ∧ (Zr s u).t1 = s.t1 ∧ (Zr s u).cost = s.cost := by
 unfold Zr
 split
 ·exact ⟨(QAR s).2.1, (QAR s).2.2.1, (QAR s).2.2.2⟩
 ·exact ⟨rfl, rfl, rfl⟩
theorem QCL (s : ST) (u : Bool) : (Zr s u).lk = lkW s.lk (!u) := by
 unfold Zr
 split
 ·rename_i h
  show (mvS s).lk = _
  rw [QC4, h]
 ·rename_i h
  rw [show (!u) = s.lk.high by cases u <;> cases hh : s.lk.high <;> simp_all]
  rfl
theorem QFE {K : Int} {s : ST} {u : Bool} (h : WtB K s) (hl : lkB s.lk = true) : WtB (K + 1000000) (Zr s u) := by
 unfold Zr
 split
 ·obtain ⟨a, b, c, d, e, f⟩ := QHq h hl
  exact ⟨a, b, c, d, e, f⟩
 ·exact h.mono (by omega)
theorem QFZ {l : LK} {ts : List TW} (h : ∀ t ∈ ts, twB l t = true) (hn : ts.length ≤ 8) (hl : lkB l = true) : (ts.length : Int) ≤ Zq ts ∧ Zq ts ≤ 12000 := by
 have := QBk (f := (·.length)) (l := ts) (a := 1) (b := 1500) fun t ht => by
  have h1 := (QBA (h t ht)).2.1;have h2 := (QAT hl).1
  omega
 unfold Zq
 omega
theorem QCX {l : LK} {ts : List TW} (h : ∀ t ∈ ts, twB l t = true) (hl : lkB l = true) (hf : fitB l.length ts = true) : Z3 (Zq ts) l.length ≤ 3 := by
 have h2 := (QAT hl).1;refine QJY (by omega) ?_
 unfold fitB at hf
 by_cases h1 : 1 < ts.length
 ·have : ¬l.length < Zq ts := fun h3 => by simp [h1, h3] at hf
  omega
 ·match ts, h1 with
  | [], _ => simp [Zq, sumF]; omega
  | [t], _ =>
   have := (QBA (h t (List.mem_cons_self ..))).2.1
   simp [Zq, sumF]
   omega
  | _ :: _ :: _, h1 => simp at h1
theorem QFM {l : LK} {s : ST} {ts : List TW} {u : Bool} (h : StOk l s) (ht : ∀ t ∈ ts, twB l t = true) (hf : fitB l.length ts = true) (h8 : s.t0 + s.t1 + ts.length ≤ 8) :
  (0 ≤ (Zr s u).fr ∧ (Zr s u).fr ≤ 133000) ∧ (0 ≤ arrT ts ∧ arrT ts ≤ 100000) ∧ (0 ≤ (runT s ts u).start ∧ (runT s ts u).start ≤ 100500 + 4000 * (s.t0 + s.t1 : Nat)) ∧ -500 ≤ (runT s ts u).stop ∧ (runT s ts u).stop ≤ 103500 + 4000 * (s.t0 + s.t1 : Nat) ∧ (0 < ts.length → arrT ts + l.cycle ≤ (runT s ts u).stop ∧ s.fr ≤ (runT s ts u).stop) := by
 obtain ⟨e1, e2, e3, e4, e5⟩ := QAT h.ok;have el : s.lk.length = l.length ∧ s.lk.turn = l.turn ∧ s.lk.cycle = l.cycle := by rw [h.lk]; exact ⟨rfl, rfl, rfl⟩
 have hp := QCX ht h.ok hf;have ha := QIM (l := ts) (b := 100000) (by omega) fun t hm => (QBA (ht t hm)).1.2
 have hfr := h.fr;have hT := QI5 s u;have hlo := QFZ ht (by omega) h.ok
 have hpp : 0 < ts.length → 0 < Z3 (Zq ts) l.length := fun h0 => QEs (by omega) (by omega)
 have hm : (Z3 (Zq ts) l.length : Int) * (l.turn + l.cycle) ≤ 3 * 1000 := Int.mul_le_mul (by omega) (by omega) (by omega) (by omega)
 have hm0 : 0 ≤ (Z3 (Zq ts) l.length : Int) * (l.turn + l.cycle) := Int.mul_nonneg (by omega) (by omega)
 have hm1 : 0 < ts.length → l.turn + l.cycle ≤ (Z3 (Zq ts) l.length : Int) * (l.turn + l.cycle) := fun h0 => by
  have := Int.mul_le_mul_of_nonneg_right (a := 1) (b := (Z3 (Zq ts) l.length : Int)) (c := l.turn + l.cycle) (by have := hpp h0; omega) (by omega)
  omega
 unfold runT
 simp only [el.1, el.2.1, el.2.2]
 refine ⟨?_, ha, ?_⟩
 ·split at hT <;> omega
 ·split at hT
  ·refine ⟨by omega, by omega, by omega, fun h0 => ?_⟩
   have := hm1 h0
   omega
  ·refine ⟨by omega, by omega, by omega, fun h0 => ?_⟩
   have := hm1 h0
   omega
/-! ### In the walk -/
def stV (s : ST) : Value := .agg (stC s).toArray
def rnV (r : RN) : Value := .agg #[.int .i64 r.start, .int .i64 r.stop]
theorem QHp {s : ST} (h : lkB s.lk = true) : lkB (mvS s).lk = true := by rw [QC4]; exact h
theorem QJX {l : LK} {ts : List TW} (h : ∀ t ∈ ts, twB l t = true) (h8 : ts.length ≤ 8) (hl : lkB l = true) (k : Nat) : (0 ≤ Zq (ts.take k) ∧ Zq (ts.take k) ≤ 12000) ∧ 0 ≤ arrT (ts.take k) ∧ arrT (ts.take k) ≤ 100000 := by
 have h1 : ∀ t ∈ ts.take k, twB l t = true := fun t ht => h t (List.mem_of_mem_take ht)
 have h2 : (ts.take k).length ≤ 8 := by rw [List.length_take]; omega
 have := QFZ h1 h2 hl;have := QIM (l := ts.take k) (b := 100000) (by omega) fun t ht => (QBA (h1 t ht)).1.2
 omega
theorem QMU {a d A D : Int} (h0 : 0 ≤ a) (h1 : a ≤ A) (h2 : -D ≤ d) (h3 : d ≤ D) (hD : 0 ≤ D) : -(A * D) ≤ a * d ∧ a * d ≤ A * D := by
 have e1 : a * d ≤ a * D := Int.mul_le_mul_of_nonneg_left h3 h0;have e2 : a * D ≤ A * D := Int.mul_le_mul_of_nonneg_right h1 hD;have e3 : a * (-D) ≤ a * d := Int.mul_le_mul_of_nonneg_left h2 h0;rw [Int.mul_neg] at e3
 omega
theorem QFk {l : LK} {t : TW} {e : Int} (h : twB l t = true) (he : -500 ≤ e ∧ e ≤ 200000) : -30000000 ≤ t.weight * (e - t.arrive) ∧ t.weight * (e - t.arrive) ≤ 30000000 := by
 obtain ⟨h1, _, h3, _⟩ := QBA h;have := QMU (a := t.weight) (d := e - t.arrive) (A := 100) (D := 300000) h3.1 h3.2 (by omega) (by omega) (by omega)
 omega
theorem QHg {l : LK} {t : TW} (u : Bool) (h : twB l t = true) : -100000 ≤ t.push * (2 * wyB u - 1) ∧ t.push * (2 * wyB u - 1) ≤ 100000 := by
 obtain ⟨_, _, _, h4⟩ := QBA h
 cases u
 ·simp only [wyB]
  simp only [Bool.false_eq_true, if_false]
  omega
 ·simp only [wyB, if_true]
  omega
theorem QI3 (u : Bool) : 0 ≤ wyB u ∧ wyB u ≤ 1 := by cases u <;> decide
theorem QJb {l : LK} {ts : List TW} {M : ST} {K e : Int} (u : Bool) (hM : WtB K M) (h : ∀ t ∈ ts, twB l t = true) (h8 : ts.length ≤ 8) (he : -500 ≤ e ∧ e ≤ 200000) (k : Nat) :
  (-(K + 800000) ≤ (outS M (ts.take k) u e).up ∧ (outS M (ts.take k) u e).up ≤ K + 800000) ∧ (-(K + 800000) ≤ (outS M (ts.take k) u e).lo ∧ (outS M (ts.take k) u e).lo ≤ K + 800000) ∧ M.cost - 240000000 ≤ (outS M (ts.take k) u e).cost ∧ (outS M (ts.take k) u e).cost ≤ M.cost + 240000000 := by
 have h1 : ∀ t ∈ ts.take k, twB l t = true := fun t ht => h t (List.mem_of_mem_take ht)
 have h2 : (ts.take k).length ≤ 8 := by rw [List.length_take]; omega
 have c := QBk (f := fun t => t.weight * (e - t.arrive)) (l := ts.take k) (a := -30000000) (b := 30000000) fun t ht => QFk (h1 t ht) he
 have p := QBk (f := (·.push)) (l := ts.take k) (a := 0) (b := 100000) fun t ht => (QBA (h1 t ht)).2.2.2
 have mu := hM.up;have ml := hM.lo;have hs : sgB u = 1 ∨ sgB u = -1 := by cases u <;> simp [sgB]
 simp only [outS, QCq, QCV]
 rcases hs with hs | hs <;> rw [hs] <;> refine ⟨?_, ?_, ?_⟩ <;> omega
structure Dr where
 s : ST
 plan : List SP
def dr0 : Dr := ⟨st0, []⟩
def cmpI (a b : Int) : Int := if a < b then -1 else if b < a then 1 else 0
def orI : List Int → Int
 | [] => 0
 | x :: l => if x = 0 then orI l else x
def QBF (a b : SP) : Int := orI [cmpI (wyB a.up) (wyB b.up), cmpI a.tows b.tows]
def cmpL : List SP → List SP → Int
 | [], [] => 0
 | [], _ :: _ => -1
 | _ :: _, [] => 1
 | a :: x, b :: y => if QBF a b = 0 then cmpL x y else QBF a b
def cmpD (d e : Dr) : Int := orI [cmpI d.s.cost e.s.cost, cmpI d.s.mv e.s.mv, cmpL d.plan e.plan]
theorem QCo {α : Type} {l : List α} {d : α} {k : Nat} (hk : k < l.length) : l.drop k = l.getD k d :: l.drop (k + 1) := by
 rw [Zg hk]
 exact List.drop_eq_getElem_cons hk
theorem QJd {l : List Int} {k : Nat} (hk : k < l.length) : orI (l.drop k) = if l.getD k 0 = 0 then orI (l.drop (k + 1)) else l.getD k 0 := by
 rw [QCo (d := 0) hk]
 rfl
/-- a draft in memory -/
structure RdDr (w : World) (B : Nat) (v : Value) (d : Dr) : Prop where
 at_ : ∃ b sl, v = .pointer (some ⟨b, 0, none⟩) ∧ b < B ∧ (∀ j u, (stC d.s ++ [sl])[j]? = some u → w.cell? ⟨b, j, none⟩ = some u) ∧ Rd w B 2 sl d.plan.length (spsC d.plan)
theorem RdDr.below {w w' : World} {B : Nat} {v : Value} {d : Dr} (h : RdDr w B v d) (hb : Below B w w') : RdDr w' B v d := by
 obtain ⟨b, sl, e, hB, hc, hr⟩ := h.at_
 exact ⟨b, sl, e, hB, fun j u hu => (hb.cell hB).trans (hc j u hu), hr.below hb⟩
theorem RdDr.more {w : World} {B B' : Nat} {v : Value} {d : Dr} (h : RdDr w B v d) (hb : B ≤ B') : RdDr w B' v d := by
 obtain ⟨b, sl, e, hB, hc, hr⟩ := h.at_
 exact ⟨b, sl, e, Nat.lt_of_lt_of_le hB hb, hc, hr.more hb⟩
end Go.Proofs.Ytlbfnimilcnihaa
