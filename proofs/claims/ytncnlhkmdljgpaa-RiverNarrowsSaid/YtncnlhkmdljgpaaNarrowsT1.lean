/- EA, ExA, X0, RLift, W7, RLift2, RLift3, RLift4, W1, W2, W12: what RiverNarrowsProof needs of them (merged by trimpack.py). -/
import Derived.Deep.Quiet
import Derived.Tactics
import Derived.Scope
import Derived.IntWalk
import Derived.WalkKit
import Derived.Below
import Derived.Deep.LoopGhost
import Derived.Orders
import Derived.Laws.CopyRow
import Derived.Deep.Slices
import Derived.Deep.Fields
import Derived.ChangeSame
import Derived.Lib.SmallJoins
import Derived.OpenShut
import Derived.ShutString
import Derived.ChangeOld
import Derived.Test.YtncnlhkmdljgpaaBA
import Derived.Test.YtncnlhkmdljgpaaRows
import Derived.Test.YtncnlhkmdljgpaaV7
import Derived.Test.YtncnlhkmdljgpaaV16
import Derived.Test.YtncnlhkmdljgpaaV13
import Derived.Test.YtncnlhkmdljgpaaV15
import Derived.Test.YtncnlhkmdljgpaaV9
/- That the text's order serves every order of a drawn region: by masks, which the kernel reckons fast. -/
namespace Go.Proofs.Ytncnlhkmdljgpaa
open Go
def opM : List Operand → Nat
  | [] => 0
  | .tmp t :: l => Nat.lor (Nat.pow 2 t) (opM l)
  | _ :: l => opM l
def optM : Option Tmp → Nat
  | some d => Nat.pow 2 d
  | none => 0
/-- the dst of operation j -/
def dstOf : List Oper → Nat → Option Tmp
  | [], _ => none
  | o :: _, 0 => o.dst
  | _ :: l, j + 1 => dstOf l j
def grdM (L : List Oper) : Option (Nat × Bool) → Nat
  | some (g, _) => optM (dstOf L g)
  | none => 0
def nthO : List Oper → Nat → Option Oper
  | [], _ => none
  | o :: _, 0 => some o
  | _ :: l, j + 1 => nthO l j
def rdM (L : List Oper) (o : Oper) : Nat := Nat.lor (opM o.op.operands.toList) (grdM L o.guard)
def afM : List Edge → Nat
  | [] => 0
  | e :: l => bif Region.binds .any e then Nat.lor (Nat.pow 2 e.on) (afM l) else afM l
def noSel : Op → Bool
  | .select _ _ => false
  | _ => true
/-- p, which stands behind o (number k), waits for it or is apart from it -/
def pairQ (L : List Oper) (k : Nat) (o p : Oper) : Bool :=
  bif Nat.beq (Nat.land (afM p.after.toList) (Nat.pow 2 k)) 0 then
    bif Nat.beq (Nat.land (optM o.dst) (Nat.lor (rdM L p) (optM p.dst))) 0 then Nat.beq (Nat.land (optM p.dst) (rdM L o)) 0 else false
  else true
def prsQ (L : List Oper) (k : Nat) (o : Oper) : List Oper → Bool
  | [] => true
  | p :: l => bif pairQ L k o p then prsQ L k o l else false
/-- all that binds lies before k -/
def backQ (k : Nat) : List Edge → Bool
  | [] => true
  | e :: l => bif Region.binds .any e then (bif Nat.blt e.on k then backQ k l else false) else backQ k l
def lexQ (L : List Oper) : Nat → List Oper → Bool
  | _, [] => true
  | k, o :: l => bif noSel o.op then (bif backQ k o.after.toList then (bif prsQ L k o l then lexQ L (k + 1) l else false) else false) else false
theorem opM_mem : ∀ (l : List Operand) (t : Nat), Operand.tmp t ∈ l → (opM l).testBit t = true
  | [], _, h => by cases h
  | x :: l, t, h => by
    rcases List.mem_cons.1 h with rfl | h
    · show (2 ^ t ||| opM l).testBit t = true
      simp
    · have ih := opM_mem l t h
      cases x with
      | tmp s =>
        show (2 ^ s ||| opM l).testBit t = true
        simp [ih]
      | _ => exact ih
theorem optM_mem {x : Option Tmp} {t : Nat} (h : x = some t) : (optM x).testBit t = true := by
  subst h
  show (2 ^ t).testBit t = true
  simp
theorem dstOf_eq : ∀ (l : List Oper) (j : Nat), (l.toArray[j]?).bind (·.dst) = dstOf l j
  | [], j => by simp [dstOf]
  | o :: l, 0 => by simp [dstOf]
  | o :: l, j + 1 => by
    have := dstOf_eq l j
    simpa [dstOf] using this
theorem rdM_mem {L : List Oper} {o : Oper} {t : Nat} (h : t ∈ o.looksAt L.toArray) : (rdM L o).testBit t = true := by
  show (opM o.op.operands.toList ||| grdM L o.guard).testBit t = true
  rw [Nat.testBit_or, Bool.or_eq_true]
  unfold Oper.looksAt at h
  rcases List.mem_append.1 h with h | h
  · left
    obtain ⟨x, hx, he⟩ := List.mem_filterMap.1 h
    cases x <;> simp at he
    subst he
    exact opM_mem _ _ hx
  · right
    cases hg : o.guard with
    | none => simp [hg] at h
    | some gw =>
      obtain ⟨g, b⟩ := gw
      simp only [hg] at h
      rw [dstOf_eq] at h
      exact optM_mem (by simpa using h)
theorem land_zero {a b t : Nat} (h : Nat.beq (Nat.land a b) 0 = true) (ha : a.testBit t = true) (hb : b.testBit t = true) : False := by
  have h1 : a &&& b = 0 := Nat.eq_of_beq_eq_true h
  have h2 : (a &&& b).testBit t = true := by rw [Nat.testBit_and, ha, hb]; rfl
  rw [h1] at h2
  simp at h2
theorem apart_of {L : List Oper} {o p : Oper} (h1 : Nat.beq (Nat.land (optM o.dst) (Nat.lor (rdM L p) (optM p.dst))) 0 = true) (h2 : Nat.beq (Nat.land (optM p.dst) (rdM L o)) 0 = true) : o.apart L.toArray p = true := by
  have hor : ∀ (a b t : Nat), a.testBit t = true ∨ b.testBit t = true → (Nat.lor a b).testBit t = true := fun a b t h => by
    show (a ||| b).testBit t = true
    rw [Nat.testBit_or, Bool.or_eq_true]
    exact h
  unfold Oper.apart
  rw [Bool.and_eq_true]
  refine ⟨?_, ?_⟩
  · cases hd : o.dst with
    | none => rfl
    | some d =>
      rw [hd] at h1
      simp only [Bool.and_eq_true, Bool.not_eq_true', bne_iff_ne, ne_eq]
      refine ⟨?_, fun e => land_zero h1 (optM_mem rfl) (hor _ _ d (.inr (optM_mem e)))⟩
      rw [← Bool.not_eq_true]
      intro hc
      exact land_zero h1 (optM_mem rfl) (hor _ _ d (.inl (rdM_mem (by simpa using hc))))
  · cases hd : p.dst with
    | none => rfl
    | some d =>
      rw [hd] at h2
      simp only [Bool.not_eq_true']
      rw [← Bool.not_eq_true]
      intro hc
      exact land_zero h2 (optM_mem rfl) (rdM_mem (by simpa using hc))
theorem afM_bit : ∀ (l : List Edge) (k : Nat), (afM l).testBit k = true → ∃ e ∈ l, Region.binds .any e = true ∧ e.on = k
  | [], k, h => by simp [afM] at h
  | e :: l, k, h => by
    unfold afM at h
    cases hb : Region.binds .any e with
    | true =>
      rw [hb] at h
      have h' : (2 ^ e.on ||| afM l).testBit k = true := h
      rw [Nat.testBit_or, Bool.or_eq_true] at h'
      rcases h' with h' | h'
      · exact ⟨e, by simp, hb, by simpa [Nat.testBit_two_pow] using h'⟩
      · obtain ⟨e', h1, h2⟩ := afM_bit l k h'
        exact ⟨e', by simp [h1], h2⟩
    | false =>
      rw [hb] at h
      obtain ⟨e', h1, h2⟩ := afM_bit l k h
      exact ⟨e', by simp [h1], h2⟩
theorem pair_of {L : List Oper} {k : Nat} {o p : Oper} (h : pairQ L k o p = true) (hno : ∀ e ∈ p.after, Region.binds .any e = true → e.on ≠ k) : o.apart L.toArray p = true := by
  unfold pairQ at h
  cases h1 : Nat.beq (Nat.land (afM p.after.toList) (Nat.pow 2 k)) 0 with
  | false =>
    exfalso
    have h2 : (afM p.after.toList) &&& 2 ^ k ≠ 0 := Nat.ne_of_beq_eq_false h1
    have h3 : (afM p.after.toList).testBit k = true := by
      rw [← Bool.not_eq_false]
      intro hf
      refine h2 (Nat.eq_of_testBit_eq fun i => ?_)
      rw [Nat.testBit_and, Nat.testBit_two_pow]
      by_cases hi : k = i
      · subst hi; simp [hf]
      · simp [hi]
    obtain ⟨e, he, hb, hk⟩ := afM_bit _ _ h3
    exact hno e (by simpa using he) hb hk
  | true =>
    rw [h1] at h
    cases h2 : Nat.beq (Nat.land (optM o.dst) (Nat.lor (rdM L p) (optM p.dst))) 0 with
    | false => rw [h2] at h; cases h
    | true => rw [h2] at h; exact apart_of h2 h
theorem prs_of {L : List Oper} {k : Nat} {o : Oper} : ∀ {l : List Oper}, prsQ L k o l = true → ∀ p ∈ l, pairQ L k o p = true
  | [], _, _, h => by cases h
  | q :: l, h, p, hp => by
    unfold prsQ at h
    cases h1 : pairQ L k o q with
    | false => rw [h1] at h; cases h
    | true =>
      rw [h1] at h
      rcases List.mem_cons.1 hp with rfl | hp
      · exact h1
      · exact prs_of h p hp
theorem back_of {k : Nat} : ∀ {l : List Edge}, backQ k l = true → ∀ e ∈ l, Region.binds .any e = true → e.on < k
  | [], _, _, h, _ => by cases h
  | x :: l, h, e, he, hb => by
    unfold backQ at h
    cases h1 : Region.binds .any x with
    | true =>
      rw [h1] at h
      cases h2 : Nat.blt x.on k with
      | false => rw [h2] at h; cases h
      | true =>
        rw [h2] at h
        rcases List.mem_cons.1 he with rfl | he
        · simpa [Nat.blt_eq] using h2
        · exact back_of h e he hb
    | false =>
      rw [h1] at h
      rcases List.mem_cons.1 he with rfl | he
      · rw [h1] at hb; cases hb
      · exact back_of h e he hb
theorem lex_cons {L : List Oper} {k : Nat} {o : Oper} {l : List Oper} (h : lexQ L k (o :: l) = true) : noSel o.op = true ∧ backQ k o.after.toList = true ∧ prsQ L k o l = true ∧ lexQ L (k + 1) l = true := by
  unfold lexQ at h
  cases h1 : noSel o.op with
  | false => rw [h1] at h; cases h
  | true =>
    rw [h1] at h
    cases h2 : backQ k o.after.toList with
    | false => rw [h2] at h; cases h
    | true =>
      rw [h2] at h
      cases h3 : prsQ L k o l with
      | false => rw [h3] at h; cases h
      | true => rw [h3] at h; exact ⟨rfl, rfl, rfl, h⟩
theorem lex_sel {L : List Oper} : ∀ {l : List Oper} {k : Nat}, lexQ L k l = true → ∀ o ∈ l, ∀ cs b, o.op ≠ .select cs b
  | [], _, _, _, h => by cases h
  | x :: l, k, h, o, ho => by
    obtain ⟨h1, _, _, h4⟩ := lex_cons h
    rcases List.mem_cons.1 ho with rfl | ho
    · intro cs b e
      rw [e] at h1
      cases h1
    · exact lex_sel h4 o ho
section
variable {P : Program} {C : World → Prop} {L : List Oper}
theorem wpAnyQ_lexQ {Z : Act → Prop} (hsel : ∀ (j : Nat) (o : Oper) cs b, L.toArray[j]? = some o → o.op ≠ .select cs b) : ∀ (l : List Oper) (k : Nat) (listed : Array Bool) (a : Act), (∀ j, l[j]? = L[k + j]?) → listed.size = L.length → (∀ j, j < k → listed.getD j false = true) → (∀ j, k ≤ j → j < L.length → listed.getD j true = false) →
    lexQ L k l = true → wpQuiet P L.toArray C Z l a → wpAnyQ P .any L.toArray C Z l.length listed a
  | [], k, listed, a, hl, hs, hlo, _, _, h => by
    refine ⟨List.eq_nil_iff_forall_not_mem.2 fun i hi => ?_, h⟩
    obtain ⟨h1, o, ho, _⟩ := mem_ready.1 hi
    have hlt : i < L.length := by simpa using (Array.getElem?_eq_some_iff.1 ho).1
    have hk : L.length ≤ k := by
      have := hl 0
      simp at this
      omega
    have := hlo i (by omega)
    simp [Array.getD, hs, hlt] at h1 this
    rw [h1] at this
    cases this
  | o :: l, k, listed, a, hl, hs, hlo, hhi, hq, h => by
    have h0' : L[k]? = some o := by simpa using (hl 0).symm
    have h0 : L.toArray[k]? = some o := by simpa using h0'
    have hk : k < L.length := (List.getElem?_eq_some_iff.1 h0').1
    obtain ⟨q1, q2, q3, q4⟩ := lex_cons hq
    have hst : qOp P L.toArray C k (wpQuiet P L.toArray C Z l) a := by unfold qOp; simp only [h0]; exact h
    obtain ⟨v, hy, hK⟩ := yieldsIn_of_qOp h0 hst
    refine wpAnyQ_first h0 hsel l.length listed a (fun j oj hj hjk hun hno => ?_) (mem_ready.2 ⟨hhi k (Nat.le_refl _) hk, o, h0, fun e he hb => hlo _ (back_of q2 e (by simpa using he) hb)⟩) hy
      (wpAnyQ_lexQ hsel l (k + 1) _ _ (fun j => by have := hl (j + 1); simpa [Nat.add_assoc, Nat.add_comm 1 j] using this) (by simpa using hs) (fun j hj => ?_) (fun j hj hj2 => ?_) q4 hK)
    · have hj' : L[j]? = some oj := by simpa using hj
      have hjL : j < L.length := (List.getElem?_eq_some_iff.1 hj').1
      have hgt : k < j := by
        rcases Nat.lt_or_ge j k with h' | h'
        · have := hlo j h'
          simp [Array.getD, hs, hjL] at hun this
          rw [hun] at this
          cases this
        · omega
      have hm : l[j - (k + 1)]? = some oj := by
        have := hl (j - (k + 1) + 1)
        rw [show k + (j - (k + 1) + 1) = j by omega, hj'] at this
        simpa using this
      exact pair_of (prs_of q3 oj (List.mem_of_getElem? hm)) hno
    · by_cases e : j = k
      · subst e; simp [Array.getD, hs, hk]
      · rw [show (listed.setIfInBounds k true).getD j false = listed.getD j false by
          by_cases hjs : j < listed.size
          · simp [Array.getD, hjs, Ne.symm e]
          · simp [Array.getD, hjs]]
        exact hlo j (by omega)
    · have e : k ≠ j := by omega
      have := hhi j (by omega) hj2
      simp [Array.getD, hs, hj2, e] at this ⊢
      exact this
theorem wp_region_lexQ {id : Nat} {Q : Exit → Act → World → Prop} {a : Act} {w : World} (hm : P.follows .mixedOrders = true) (hB : lexQ L 0 L = true) (hC : C { w with drawn := w.drawn + 1 })
    (h : wpQuiet P L.toArray C (fun a' => ∀ w', C w' → Q .normal a' w') L a) : (Code.region id L.toArray true).wp P Q a w := by
  refine wp_region_any hm (wpAny_of_quiet (Q := fun a' => ∀ w', C w' → Q .normal a' w') (fun _ w' hw' h => h w' hw') _ _ _ _ hC ?_)
  have := wpAnyQ_lexQ (C := C) (P := P) (Z := fun a' => ∀ w', C w' → Q .normal a' w') (fun j o cs b hj => lex_sel hB o (List.mem_of_getElem? (by simpa using hj)) cs b) L 0 (Array.replicate L.toArray.size false) a (by simp) (by simp) (fun j hj => by omega) (fun j _ hj => by simp [Array.getD, hj]) hB h
  simpa using this
end
end Go.Proofs.Ytncnlhkmdljgpaa
/- A walk by what is known of the slots: 'Env n σ a' says that the frame a has n slots and that slot t holds v wherever σ t = some v. Each operation is one rule; the frame itself is never written out. -/
namespace Go.Proofs.Ytncnlhkmdljgpaa
open Go Go.RowKit
abbrev Sg := Nat → Option Value
def ins (σ : Sg) (d : Nat) (v : Value) : Sg := fun s => bif Nat.beq s d then some v else σ s
def memB : List Nat → Nat → Bool
  | [], _ => false
  | d :: ds, s => bif Nat.beq s d then true else memB ds s
def del (σ : Sg) (ds : List Nat) : Sg := fun s => bif memB ds s then none else σ s
/-- slots k, k + 1, .. -/
def argsS : List Value → Nat → Sg
  | [], _, _ => none
  | v :: l, k, s => bif Nat.beq s k then some v else argsS l (k + 1) s
def evS (σ : Sg) : Operand → Option Value
  | .tmp t => σ t
  | .const v => some v
  | .global g => some (.pointer (some ⟨g, 0, none⟩))
  | .func f => some (.func (.func f) #[] #[])
structure Env (n : Nat) (σ : Sg) (a : Act) : Prop where
  size : a.tmps.size = n
  defers : a.defers = []
  get : ∀ t v, σ t = some v → a.tmps[t]? = some v
section
variable {n : Nat} {σ τ : Sg} {a : Act}
theorem Env.eval (h : Env n σ a) {x : Operand} {v : Value} (hx : evS σ x = some v) : a.eval x = v := by
  cases x with
  | tmp t => simp only [Act.eval, Array.getD_eq_getD_getElem?, h.get t v hx, Option.getD_some]
  | const u => injection hx
  | global g => injection hx
  | func f => injection hx
theorem Env.put (h : Env n σ a) {d : Nat} (hd : Nat.blt d n = true) (v : Value) : Env n (ins σ d v) (a.put (some d) v) := by
  have hd' : d < n := by simpa [Nat.blt_eq] using hd
  refine ⟨by simp [Act.put, h.size], h.defers, fun t u ht => ?_⟩
  simp only [Act.put, Array.getElem?_setIfInBounds]
  unfold ins at ht
  cases e : Nat.beq t d with
  | true =>
    have e' := Nat.eq_of_beq_eq_true e
    subst e'
    rw [e] at ht
    rw [if_pos rfl, if_pos (by rw [h.size]; exact hd')]
    exact ht
  | false =>
    have e' := Nat.ne_of_beq_eq_false e
    rw [e] at ht
    rw [if_neg (Ne.symm e')]
    exact h.get t u ht
def Sub (τ σ : Sg) : Prop := ∀ t v, τ t = some v → σ t = some v
theorem Env.sub (h : Env n σ a) (hs : Sub τ σ) : Env n τ a := ⟨h.size, h.defers, fun t v ht => h.get t v (hs t v ht)⟩
theorem Sub.refl (σ : Sg) : Sub σ σ := fun _ _ h => h
theorem Sub.del (h : Sub τ σ) (ds : List Nat) : Sub (del τ ds) σ := fun t v ht => by
  unfold Go.Proofs.Ytncnlhkmdljgpaa.del at ht
  cases e : memB ds t with
  | true => rw [e] at ht; cases ht
  | false => rw [e] at ht; exact h t v ht
theorem Sub.ins (h : Sub τ σ) {d : Nat} {v : Value} (hd : σ d = some v) : Sub (ins τ d v) σ := fun t u ht => by
  unfold Go.Proofs.Ytncnlhkmdljgpaa.ins at ht
  cases e : Nat.beq t d with
  | true =>
    have e' := Nat.eq_of_beq_eq_true e
    subst e'
    rw [e] at ht
    rw [hd]
    exact ht
  | false => rw [e] at ht; exact h t u ht
/-- a slot that τ does not speak of -/
theorem Sub.skip (h : Sub τ σ) {d : Nat} {v : Value} (hd : τ d = none) : Sub τ (Go.Proofs.Ytncnlhkmdljgpaa.ins σ d v) := fun t u ht => by
  unfold Go.Proofs.Ytncnlhkmdljgpaa.ins
  cases e : Nat.beq t d with
  | true =>
    have e' := Nat.eq_of_beq_eq_true e
    subst e'
    rw [hd] at ht
    cases ht
  | false => exact h t u ht
theorem Sub.nil (σ : Sg) : Sub (fun _ => none) σ := fun _ _ h => by cases h
end
section
variable {P : Program} {n : Nat} {σ τ : Sg} {w : World} {Q : Exit → Act → World → Prop} {L : List Oper} {rest : List Oper}
/-- what an operation yields, the world as it was -/
def Gives (P : Program) (n : Nat) (σ : Sg) (w : World) (o : Oper) (v : Value) : Prop := ∀ a, Env n σ a → (execOp a.eval o).run P w = .ok (.value v) w
def EL (P : Program) (n : Nat) (L : List Oper) (Q : Exit → Act → World → Prop) (rest : List Oper) (σ : Sg) (w : World) : Prop := ∀ a, Env n σ a → wpList P L.toArray Q rest a w
def EC (P : Program) (n : Nat) (c : Code) (Q : Exit → Act → World → Prop) (σ : Sg) (w : World) : Prop := ∀ a, Env n σ a → c.wp P Q a w
def EX (n : Nat) (Q : Exit → Act → World → Prop) (e : Exit) (σ : Sg) (w : World) : Prop := ∀ a, Env n σ a → Q e a w
theorem EL.nil (h : EX n Q .normal σ w) : EL P n L Q [] σ w := fun a ha => wpList_nil (h a ha)
theorem wpL_run {o : Oper} {a : Act} (hg : Region.wanted o (yielded L.toArray a.tmps) = true) {v : Value} {w' : World} (hr : (execOp a.eval o).run P w = .ok (.value v) w') (hk : wpList P L.toArray Q rest (a.put o.dst v) w') : wpList P L.toArray Q (o :: rest) a w := by
  unfold wpList
  rw [if_pos hg]
  left
  unfold Oper.wp
  rw [hr]
  exact hk
theorem yield_of {a : Act} (ha : Env n σ a) {j : Nat} {t : Tmp} {v : Value} (hj : dstOf L j = some t) (ht : σ t = some v) : yielded L.toArray a.tmps j = match v with | .bool b => some b | _ => none := by
  unfold yielded
  rw [dstOf_eq, hj, Option.bind_some, ha.get t v ht]
  cases v <;> rfl
theorem wanted_none {o : Oper} (h : o.guard = none) (y : Nat → Option Bool) : Region.wanted o y = true := by simp [Region.wanted, h]
/-- the rules for one operation -/
theorem EL.val {d ty : Nat} {op : Op} {pos : String} {af : Array Edge} {v : Value} (h : Gives P n σ w ⟨some d, op, ty, pos, af, none⟩ v) (hd : Nat.blt d n = true) (k : EL P n L Q rest (ins σ d v) w) : EL P n L Q (⟨some d, op, ty, pos, af, none⟩ :: rest) σ w :=
  fun a ha => wpL_run (wanted_none rfl _) (h a ha) (k _ (ha.put hd v))
theorem EL.valg {d ty j t : Nat} {b : Bool} {op : Op} {pos : String} {af : Array Edge} {v : Value} (hj : dstOf L j = some t) (ht : σ t = some (.bool b)) (h : Gives P n σ w ⟨some d, op, ty, pos, af, some (j, b)⟩ v) (hd : Nat.blt d n = true) (k : EL P n L Q rest (ins σ d v) w) : EL P n L Q (⟨some d, op, ty, pos, af, some (j, b)⟩ :: rest) σ w :=
  fun a ha => wpL_run (by simp [Region.wanted, yield_of ha hj ht]) (h a ha) (k _ (ha.put hd v))
def yieldsB (b : Bool) : Value → Bool
  | .bool c => c == b
  | _ => false
theorem EL.skip {d ty j t : Nat} {b : Bool} {op : Op} {pos : String} {af : Array Edge} {u : Value} (hj : dstOf L j = some t) (ht : σ t = some u) (hb : yieldsB b u = false) (hd : Nat.blt d n = true) (k : EL P n L Q rest (ins σ d undef) w) : EL P n L Q (⟨some d, op, ty, pos, af, some (j, b)⟩ :: rest) σ w := fun a ha => by
  unfold wpList
  have hw : Region.wanted (⟨some d, op, ty, pos, af, some (j, b)⟩ : Oper) (yielded L.toArray a.tmps) = false := by
    simp only [Region.wanted, yield_of ha hj ht]
    cases u <;> first | rfl | (simp only [yieldsB] at hb; simpa using hb)
  rw [hw, if_neg (by simp)]
  exact k _ (ha.put hd undef)
/-- an operation that yields a value and turns the world: what is known behind it -/
theorem EL.turn {d ty : Nat} {op : Op} {pos : String} {af : Array Edge} (v : Value) (w' : World) (h : ∀ a, Env n σ a → (execOp a.eval ⟨some d, op, ty, pos, af, none⟩).run P w = .ok (.value v) w') (hd : Nat.blt d n = true) (k : EL P n L Q rest (ins σ d v) w') : EL P n L Q (⟨some d, op, ty, pos, af, none⟩ :: rest) σ w :=
  fun a ha => wpL_run (wanted_none rfl _) (h a ha) (k _ (ha.put hd v))
theorem wpL_call {o : Oper} {a : Act} (hg : Region.wanted o (yielded L.toArray a.tmps) = true) {f : FuncId} {args : Array Value} (hr : (execOp a.eval o).run P w = .ok (.enter f args) w) {R : Ending → World → Prop} (hc : Calls P f args w R)
    (hk : ∀ e w', R e w' → ∃ v, e = .returned v ∧ wpList P L.toArray Q rest (a.put o.dst v) w') : wpList P L.toArray Q (o :: rest) a w := by
  unfold wpList
  rw [if_pos hg]
  left
  unfold Oper.wp
  rw [hr, Oper.upon_enter]
  refine hc.mono fun e w' he => ?_
  obtain ⟨v, rfl, hv⟩ := hk e w' he
  exact hv
/-- a call: what the operands are, the callee's contract, what is known behind it -/
theorem EL.call {d ty : Nat} {op : Op} {pos : String} {af : Array Edge} {f : FuncId} {args : Array Value} {R : Ending → World → Prop} (hr : ∀ a, Env n σ a → (execOp a.eval ⟨some d, op, ty, pos, af, none⟩).run P w = .ok (.enter f args) w) (hd : Nat.blt d n = true) (hc : Calls P f args w R)
    (k : ∀ e w', R e w' → ∃ v, e = .returned v ∧ EL P n L Q rest (ins σ d v) w') : EL P n L Q (⟨some d, op, ty, pos, af, none⟩ :: rest) σ w :=
  fun a ha => wpL_call (wanted_none rfl _) (hr a ha) hc fun e w' he => by
    obtain ⟨v, h1, h2⟩ := k e w' he
    exact ⟨v, h1, h2 _ (ha.put hd v)⟩
theorem EL.callg {d ty j t : Nat} {b : Bool} {op : Op} {pos : String} {af : Array Edge} {f : FuncId} {args : Array Value} {R : Ending → World → Prop} (hj : dstOf L j = some t) (ht : σ t = some (.bool b)) (hr : ∀ a, Env n σ a → (execOp a.eval ⟨some d, op, ty, pos, af, some (j, b)⟩).run P w = .ok (.enter f args) w) (hd : Nat.blt d n = true) (hc : Calls P f args w R)
    (k : ∀ e w', R e w' → ∃ v, e = .returned v ∧ EL P n L Q rest (ins σ d v) w') : EL P n L Q (⟨some d, op, ty, pos, af, some (j, b)⟩ :: rest) σ w :=
  fun a ha => wpL_call (by simp [Region.wanted, yield_of ha hj ht]) (hr a ha) hc fun e w' he => by
    obtain ⟨v, h1, h2⟩ := k e w' he
    exact ⟨v, h1, h2 _ (ha.put hd v)⟩
/-! ### Code -/
theorem EC.sub {c : Code} (h : EC P n c Q τ w) (hs : Sub τ σ) : EC P n c Q σ w := fun a ha => h a (ha.sub hs)
theorem EX.sub {e : Exit} (h : EX n Q e τ w) (hs : Sub τ σ) : EX n Q e σ w := fun a ha => h a (ha.sub hs)
theorem EC.seq {x y : Code} (h : EC P n x (Exit.then (y.wp P Q) Q) σ w) : EC P n (.seq x y) Q σ w := fun a ha => wp_seq (h a ha)
theorem EC.region {id : Nat} {l : List Oper} (h : EL P n l Q l σ w) : EC P n (.region id l.toArray false) Q σ w := fun a ha => wp_region_lit (h a ha)
theorem EC.block {id : Nat} {c : Code} (h : EC P n c (Exit.inBlock id Q) σ w) : EC P n (.block id c) Q σ w := fun a ha => wp_block (h a ha)
theorem EC.skip (h : EX n Q .normal σ w) : EC P n .skip Q σ w := fun a ha => wp_skip (h a ha)
theorem EC.exit {id : Nat} (h : EX n Q (.exit id) σ w) : EC P n (.exit id) Q σ w := fun a ha => wp_exit (h a ha)
theorem EC.ret (h : EX n Q .ret σ w) : EC P n .ret Q σ w := fun a ha => wp_ret (h a ha)
theorem EC.yes {c : Operand} {x y : Code} (hc : evS σ c = some (.bool true)) (h : EC P n x Q σ w) : EC P n (.cond c x y) Q σ w := fun a ha => wp_cond_true (ha.eval hc) (h a ha)
theorem EC.no {c : Operand} {x y : Code} (hc : evS σ c = some (.bool false)) (h : EC P n y Q σ w) : EC P n (.cond c x y) Q σ w := fun a ha => wp_cond_false (ha.eval hc) (h a ha)
theorem EC.loop {c : Code} {ι : Type} (σI : ι → Sg) (I : ι → World → Prop) (μ : ι → Nat) (i0 : ι) (hs : Sub (σI i0) σ) (h0 : I i0 w)
    (round : ∀ i w, I i w → EC P n c (Exit.then (fun a' w' => ∃ i', Env n (σI i') a' ∧ I i' w' ∧ μ i' < μ i) Q) (σI i) w) : EC P n (.loop c) Q σ w := by
  intro a ha
  refine wp_loop_ghost (fun k a w => ∃ i, Env n (σI i) a ∧ I i w ∧ μ i = k) (μ i0) ⟨i0, ha.sub hs, h0, rfl⟩ fun k a w hI => ?_
  obtain ⟨i, h1, h2, rfl⟩ := hI
  refine wp_mono (round i w h2 a h1) fun e a' w' hq => ?_
  cases e with
  | normal =>
    obtain ⟨i', h4, h5, h6⟩ := hq
    exact ⟨μ i', h6, i', h4, h5, rfl⟩
  | _ => exact hq
/-! ### Exits -/
theorem EX.seq {y : Code} (h : EC P n y Q σ w) : EX n (Exit.then (y.wp P Q) Q) .normal σ w := h
theorem EX.seq_exit {K : Act → World → Prop} {i : Nat} (h : EX n Q (.exit i) σ w) : EX n (Exit.then K Q) (.exit i) σ w := h
theorem EX.seq_ret {K : Act → World → Prop} (h : EX n Q .ret σ w) : EX n (Exit.then K Q) .ret σ w := h
theorem EX.blk {id : Nat} (h : EX n Q .normal σ w) : EX n (Exit.inBlock id Q) .normal σ w := h
theorem EX.blk_ret {id : Nat} (h : EX n Q .ret σ w) : EX n (Exit.inBlock id Q) .ret σ w := h
theorem EX.blk_here {id : Nat} (h : EX n Q .normal σ w) : EX n (Exit.inBlock id Q) (.exit id) σ w := fun a ha => by
  simp only [Exit.inBlock, if_true]
  exact h a ha
/-- a loop's round is done -/
theorem EX.round {ι : Type} {σI : ι → Sg} {I : ι → World → Prop} {μ : ι → Nat} {i : ι} (i' : ι) (hs : Sub (σI i') σ) (hI : I i' w) (hm : μ i' < μ i) : EX n (Exit.then (fun a' w' => ∃ i', Env n (σI i') a' ∧ I i' w' ∧ μ i' < μ i) Q) .normal σ w :=
  fun _ ha => ⟨i', ha.sub hs, hI, hm⟩
/-! ### Loops, over the slots that the body leaves alone -/
def insL (σ : Sg) : List (Nat × Value) → Sg
  | [] => σ
  | p :: l => ins (insL σ l) p.1 p.2
def AgreeS (σ : Sg) : List (Nat × Value) → Prop
  | [] => True
  | p :: l => σ p.1 = some p.2 ∧ AgreeS σ l
theorem sub_insL (h : Sub τ σ) : ∀ {l : List (Nat × Value)}, AgreeS σ l → Sub (insL τ l) σ
  | [], _ => h
  | _ :: _, ha => Sub.ins (sub_insL h ha.2) ha.1
theorem sub_past {σ0 : Sg} {ds : List Nat} {d : Nat} {v : Value} (hd : memB ds d = true) (h : Sub (del σ0 ds) τ) : Sub (del σ0 ds) (ins τ d v) :=
  h.skip (by unfold del; rw [hd]; rfl)
def allMem : List Nat → List Nat → Bool
  | [], _ => true
  | d :: l, ds => bif memB ds d then allMem l ds else false
theorem allMem_spec : ∀ {l ds : List Nat}, allMem l ds = true → ∀ t, memB l t = true → memB ds t = true
  | [], _, _, t, h => by cases h
  | d :: l, ds, h, t, ht => by
    unfold allMem at h
    cases e : memB ds d with
    | false => rw [e] at h; cases h
    | true =>
      rw [e] at h
      unfold memB at ht
      cases e2 : Nat.beq t d with
      | true => rw [Nat.eq_of_beq_eq_true e2]; exact e
      | false => rw [e2] at ht; exact allMem_spec h t ht
/-- through an inner loop -/
theorem sub_del {σ0 : Sg} {ds ds2 : List Nat} (hd : allMem ds2 ds = true) (h : Sub (del σ0 ds) τ) : Sub (del σ0 ds) (del τ ds2) := fun t v ht => by
  have hn : memB ds2 t = false := by
    rcases Bool.eq_false_or_eq_true (memB ds2 t) with h1 | h1
    · have := allMem_spec hd t h1
      unfold del at ht
      rw [this] at ht
      cases ht
    · exact h1
  have h2 := h t v ht
  unfold del
  rw [hn]
  exact h2
theorem sub_insL_nil {σ0 : Sg} (h : Sub σ0 τ) : Sub σ0 (insL τ []) := h
theorem EC.loopD {c : Code} {ι : Type} (ds : List Nat) (vs : ι → List (Nat × Value)) (I : ι → World → Prop) (μ : ι → Nat) (i0 : ι) (h0 : I i0 w) (hs : AgreeS σ (vs i0))
    (round : ∀ i w, I i w → EC P n c (Exit.then (fun a' w' => ∃ i', Env n (insL (del σ ds) (vs i')) a' ∧ I i' w' ∧ μ i' < μ i) Q) (insL (del σ ds) (vs i)) w) : EC P n (.loop c) Q σ w :=
  EC.loop (fun i => insL (del σ ds) (vs i)) I μ i0 (sub_insL ((Sub.refl σ).del ds) hs) h0 round
theorem EX.roundD {ι : Type} {σ0 : Sg} {ds : List Nat} {vs : ι → List (Nat × Value)} {I : ι → World → Prop} {μ : ι → Nat} {i : ι} (i' : ι) (hv : AgreeS σ (vs i')) (hd : Sub (del σ0 ds) σ) (hI : I i' w) (hm : μ i' < μ i) : EX n (Exit.then (fun a' w' => ∃ i', Env n (insL (del σ0 ds) (vs i')) a' ∧ I i' w' ∧ μ i' < μ i) Q) .normal σ w :=
  fun _ ha => ⟨i', ha.sub (sub_insL hd hv), hI, hm⟩
/-! ### A call's beginning and end -/
theorem args_get : ∀ (l : List Value) (k t : Nat) (v : Value), argsS l k t = some v → k ≤ t ∧ l[t - k]? = some v
  | [], _, _, _, h => by cases h
  | u :: l, k, t, v, h => by
    unfold argsS at h
    cases e : Nat.beq t k with
    | true =>
      have e' := Nat.eq_of_beq_eq_true e
      subst e'
      rw [e] at h
      injection h with h
      simp [h]
    | false =>
      have e' := Nat.ne_of_beq_eq_false e
      rw [e] at h
      have := args_get l (k + 1) t v h
      refine ⟨by omega, ?_⟩
      rw [show t - k = (t - (k + 1)) + 1 by omega]
      simpa using this.2
theorem env_args {l : List Value} (hn : l.length ≤ n) : Env n (argsS l 0) { tmps := l.toArray ++ Array.replicate (n - l.length) undef, defers := [] } := by
  refine ⟨by simp; omega, rfl, fun t v h => ?_⟩
  have h1 := (args_get l 0 t v h).2
  have h2 : t < l.length := by
    rcases Nat.lt_or_ge t l.length with h' | h'
    · exact h'
    · rw [Nat.sub_zero, List.getElem?_eq_none h'] at h1; cases h1
  rw [Array.getElem?_append_left (by simpa using h2)]
  simpa using h1
theorem EC.calls {f : FuncId} {fn : Func} {c : Code} {args : List Value} {R : Ending → World → Prop} (hf : P.funcs[f]? = some fn) (hb : fn.body = some c) (hn : Nat.ble args.length fn.ntmps = true) (h : EC P fn.ntmps c (bodyPost P fn R) (argsS args 0) w) : Calls P f args.toArray w R :=
  calls_of_wp hf hb (by
    have := h _ (env_args (l := args) (by simpa [Nat.ble_eq] using hn))
    simpa using this)
theorem EC.enter {f : FuncId} {fn : Func} {c : Code} {args : List Value} {R : Ending → World → Prop} (n : Nat) (hf : P.funcs[f]? = some fn) (hb : fn.body = some c) (hn : fn.ntmps = n) (hl : Nat.ble args.length n = true) (h : EC P n c (bodyPost P fn R) (argsS args 0) w) : Calls P f args.toArray w R := by
  subst hn
  exact EC.calls hf hb hl h
theorem EX.done {fn : Func} {R : Ending → World → Prop} {v : Value} (hr : ∀ a, Env n σ a → (results fn a.tmps).run P w = .ok v w) (h : R (.returned v) w) : EX n (bodyPost P fn R) .ret σ w := fun a ha => ⟨ha.defers, v, hr a ha, h⟩
theorem res1 {fn : Func} {t : Tmp} {v : Value} (h : fn.results = #[.tmp t]) (ht : σ t = some v) (a : Act) (ha : Env n σ a) : (results fn a.tmps).run P w = .ok v w := by
  rw [results_tmp h]
  have := ha.eval (x := .tmp t) ht
  exact congrArg (fun v => Result.ok v w) this
theorem res2 {fn : Func} {t s : Tmp} {v u : Value} (h : fn.results = #[.tmp t, .tmp s]) (ht : σ t = some v) (hs : σ s = some u) (a : Act) (ha : Env n σ a) : (results fn a.tmps).run P w = .ok (.tuple #[v, u]) w := by
  rw [results_tmp2 h]
  have h1 : a.tmps.getD t undef = v := ha.eval (x := .tmp t) ht
  have h2 : a.tmps.getD s undef = u := ha.eval (x := .tmp s) hs
  rw [h1, h2]
theorem res3 {fn : Func} {t s r : Tmp} {v u x : Value} (h : fn.results = #[.tmp t, .tmp s, .tmp r]) (ht : σ t = some v) (hs : σ s = some u) (hx : σ r = some x) (a : Act) (ha : Env n σ a) : (results fn a.tmps).run P w = .ok (.tuple #[v, u, x]) w := by
  have h1 : a.tmps.getD t undef = v := ha.eval (x := .tmp t) ht
  have h2 : a.tmps.getD s undef = u := ha.eval (x := .tmp s) hs
  have h3 : a.tmps.getD r undef = x := ha.eval (x := .tmp r) hx
  simp [results, h]
  rw [Array.getD_eq_getD_getElem?] at h1 h2 h3
  simp [h1, h2, h3]
/-! ### A region that draws its order and only reads -/
def EQ (P : Program) (n : Nat) (L : List Oper) (C : World → Prop) (Z : Act → Prop) (rest : List Oper) (σ : Sg) : Prop := ∀ a, Env n σ a → wpQuiet P L.toArray C Z rest a
theorem EQ.nil {C : World → Prop} {Z : Act → Prop} (h : ∀ a, Env n σ a → Z a) : EQ P n L C Z [] σ := fun a ha => wpQuiet_nil (h a ha)
theorem wpQ_run {C : World → Prop} {Z : Act → Prop} {o : Oper} {a : Act} (hg : Region.wanted o (yielded L.toArray a.tmps) = true) {v : Value} (hr : ∀ w, C w → (execOp a.eval o).run P w = .ok (.value v) w) (hk : wpQuiet P L.toArray C Z rest (a.put o.dst v)) : wpQuiet P L.toArray C Z (o :: rest) a := by
  unfold wpQuiet
  rw [if_pos hg]
  refine ⟨v, fun w hw => ?_, hk⟩
  unfold Oper.quietAt
  rw [hr w hw]
  exact ⟨rfl, rfl⟩
theorem EQ.val {C : World → Prop} {Z : Act → Prop} {d ty : Nat} {op : Op} {pos : String} {af : Array Edge} {v : Value} (h : ∀ w, C w → Gives P n σ w ⟨some d, op, ty, pos, af, none⟩ v) (hd : Nat.blt d n = true) (k : EQ P n L C Z rest (ins σ d v)) : EQ P n L C Z (⟨some d, op, ty, pos, af, none⟩ :: rest) σ :=
  fun a ha => wpQ_run (wanted_none rfl _) (fun w hw => h w hw a ha) (k _ (ha.put hd v))
theorem EQ.valg {C : World → Prop} {Z : Act → Prop} {d ty j t : Nat} {b : Bool} {op : Op} {pos : String} {af : Array Edge} {v : Value} (hj : dstOf L j = some t) (ht : σ t = some (.bool b)) (h : ∀ w, C w → Gives P n σ w ⟨some d, op, ty, pos, af, some (j, b)⟩ v) (hd : Nat.blt d n = true) (k : EQ P n L C Z rest (ins σ d v)) : EQ P n L C Z (⟨some d, op, ty, pos, af, some (j, b)⟩ :: rest) σ :=
  fun a ha => wpQ_run (by simp [Region.wanted, yield_of ha hj ht]) (fun w hw => h w hw a ha) (k _ (ha.put hd v))
theorem EQ.skip {C : World → Prop} {Z : Act → Prop} {d ty j t : Nat} {b : Bool} {op : Op} {pos : String} {af : Array Edge} {u : Value} (hj : dstOf L j = some t) (ht : σ t = some u) (hb : yieldsB b u = false) (hd : Nat.blt d n = true) (k : EQ P n L C Z rest (ins σ d undef)) : EQ P n L C Z (⟨some d, op, ty, pos, af, some (j, b)⟩ :: rest) σ := fun a ha => by
  unfold wpQuiet
  have hw : Region.wanted (⟨some d, op, ty, pos, af, some (j, b)⟩ : Oper) (yielded L.toArray a.tmps) = false := by
    simp only [Region.wanted, yield_of ha hj ht]
    cases u <;> first | rfl | (simp only [yieldsB] at hb; simpa using hb)
  rw [hw, if_neg (by simp)]
  exact k _ (ha.put hd undef)
theorem EQ.call {C : World → Prop} {Z : Act → Prop} {d ty : Nat} {op : Op} {pos : String} {af : Array Edge} {f : FuncId} {args : Array Value} {v : Value} (hr : ∀ w a, C w → Env n σ a → (execOp a.eval ⟨some d, op, ty, pos, af, none⟩).run P w = .ok (.enter f args) w) (hd : Nat.blt d n = true) (hc : ∀ w, C w → Calls P f args w fun e w' => e = .returned v ∧ C w')
    (k : EQ P n L C Z rest (ins σ d v)) : EQ P n L C Z (⟨some d, op, ty, pos, af, none⟩ :: rest) σ := fun a ha => by
  unfold wpQuiet
  rw [if_pos (wanted_none rfl _)]
  refine ⟨v, fun w hw => ?_, k _ (ha.put hd v)⟩
  unfold Oper.quietAt
  rw [hr w a hw ha]
  exact ⟨rfl, hc w hw⟩
theorem EQ.callg {C : World → Prop} {Z : Act → Prop} {d ty j t : Nat} {b : Bool} {op : Op} {pos : String} {af : Array Edge} {f : FuncId} {args : Array Value} {v : Value} (hj : dstOf L j = some t) (ht : σ t = some (.bool b)) (hr : ∀ w a, C w → Env n σ a → (execOp a.eval ⟨some d, op, ty, pos, af, some (j, b)⟩).run P w = .ok (.enter f args) w) (hd : Nat.blt d n = true) (hc : ∀ w, C w → Calls P f args w fun e w' => e = .returned v ∧ C w')
    (k : EQ P n L C Z rest (ins σ d v)) : EQ P n L C Z (⟨some d, op, ty, pos, af, some (j, b)⟩ :: rest) σ := fun a ha => by
  unfold wpQuiet
  rw [if_pos (by simp [Region.wanted, yield_of ha hj ht])]
  refine ⟨v, fun w hw => ?_, k _ (ha.put hd v)⟩
  unfold Oper.quietAt
  rw [hr w a hw ha]
  exact ⟨rfl, hc w hw⟩
/-- the class: below the heap's size nothing has turned -/
theorem EC.regionQ {id : Nat} {l : List Oper} (hm : P.follows .mixedOrders = true) (hB : lexQ l 0 l = true) (h : EQ P n l (fun w' => Below w.heap.size w w') (fun a' => ∀ w', Below w.heap.size w w' → Q .normal a' w') l σ) : EC P n (.region id l.toArray true) Q σ w :=
  fun a ha => wp_region_lexQ (C := fun w' => Below w.heap.size w w') hm hB ⟨rfl, rfl, rfl, Nat.le_refl _, fun _ _ => rfl⟩ (h a ha)
theorem EQ.fin (h : ∀ w', Below w.heap.size w w' → EX n Q .normal σ w') : EQ P n L (fun w' => Below w.heap.size w w') (fun a' => ∀ w', Below w.heap.size w w' → Q .normal a' w') [] σ := EQ.nil fun a ha w' hw => h w' hw a ha
end
/-! ### What the operations yield -/
section
variable {P : Program} {n : Nat} {σ : Sg} {w : World} {dst : Option Tmp} {ty : TypeId} {pos : String} {af : Array Edge} {g : Option (Nat × Bool)} {x y z : Operand} {t t' : TypeId} {v : Value} {k : IntKind} {a b c : Int} {r : Bool}
theorem x_move (hx : evS σ x = some v) : Gives P n σ w ⟨dst, .move x, ty, pos, af, g⟩ v := fun a ha => by
  simp only [execOp, ha.eval hx]; rfl
theorem x_assign (hx : evS σ x = some v) : Gives P n σ w ⟨dst, .assign x, ty, pos, af, g⟩ v := fun a ha => by
  simp only [execOp, ha.eval hx]; rfl
theorem x_add (hx : evS σ x = some (.int k a)) (hy : evS σ y = some (.int k b)) (hc : k.wrap (a + b) = c) : Gives P n σ w ⟨dst, .binOp .add t x y t', ty, pos, af, g⟩ (.int k c) := fun _ ha => by
  simp only [execOp, ha.eval hx, ha.eval hy]
  simp [go_sem, hc]
theorem x_sub (hx : evS σ x = some (.int k a)) (hy : evS σ y = some (.int k b)) (hc : k.wrap (a - b) = c) : Gives P n σ w ⟨dst, .binOp .sub t x y t', ty, pos, af, g⟩ (.int k c) := fun _ ha => by
  simp only [execOp, ha.eval hx, ha.eval hy]
  simp [go_sem, hc]
theorem x_mul (hx : evS σ x = some (.int k a)) (hy : evS σ y = some (.int k b)) (hc : k.wrap (a * b) = c) : Gives P n σ w ⟨dst, .binOp .mul t x y t', ty, pos, af, g⟩ (.int k c) := fun _ ha => by
  simp only [execOp, ha.eval hx, ha.eval hy]
  simp [go_sem, hc]
theorem x_quo (hx : evS σ x = some (.int k a)) (hy : evS σ y = some (.int k b)) (hb : b ≠ 0) (hc : k.wrap (a.tdiv b) = c) : Gives P n σ w ⟨dst, .binOp .quo t x y t', ty, pos, af, g⟩ (.int k c) := fun _ ha => by
  simp only [execOp, ha.eval hx, ha.eval hy]
  simp [go_sem, hc, hb]
theorem x_rem (hx : evS σ x = some (.int k a)) (hy : evS σ y = some (.int k b)) (hb : b ≠ 0) (hc : a.tmod b = c) : Gives P n σ w ⟨dst, .binOp .rem t x y t', ty, pos, af, g⟩ (.int k c) := fun _ ha => by
  simp only [execOp, ha.eval hx, ha.eval hy]
  simp [go_sem, hc, hb]
theorem x_lss (hx : evS σ x = some (.int k a)) (hy : evS σ y = some (.int k b)) (hc : decide (a < b) = r) : Gives P n σ w ⟨dst, .binOp .lss t x y t', ty, pos, af, g⟩ (.bool r) := fun _ ha => by
  simp only [execOp, ha.eval hx, ha.eval hy]
  simp [go_sem, ← hc]
theorem x_leq (hx : evS σ x = some (.int k a)) (hy : evS σ y = some (.int k b)) (hc : decide (a ≤ b) = r) : Gives P n σ w ⟨dst, .binOp .leq t x y t', ty, pos, af, g⟩ (.bool r) := fun _ ha => by
  simp only [execOp, ha.eval hx, ha.eval hy]
  simp [go_sem, ← hc]
theorem x_gtr (hx : evS σ x = some (.int k a)) (hy : evS σ y = some (.int k b)) (hc : decide (b < a) = r) : Gives P n σ w ⟨dst, .binOp .gtr t x y t', ty, pos, af, g⟩ (.bool r) := fun _ ha => by
  simp only [execOp, ha.eval hx, ha.eval hy]
  simp [go_sem, ← hc]
theorem x_geq (hx : evS σ x = some (.int k a)) (hy : evS σ y = some (.int k b)) (hc : decide (b ≤ a) = r) : Gives P n σ w ⟨dst, .binOp .geq t x y t', ty, pos, af, g⟩ (.bool r) := fun _ ha => by
  simp only [execOp, ha.eval hx, ha.eval hy]
  simp [go_sem, ← hc]
theorem x_eql (hx : evS σ x = some (.int k a)) (hy : evS σ y = some (.int k b)) (hc : decide (a = b) = r) : Gives P n σ w ⟨dst, .binOp .eql t x y t', ty, pos, af, g⟩ (.bool r) := fun _ ha => by
  simp only [execOp, ha.eval hx, ha.eval hy]
  simp [go_sem, ← hc]
  by_cases h : a = b <;> simp [h]
theorem x_neq (hx : evS σ x = some (.int k a)) (hy : evS σ y = some (.int k b)) (hc : decide (a ≠ b) = r) : Gives P n σ w ⟨dst, .binOp .neq t x y t', ty, pos, af, g⟩ (.bool r) := fun _ ha => by
  simp only [execOp, ha.eval hx, ha.eval hy]
  simp [go_sem, ← hc]
  by_cases h : a = b <;> simp [h]
theorem x_not (hx : evS σ x = some (.bool r)) : Gives P n σ w ⟨dst, .unOp .not t x, ty, pos, af, g⟩ (.bool (!r)) := fun _ ha => by
  simp only [execOp, ha.eval hx]
  simp [go_sem]
theorem x_pick_t (hx : evS σ x = some (.bool true)) (hy : evS σ y = some v) : Gives P n σ w ⟨dst, .pick x y z, ty, pos, af, g⟩ v := fun _ ha => by
  simp only [execOp, ha.eval hx, ha.eval hy]
  simp [go_sem]
theorem x_pick_f (hx : evS σ x = some (.bool false)) (hy : evS σ z = some v) : Gives P n σ w ⟨dst, .pick x y z, ty, pos, af, g⟩ v := fun _ ha => by
  simp only [execOp, ha.eval hx, ha.eval hy]
  simp [go_sem]
theorem x_extract {vs : Array Value} {i : Nat} (hx : evS σ x = some (.tuple vs)) (hi : vs[i]? = some v) : Gives P n σ w ⟨dst, .extract x i, ty, pos, af, g⟩ v := fun _ ha => by
  simp only [execOp, ha.eval hx]
  simp [go_sem, hi]
theorem x_nilCheck {p : Addr} (hx : evS σ x = some (.pointer (some p))) : Gives P n σ w ⟨dst, .nilCheck x, ty, pos, af, g⟩ (.pointer (some p)) := fun _ ha => by
  simp only [execOp, ha.eval hx]
  simp [go_sem]
end
end Go.Proofs.Ytncnlhkmdljgpaa
/- A region that draws its order, by an invariant: whichever operations have come up, one more that may come keeps it. -/
namespace Go.Proofs.Ytncnlhkmdljgpaa
open Go
section
variable {P : Program} {ops : Array Oper} {Q : Exit → Act → World → Prop}
/-- every operation waits for earlier ones alone: by reckoning -/
def backB (ops : Array Oper) : Bool := (List.range ops.size).all fun i => match ops[i]? with
  | some o => o.after.all fun e => !Region.binds .any e || decide (e.on < i)
  | none => true
theorem backB_spec (h : backB ops = true) {i : Nat} {o : Oper} (ho : ops[i]? = some o) {e} (he : e ∈ o.after) (hb : Region.binds .any e = true) : e.on < i := by
  have hi := (Array.getElem?_eq_some_iff.1 ho).1
  have h1 := List.all_eq_true.1 h i (List.mem_range.2 hi)
  rw [ho] at h1
  have h2 := Array.all_eq_true_iff_forall_mem.1 h1 e he
  rw [hb] at h2
  simpa using h2
def openN (n : Nat) (listed : Array Bool) : Nat := ((List.range n).filter fun j => !listed.getD j true).length
theorem openN_lt {n i : Nat} {listed : Array Bool} (hi : i < n) (hs : listed.size = n) (hl : listed.getD i true = false) : openN n (listed.setIfInBounds i true) < openN n listed := by
  unfold openN
  have e : (List.range n).filter (fun j => !(listed.setIfInBounds i true).getD j true) = ((List.range n).filter fun j => !listed.getD j true).filter fun j => !(listed.setIfInBounds i true).getD j true := by
    rw [List.filter_filter]
    refine List.filter_congr fun j hj => ?_
    have hj' : j < n := List.mem_range.1 hj
    by_cases h : i = j
    · subst h
      simp [Array.getD, hs, hi]
    · simp [Array.getD, hs, hj', h]
  rw [e]
  refine List.length_filter_lt_length_iff_exists.2 ⟨i, ?_, ?_⟩
  · rw [List.mem_filter]
    exact ⟨List.mem_range.2 hi, by rw [hl]; rfl⟩
  · simp [Array.getD, hs, hi]
theorem wpAny_inv (hback : backB ops = true) (I : Array Bool → Act → World → Prop)
    (hstep : ∀ (L : Array Bool) (a : Act) (w : World) (i : Nat) (o : Oper), L.size = ops.size → I L a w → L.getD i true = false → ops[i]? = some o → (∀ e ∈ o.after, Region.binds .any e = true → L.getD e.on false = true) →
      wpOp P ops Q i (I (L.setIfInBounds i true)) a w)
    (hend : ∀ (L : Array Bool) (a : Act) (w : World), L.size = ops.size → I L a w → (∀ i, i < ops.size → L.getD i false = true) → Q .normal a w) :
    ∀ (fuel : Nat) (L : Array Bool) (a : Act) (w : World), L.size = ops.size → openN ops.size L ≤ fuel → I L a w → wpAny P .any ops Q fuel L a w := by
  have hall : ∀ (L : Array Bool), L.size = ops.size → Region.ready .any ops L = [] → ∀ i, i < ops.size → L.getD i false = true := by
    intro L hs hr i
    induction i using Nat.strongRecOn with
    | ind i ih =>
      intro hi
      rcases Bool.eq_false_or_eq_true (L.getD i false) with h | h
      · exact h
      · exfalso
        have hm : i ∈ Region.ready .any ops L := by
          refine mem_ready.2 ⟨?_, ops[i], Array.getElem?_eq_getElem hi, fun e he hb => ?_⟩
          · simp [Array.getD, hs, hi] at h ⊢
            exact h
          · have := backB_spec hback (Array.getElem?_eq_getElem hi) he hb
            exact ih e.on this (by omega)
        rw [hr] at hm
        cases hm
  intro fuel
  induction fuel with
  | zero =>
    intro L a w hs hf hI
    have hr : Region.ready .any ops L = [] := by
      refine List.eq_nil_iff_forall_not_mem.2 fun i hi => ?_
      obtain ⟨h1, o, ho, _⟩ := mem_ready.1 hi
      have := openN_lt (Array.getElem?_eq_some_iff.1 ho).1 hs h1
      omega
    exact ⟨hr, hend L a w hs hI (hall L hs hr)⟩
  | succ fuel ih =>
    intro L a w hs hf hI
    refine ⟨fun hr => hend L a w hs hI (hall L hs hr), fun i hi => ?_⟩
    obtain ⟨h1, o, ho, h2⟩ := mem_ready.1 hi
    have hlt := openN_lt (Array.getElem?_eq_some_iff.1 ho).1 hs h1
    exact wpOp_mono (fun a' w' h => ih _ a' w' (by simpa using hs) (by omega) h) (hstep L a w i o hs hI h1 ho h2)
theorem wp_region_inv {id : Nat} {a : Act} {w : World} (hm : P.follows .mixedOrders = true) (hback : backB ops = true) (I : Array Bool → Act → World → Prop)
    (h0 : I (Array.replicate ops.size false) a { w with drawn := w.drawn + 1 })
    (hstep : ∀ (L : Array Bool) (a : Act) (w : World) (i : Nat) (o : Oper), L.size = ops.size → I L a w → L.getD i true = false → ops[i]? = some o → (∀ e ∈ o.after, Region.binds .any e = true → L.getD e.on false = true) →
      wpOp P ops Q i (I (L.setIfInBounds i true)) a w)
    (hend : ∀ (L : Array Bool) (a : Act) (w : World), L.size = ops.size → I L a w → (∀ i, i < ops.size → L.getD i false = true) → Q .normal a w) : (Code.region id ops true).wp P Q a w := by
  refine wp_region_any hm (wpAny_inv hback I hstep hend _ _ _ _ (by simp) ?_ h0)
  unfold openN
  exact Nat.le_trans (List.length_filter_le _ _) (by simp)
end
def upd (val : Nat → Value) (i : Nat) (v : Value) : Nat → Value := fun j => if j = i then v else val j
section
variable {ops : Array Oper} {val : Nat → Value} {L : Array Bool}
theorem put_size (a : Act) (d : Option Tmp) (v : Value) : (a.put d v).tmps.size = a.tmps.size := by cases d <;> simp [Act.put]
end
end Go.Proofs.Ytncnlhkmdljgpaa
/- A region that draws its order: a head whose operations may come in any order the edges allow (each tells what it yields, and what it tells stays true while memory grows), and a tail that comes last, one by one. -/
namespace Go.Proofs.Ytncnlhkmdljgpaa
open Go Go.RowKit
def clsAt : List (List Nat) → Nat → List Nat
  | [], _ => []
  | c :: _, 0 => c
  | _ :: l, i + 1 => clsAt l i
def res (val : Nat → Value) (i : Nat) (l : List Nat) : Nat → Value := fun j => bif Nat.beq j i then val j else bif memB l j then val j else undef
def findW (L : List Oper) (t : Nat) : List Nat → Option Nat
  | [] => none
  | j :: l => match dstOf L j with
    | some d => bif Nat.beq d t then some j else findW L t l
    | none => findW L t l
/-- whoever writes slot t comes behind operation i -/
def oldB (L : List Oper) (cls : List (List Nat)) (i t : Nat) : Nat → Bool
  | 0 => true
  | k + 1 => bif (match dstOf L k with
      | some d => bif Nat.beq d t then (bif Nat.beq k i then true else memB (clsAt cls k) i) else true
      | none => true) then oldB L cls i t k else false
def sgAt (L : List Oper) (cls : List (List Nat)) (m : Nat) (σ : Sg) (val : Nat → Value) (i : Nat) : Sg := fun t => match findW L t (clsAt cls i) with
  | some j => some (val j)
  | none => bif oldB L cls i t m then σ t else none
def sgEnd (L : List Oper) (σ : Sg) (val : Nat → Value) : Nat → Sg
  | 0 => σ
  | k + 1 => match dstOf L k with
    | some d => ins (sgEnd L σ val k) d (val k)
    | none => sgEnd L σ val k
/-! ### What is reckoned -/
def inCls (cls : List (List Nat)) (j : Nat) : List Edge → Bool
  | [] => false
  | e :: l => bif Region.binds .any e then (bif Nat.beq e.on j then true else bif memB (clsAt cls e.on) j then true else inCls cls j l) else inCls cls j l
def allIn (cls : List (List Nat)) (af : List Edge) : List Nat → Bool
  | [] => true
  | j :: l => bif inCls cls j af then allIn cls af l else false
def allBelow (l : List Nat) : Nat → Bool
  | 0 => true
  | k + 1 => bif memB l k then allBelow l k else false
/-- from number i on -/
def headQ (n : Nat) (cls : List (List Nat)) (m : Nat) : Nat → List Oper → Bool
  | _, [] => true
  | i, o :: l => bif backQ i o.after.toList then (bif allIn cls o.after.toList (clsAt cls i) then
      (bif Nat.blt i m then (bif (match o.dst with
        | some d => bif Nat.blt d n then noDst d l (m - (i + 1)) else false
        | none => true) then headQ n cls m (i + 1) l else false)
      else (bif allBelow (clsAt cls i) i then headQ n cls m (i + 1) l else false)) else false) else false
where
  noDst (d : Nat) : List Oper → Nat → Bool
    | [], _ => true
    | _, 0 => true
    | o :: l, k + 1 => match o.dst with
      | some e => bif Nat.beq d e then false else noDst d l k
      | none => noDst d l k
theorem memB_mem : ∀ {l : List Nat} {j : Nat}, memB l j = true ↔ j ∈ l
  | [], j => by simp [memB]
  | d :: l, j => by
    unfold memB
    cases e : Nat.beq j d with
    | true => have := Nat.eq_of_beq_eq_true e; simp [this]
    | false =>
      have := Nat.ne_of_beq_eq_false e
      simp [this, memB_mem (l := l)]
theorem dstOf_at {L : List Oper} {i : Nat} {o : Oper} (h : L[i]? = some o) : dstOf L i = o.dst := by
  rw [← dstOf_eq]
  simp [h]
theorem findW_spec {L : List Oper} {t : Nat} : ∀ {l : List Nat} {j : Nat}, findW L t l = some j → j ∈ l ∧ dstOf L j = some t
  | [], j, h => by cases h
  | k :: l, j, h => by
    unfold findW at h
    cases hd : dstOf L k with
    | none => simp only [hd] at h; obtain ⟨h1, h2⟩ := findW_spec h; exact ⟨by simp [h1], h2⟩
    | some d =>
      simp only [hd] at h
      cases e : Nat.beq d t with
      | true =>
        rw [e] at h
        injection h with h
        subst h
        exact ⟨by simp, by rw [hd, Nat.eq_of_beq_eq_true e]⟩
      | false =>
        rw [e] at h
        obtain ⟨h1, h2⟩ := findW_spec h
        exact ⟨by simp [h1], h2⟩
theorem oldB_spec {L : List Oper} {cls : List (List Nat)} {i t : Nat} : ∀ {m : Nat}, oldB L cls i t m = true → ∀ k, k < m → dstOf L k = some t → k = i ∨ i ∈ clsAt cls k
  | 0, _, k, hk, _ => by omega
  | m + 1, h, k, hk, hd => by
    unfold oldB at h
    by_cases e : k = m
    · subst e
      simp only [hd, Nat.beq_refl, cond_true] at h
      cases e1 : Nat.beq k i with
      | true => exact .inl (Nat.eq_of_beq_eq_true e1)
      | false =>
        rw [e1] at h
        cases e2 : memB (clsAt cls k) i with
        | true => exact .inr (memB_mem.1 e2)
        | false => rw [e2] at h; cases h
    · refine oldB_spec (m := m) ?_ k (by omega) hd
      revert h
      generalize (match dstOf L m with
      | some d => bif Nat.beq d t then (bif Nat.beq m i then true else memB (clsAt cls m) i) else true
      | none => true) = b
      cases b <;> simp
theorem inCls_spec {cls : List (List Nat)} {j : Nat} : ∀ {l : List Edge}, inCls cls j l = true → ∃ e ∈ l, Region.binds .any e = true ∧ (e.on = j ∨ j ∈ clsAt cls e.on)
  | [], h => by cases h
  | e :: l, h => by
    unfold inCls at h
    cases hb : Region.binds .any e with
    | false => rw [hb] at h; obtain ⟨e', h1, h2⟩ := inCls_spec h; exact ⟨e', by simp [h1], h2⟩
    | true =>
      rw [hb] at h
      cases h1 : Nat.beq e.on j with
      | true => exact ⟨e, by simp, hb, .inl (Nat.eq_of_beq_eq_true h1)⟩
      | false =>
        rw [h1] at h
        cases h2 : memB (clsAt cls e.on) j with
        | true => exact ⟨e, by simp, hb, .inr (memB_mem.1 h2)⟩
        | false => rw [h2] at h; obtain ⟨e', h3, h4⟩ := inCls_spec h; exact ⟨e', by simp [h3], h4⟩
theorem allIn_spec {cls : List (List Nat)} {af : List Edge} : ∀ {l : List Nat}, allIn cls af l = true → ∀ j ∈ l, inCls cls j af = true
  | [], _, j, h => by cases h
  | k :: l, h, j, hj => by
    unfold allIn at h
    cases h1 : inCls cls k af with
    | false => rw [h1] at h; cases h
    | true =>
      rw [h1] at h
      rcases List.mem_cons.1 hj with rfl | hj
      · exact h1
      · exact allIn_spec h j hj
theorem allBelow_spec {l : List Nat} : ∀ {k : Nat}, allBelow l k = true → ∀ j, j < k → j ∈ l
  | 0, _, j, h => by omega
  | k + 1, h, j, hj => by
    unfold allBelow at h
    cases h1 : memB l k with
    | false => rw [h1] at h; cases h
    | true =>
      rw [h1] at h
      by_cases e : j = k
      · subst e; exact memB_mem.1 h1
      · exact allBelow_spec h j (by omega)
theorem noDst_spec {d : Nat} : ∀ {l : List Oper} {k : Nat}, headQ.noDst d l k = true → ∀ j o, l[j]? = some o → j < k → o.dst ≠ some d
  | [], _, _, j, o, h, _ => by simp at h
  | x :: l, 0, _, j, o, h, hj => by omega
  | x :: l, k + 1, h, j, o, ho, hj => by
    unfold headQ.noDst at h
    have hx : x.dst ≠ some d ∧ headQ.noDst d l k = true := by
      cases hd : x.dst with
      | none => rw [hd] at h; exact ⟨by simp, h⟩
      | some e =>
        rw [hd] at h
        simp only at h
        cases h1 : Nat.beq d e with
        | true => rw [h1] at h; cases h
        | false =>
          rw [h1] at h
          refine ⟨fun e' => ?_, h⟩
          injection e' with e'
          exact Nat.ne_of_beq_eq_false h1 e'.symm
    cases j with
    | zero => simp at ho; subst ho; exact hx.1
    | succ j => exact noDst_spec hx.2 j o (by simpa using ho) (by omega)
structure HeadOk (n : Nat) (cls : List (List Nat)) (m : Nat) (L : List Oper) : Prop where
  dep : ∀ i o, L[i]? = some o → ∀ j ∈ clsAt cls i, ∃ e ∈ o.after, Region.binds .any e = true ∧ (e.on = j ∨ j ∈ clsAt cls e.on)
  back : ∀ i o, L[i]? = some o → ∀ e ∈ o.after, Region.binds .any e = true → e.on < i
  small : ∀ i o d, L[i]? = some o → i < m → o.dst = some d → d < n
  dist : ∀ i j o p d, L[i]? = some o → L[j]? = some p → i < j → j < m → o.dst = some d → p.dst ≠ some d
  tail : ∀ i o, L[i]? = some o → m ≤ i → ∀ j, j < i → j ∈ clsAt cls i
theorem headQ_step {n : Nat} {cls : List (List Nat)} {m : Nat} : ∀ {l : List Oper} {k : Nat}, headQ n cls m k l = true →
    (∀ i o, l[i]? = some o → ∀ j ∈ clsAt cls (k + i), ∃ e ∈ o.after, Region.binds .any e = true ∧ (e.on = j ∨ j ∈ clsAt cls e.on)) ∧
    (∀ i o, l[i]? = some o → ∀ e ∈ o.after, Region.binds .any e = true → e.on < k + i) ∧
    (∀ i o d, l[i]? = some o → k + i < m → o.dst = some d → d < n) ∧
    (∀ i j o p d, l[i]? = some o → l[j]? = some p → i < j → k + j < m → o.dst = some d → p.dst ≠ some d) ∧
    (∀ i o, l[i]? = some o → m ≤ k + i → ∀ j, j < k + i → j ∈ clsAt cls (k + i))
  | [], k, _ => ⟨by simp, by simp, by simp, by simp, by simp⟩
  | o :: l, k, h => by
    unfold headQ at h
    cases h1 : backQ k o.after.toList with
    | false => rw [h1] at h; cases h
    | true =>
    rw [h1] at h
    cases h2 : allIn cls o.after.toList (clsAt cls k) with
    | false => rw [h2] at h; cases h
    | true =>
    rw [h2] at h
    simp only [cond_true] at h
    have hrec : headQ n cls m (k + 1) l = true := by
      revert h
      cases Nat.blt k m
      · cases allBelow (clsAt cls k) k <;> simp
      · simp only [cond_true]
        generalize (match o.dst with
        | some d => bif Nat.blt d n then headQ.noDst d l (m - (k + 1)) else false
        | none => true) = b
        cases b <;> simp
    obtain ⟨a1, a2, a3, a4, a5⟩ := headQ_step hrec
    refine ⟨?_, ?_, ?_, ?_, ?_⟩
    · intro i p hp j hj
      cases i with
      | zero =>
        simp at hp; subst hp
        obtain ⟨e, he, hb⟩ := inCls_spec (allIn_spec h2 j hj)
        exact ⟨e, by simpa using he, hb⟩
      | succ i => exact a1 i p (by simpa using hp) j (by rwa [show k + (i + 1) = k + 1 + i by omega] at hj)
    · intro i p hp e he hb
      cases i with
      | zero => simp at hp; subst hp; exact back_of h1 e (by simpa using he) hb
      | succ i => have := a2 i p (by simpa using hp) e he hb; omega
    · intro i p d hp hlt hd
      cases i with
      | zero =>
        simp at hp; subst hp
        have hb : Nat.blt k m = true := by simpa [Nat.blt_eq] using hlt
        rw [hb, hd] at h
        simp only [cond_true] at h
        cases h3 : Nat.blt d n with
        | true => simpa [Nat.blt_eq] using h3
        | false => rw [h3] at h; cases h
      | succ i => exact a3 i p d (by simpa using hp) (by omega) hd
    · intro i j p q d hp hq hij hlt hd
      cases i with
      | zero =>
        simp at hp; subst hp
        have hb : Nat.blt k m = true := by have : k < m := by omega
                                           simpa [Nat.blt_eq] using this
        rw [hb, hd] at h
        simp only [cond_true] at h
        cases h3 : Nat.blt d n with
        | false => rw [h3] at h; cases h
        | true =>
        rw [h3] at h
        simp only [cond_true] at h
        cases h4 : headQ.noDst d l (m - (k + 1)) with
        | false => rw [h4] at h; cases h
        | true =>
        cases j with
        | zero => omega
        | succ j => exact noDst_spec h4 j q (by simpa using hq) (by omega)
      | succ i =>
        cases j with
        | zero => omega
        | succ j => exact a4 i j p q d (by simpa using hp) (by simpa using hq) (by omega) (by omega) hd
    · intro i p hp hm j hj
      cases i with
      | zero =>
        have hb : Nat.blt k m = false := by
          rw [← Bool.not_eq_true, Nat.blt_eq]; omega
        rw [hb] at h
        simp only [cond_false] at h
        cases h4 : allBelow (clsAt cls k) k with
        | false => rw [h4] at h; cases h
        | true => exact allBelow_spec h4 j hj
      | succ i =>
        rw [show k + (i + 1) = k + 1 + i by omega]
        exact a5 i p (by simpa using hp) (by omega) j (by omega)
theorem headQ_ok {n : Nat} {cls : List (List Nat)} {m : Nat} {L : List Oper} (h : headQ n cls m 0 L = true) : HeadOk n cls m L := by
  obtain ⟨a1, a2, a3, a4, a5⟩ := headQ_step h
  simp only [Nat.zero_add] at a1 a2 a3 a4 a5
  exact ⟨a1, a2, a3, a4, a5⟩
section
variable {P : Program} {n : Nat} {σ : Sg} {w : World} {Q : Exit → Act → World → Prop} {L : List Oper}
/-- what stands in the way of operation i of the head -/
def HStep (P : Program) (n : Nat) (L : List Oper) (Q : Exit → Act → World → Prop) (cls : List (List Nat)) (m : Nat) (alc : List Nat) (σ : Sg) (w : World) (Φ : Nat → (Nat → Value) → World → Prop) (i : Nat) : Prop :=
  ∀ (val : Nat → Value) (w1 : World) (a : Act), Below w.heap.size w w1 → Env n (sgAt L cls m σ val i) a → (∀ j, j ∈ clsAt cls i → Φ j (res val j (clsAt cls j)) w1) →
    wpOp P L.toArray Q i (fun a' w' => ∃ v, a' = a.put (dstOf L i) v ∧ Below w1.heap.size w1 w' ∧ Φ i (res (upd val i v) i (clsAt cls i)) w' ∧ (i ∈ alc → v = .pointer (some ⟨w1.heap.size, 0, none⟩) ∧ w1.heap.size < w'.heap.size)) a w1
/-- the blocks that were made here are apart -/
def Alc (alc : List Nat) (m : Nat) (val : Nat → Value) (w w' : World) : Prop :=
  (∀ i ∈ alc, i < m → ∃ g, val i = .pointer (some ⟨g, 0, none⟩) ∧ w.heap.size ≤ g ∧ g < w'.heap.size) ∧ ∀ i ∈ alc, ∀ j ∈ alc, i < m → j < m → i ≠ j → val i ≠ val j
/-- when some of the head have come up -/
structure HInv (n : Nat) (L : List Oper) (cls : List (List Nat)) (m : Nat) (alc : List Nat) (σ : Sg) (w : World) (Φ : Nat → (Nat → Value) → World → Prop) (D : Array Bool) (val : Nat → Value) (a : Act) (w' : World) : Prop where
  below : Below w.heap.size w w'
  size : a.tmps.size = n
  defers : a.defers = []
  new : ∀ i d, i < m → D.getD i false = true → dstOf L i = some d → a.tmps[d]? = some (val i)
  old : ∀ t v, σ t = some v → (∀ k, k < m → D.getD k false = true → dstOf L k ≠ some t) → a.tmps[t]? = some v
  says : ∀ i, i < m → D.getD i false = true → Φ i (res val i (clsAt cls i)) w'
  down : ∀ i, D.getD i false = true → ∀ j ∈ clsAt cls i, D.getD j false = true
  alc1 : ∀ i ∈ alc, i < m → D.getD i false = true → ∃ g, val i = .pointer (some ⟨g, 0, none⟩) ∧ w.heap.size ≤ g ∧ g < w'.heap.size
  alc2 : ∀ i ∈ alc, ∀ j ∈ alc, i < m → j < m → D.getD i false = true → D.getD j false = true → i ≠ j → val i ≠ val j
  high : ∀ i, m ≤ i → D.getD i false = false
theorem res_upd {val : Nat → Value} {i j : Nat} {v : Value} {l : List Nat} (hj : j ≠ i) (hl : i ∉ l) : res (upd val i v) j l = res val j l := by
  funext k
  unfold res
  cases e : Nat.beq k j with
  | true => have := Nat.eq_of_beq_eq_true e; subst this; simp [upd, hj]
  | false =>
    cases e2 : memB l k with
    | true =>
      have : k ≠ i := fun h => hl (h ▸ memB_mem.1 e2)
      simp [upd, this]
    | false => rfl
theorem getD_false_of {D : Array Bool} {i : Nat} (hi : i < D.size) (h : D.getD i true = false) : D.getD i false = false := by
  simp [Array.getD, hi] at h ⊢
  exact h
theorem set_get {D : Array Bool} {i : Nat} (hi : i < D.size) (k : Nat) : (D.setIfInBounds i true).getD k false = if k = i then true else D.getD k false := by
  by_cases e : k = i
  · subst e; simp [Array.getD, hi]
  · rw [if_neg e]
    by_cases hk : k < D.size
    · simp [Array.getD, hk, Ne.symm e]
    · simp [Array.getD, hk]
theorem EC.regionP {id : Nat} (cls : List (List Nat)) (m : Nat) (alc : List Nat) (Φ : Nat → (Nat → Value) → World → Prop) (hf : P.follows .mixedOrders = true) (hq : headQ n cls m 0 L = true) (hml : Nat.ble m L.length = true)
    (hmono : ∀ i r w1 w2, Below w1.heap.size w1 w2 → Φ i r w1 → Φ i r w2)
    (hstep : ∀ i, i < m → HStep P n L Q cls m alc σ w Φ i)
    (hend : ∀ val w', Below w.heap.size w w' → Alc alc m val w w' → (∀ i, i < m → Φ i (res val i (clsAt cls i)) w') → EL P n L Q (L.drop m) (sgEnd L σ val m) w') : EC P n (.region id L.toArray true) Q σ w := by
  have hm : m ≤ L.length := by simpa [Nat.ble_eq] using hml
  have H := headQ_ok hq
  have hback : backB L.toArray = true := by
    refine List.all_eq_true.2 fun i hi => ?_
    have hi' : i < L.length := by simpa using hi
    have ho : L.toArray[i]? = some L[i] := by simp [hi']
    rw [ho]
    refine Array.all_eq_true_iff_forall_mem.2 fun e he => ?_
    cases hb : Region.binds .any e with
    | false => rfl
    | true => simpa using H.back i L[i] (by simp [hi']) e he hb
  intro a ha
  -- the tail's part
  have tailDone : ∀ (D : Array Bool) (i : Nat) (o : Oper), (∀ i, D.getD i false = true → ∀ j ∈ clsAt cls i, D.getD j false = true) → L[i]? = some o → (∀ e ∈ o.after, Region.binds .any e = true → D.getD e.on false = true) → ∀ j ∈ clsAt cls i, D.getD j false = true := by
    intro D i o hdown ho hdep j hj
    obtain ⟨e, he, hb, h⟩ := H.dep i o ho j hj
    rcases h with rfl | h
    · exact hdep e he hb
    · exact hdown _ (hdep e he hb) j h
  have hEnd : ∀ (D : Array Bool) (val : Nat → Value) (a : Act) (w' : World), HInv n L cls m alc σ w Φ D val a w' → (∀ i, i < m → D.getD i false = true) → wpList P L.toArray Q (L.drop m) a w' := by
    intro D val a w' I hall
    refine hend val w' I.below ⟨fun i hi hlt => I.alc1 i hi hlt (hall i hlt), fun i hi j hj h1 h2 hne => I.alc2 i hi j hj h1 h2 (hall i h1) (hall j h2) hne⟩ (fun i hi => I.says i hi (hall i hi)) a ⟨I.size, I.defers, ?_⟩
    have : ∀ k, k ≤ m → ∀ t v, sgEnd L σ val k t = some v → (∀ j, k ≤ j → j < m → dstOf L j ≠ some t) → a.tmps[t]? = some v := by
      intro k
      induction k with
      | zero => intro _ t v ht hn; exact I.old t v ht fun j hj _ => hn j (Nat.zero_le _) hj
      | succ k ih =>
        intro hk t v ht hn
        unfold sgEnd at ht
        cases hd : dstOf L k with
        | none =>
          simp only [hd] at ht
          exact ih (by omega) t v ht fun j h1 h2 => by
            rcases Nat.lt_or_ge k j with h | h
            · exact hn j h h2
            · obtain rfl : j = k := by omega
              rw [hd]; simp
        | some d =>
          simp only [hd] at ht
          unfold ins at ht
          cases e : Nat.beq t d with
          | true =>
            rw [e] at ht
            have e' := Nat.eq_of_beq_eq_true e
            subst e'
            rw [I.new k t (by omega) (hall k (by omega)) hd]
            exact ht
          | false =>
            rw [e] at ht
            exact ih (by omega) t v ht fun j h1 h2 => by
              rcases Nat.lt_or_ge k j with h | h
              · exact hn j h h2
              · obtain rfl : j = k := by omega
                rw [hd]
                intro e2
                injection e2 with e2
                exact Nat.ne_of_beq_eq_false e e2.symm
    exact fun t v ht => this m (Nat.le_refl _) t v ht fun j h1 h2 => by omega
  refine wp_region_inv hf hback (fun D a w' => (∃ val, HInv n L cls m alc σ w Φ D val a w') ∨ ∃ k, m < k ∧ k ≤ L.length ∧ (∀ i, D.getD i false = decide (i < k)) ∧ wpList P L.toArray Q (L.drop k) a w') ?_ ?_ ?_
  · left
    have hno : ∀ i, (Array.replicate L.toArray.size false).getD i false = false := fun i => by
      by_cases h : i < L.toArray.size
      · simp [Array.getD]
      · simp [Array.getD]
    refine ⟨fun _ => undef, ⟨⟨rfl, rfl, rfl, Nat.le_refl _, fun _ _ => rfl⟩, ha.size, ha.defers, ?_, fun t v ht _ => ha.get t v ht, ?_, ?_, ?_, ?_, fun i _ => hno i⟩⟩
    · intro i d _ h; rw [hno] at h; cases h
    · intro i _ h; rw [hno] at h; cases h
    · intro i h; rw [hno] at h; cases h
    · intro i _ _ h; rw [hno] at h; cases h
    · intro i _ j _ _ _ h; rw [hno] at h; cases h
  · intro D a w1 i o hs hI hni ho hdep
    have hs' : D.size = L.length := by simpa using hs
    have ho' : L[i]? = some o := by simpa using ho
    have hil : i < L.length := (List.getElem?_eq_some_iff.1 ho').1
    have hnd : D.getD i false = false := getD_false_of (by omega) hni
    have takeTail : ∀ (k : Nat), k = i → m ≤ k → (∀ j, D.getD j false = decide (j < k)) → wpList P L.toArray Q (L.drop k) a w1 →
        wpOp P L.toArray Q i (fun a w' => (∃ val, HInv n L cls m alc σ w Φ (D.setIfInBounds i true) val a w') ∨ ∃ k, m < k ∧ k ≤ L.length ∧ (∀ j, (D.setIfInBounds i true).getD j false = decide (j < k)) ∧ wpList P L.toArray Q (L.drop k) a w') a w1 := by
      intro k hk hmk hD hw
      subst hk
      rw [List.drop_eq_getElem_cons hil] at hw
      have e : L[k] = o := by rw [List.getElem?_eq_getElem hil] at ho'; injection ho'
      rw [e] at hw
      unfold wpList at hw
      have hnext : ∀ a w', wpList P L.toArray Q (L.drop (k + 1)) a w' → (∃ val, HInv n L cls m alc σ w Φ (D.setIfInBounds k true) val a w') ∨ ∃ k', m < k' ∧ k' ≤ L.length ∧ (∀ j, (D.setIfInBounds k true).getD j false = decide (j < k')) ∧ wpList P L.toArray Q (L.drop k') a w' := fun a w' h => .inr ⟨k + 1, by omega, by omega, fun j => by
        rw [set_get (by omega)]
        by_cases e : j = k
        · subst e; simp
        · rw [if_neg e, hD]
          by_cases h : j < k
          · simp [h]; omega
          · simp [h]; omega, h⟩
      unfold wpOp
      simp only [ho]
      split
      · rename_i hw'
        rw [if_pos hw'] at hw
        rcases hw with h | h
        · exact .inl (Oper.wp_mono hnext h)
        · exact .inr h
      · rename_i hw'
        rw [if_neg hw'] at hw
        exact hnext _ _ hw
    rcases hI with ⟨val, I⟩ | ⟨k, hmk, hkl, hD, hw⟩
    · have hcd := tailDone D i o I.down ho' hdep
      rcases Nat.lt_or_ge i m with him | him
      · have henv : Env n (sgAt L cls m σ val i) a := by
          refine ⟨I.size, I.defers, fun t v ht => ?_⟩
          unfold sgAt at ht
          cases hfw : findW L t (clsAt cls i) with
          | some j =>
            simp only [hfw] at ht
            obtain ⟨h1, h2⟩ := findW_spec hfw
            injection ht with ht
            have hj := hcd j h1
            have hjm : j < m := by
              rcases Nat.lt_or_ge j m with h | h
              · exact h
              · rw [I.high j h] at hj; cases hj
            rw [I.new j t hjm hj h2, ht]
          | none =>
            simp only [hfw] at ht
            cases hob : oldB L cls i t m with
            | false => rw [hob] at ht; cases ht
            | true =>
              rw [hob] at ht
              refine I.old t v ht fun k hk hdk hd => ?_
              rcases oldB_spec hob k hk hd with rfl | h
              · rw [hnd] at hdk; cases hdk
              · have := I.down k hdk i h
                rw [hnd] at this; cases this
        have hjm : ∀ j, D.getD j false = true → j < m := fun j hj => by
          rcases Nat.lt_or_ge j m with h | h
          · exact h
          · rw [I.high j h] at hj; cases hj
        refine wpOp_mono ?_ (hstep i him val w1 a I.below henv fun j hj => I.says j (hjm j (hcd j hj)) (hcd j hj))
        rintro a' w' ⟨v, rfl, hb, hphi, halc⟩
        left
        have hgrow : Below w.heap.size w w' := I.below.trans (hb.mono I.below.size)
        have hdi : dstOf L i = o.dst := dstOf_at ho'
        refine ⟨upd val i v, ⟨hgrow, ?_, ?_, ?_, ?_, ?_, ?_, ?_, ?_, ?_⟩⟩
        · rw [put_size]; exact I.size
        · cases dstOf L i <;> exact I.defers
        · intro k d hk hdk hd
          rw [set_get (by omega)] at hdk
          by_cases e : k = i
          · subst e
            have hdn : d < n := H.small k o d ho' hk (by rw [← hdi]; exact hd)
            rw [hd]
            simp only [Act.put, upd, if_true]
            rw [Array.getElem?_setIfInBounds_self_of_lt (by rw [I.size]; exact hdn)]
          · rw [if_neg e] at hdk
            have hok : ∃ p, L[k]? = some p := ⟨L[k]'(by omega), by simp [show k < L.length by omega]⟩
            obtain ⟨p, hp⟩ := hok
            have hne : dstOf L i ≠ some d := by
              intro h'
              rcases Nat.lt_or_gt_of_ne e with hlt | hgt
              · exact H.dist k i p o d hp ho' hlt him (by rw [← dstOf_at hp]; exact hd) (by rw [← hdi]; exact h')
              · exact H.dist i k o p d ho' hp hgt hk (by rw [← hdi]; exact h') (by rw [← dstOf_at hp]; exact hd)
            have := I.new k d hk hdk hd
            simp only [upd, if_neg e]
            cases hdi' : dstOf L i with
            | none => exact this
            | some d' =>
              have : d' ≠ d := fun h => hne (by rw [hdi', h])
              simp only [Act.put, Array.getElem?_setIfInBounds_ne this]
              assumption
        · intro t u ht hno
          have h1 : a.tmps[t]? = some u := I.old t u ht fun k hk hdk => hno k hk (by rw [set_get (by omega)]; split <;> simp [hdk])
          have h2 : dstOf L i ≠ some t := hno i him (by rw [set_get (by omega), if_pos rfl])
          cases hdi' : dstOf L i with
          | none => exact h1
          | some d' =>
            have : d' ≠ t := fun h => h2 (by rw [hdi', h])
            simp only [Act.put, Array.getElem?_setIfInBounds_ne this]
            exact h1
        · intro k hk hdk
          rw [set_get (by omega)] at hdk
          by_cases e : k = i
          · subst e; exact hphi
          · rw [if_neg e] at hdk
            have hni' : i ∉ clsAt cls k := fun h => by
              have := I.down k hdk i h
              rw [hnd] at this; cases this
            rw [res_upd e hni']
            exact hmono k _ w1 w' hb (I.says k hk hdk)
        · intro k hdk j hj
          rw [set_get (by omega)] at hdk ⊢
          by_cases e : k = i
          · subst e
            rw [hcd j hj]; simp
          · rw [if_neg e] at hdk
            rw [I.down k hdk j hj]; simp
        · intro k hk hkm hdk
          rw [set_get (by omega)] at hdk
          by_cases e : k = i
          · subst e
            obtain ⟨h1, h2⟩ := halc hk
            exact ⟨w1.heap.size, by simp [upd, h1], I.below.size, h2⟩
          · rw [if_neg e] at hdk
            obtain ⟨g, h1, h2, h3⟩ := I.alc1 k hk hkm hdk
            exact ⟨g, by simp [upd, e, h1], h2, Nat.lt_of_lt_of_le h3 hb.size⟩
        · intro k hk j hj hkm hjm' hdk hdj hne
          rw [set_get (by omega)] at hdk hdj
          by_cases e : k = i
          · subst e
            have e2 : j ≠ k := Ne.symm hne
            rw [if_neg e2] at hdj
            obtain ⟨h1, _⟩ := halc hk
            obtain ⟨g, h3, _, h5⟩ := I.alc1 j hj hjm' hdj
            simp only [upd, if_true, if_neg e2, h1, h3]
            intro h
            injection h with h
            injection h with h
            injection h with h
            omega
          · rw [if_neg e] at hdk
            by_cases e2 : j = i
            · subst e2
              obtain ⟨h1, _⟩ := halc hj
              obtain ⟨g, h3, _, h5⟩ := I.alc1 k hk hkm hdk
              simp only [upd, if_true, if_neg e, h1, h3]
              intro h
              injection h with h
              injection h with h
              injection h with h
              omega
            · rw [if_neg e2] at hdj
              simp only [upd, if_neg e, if_neg e2]
              exact I.alc2 k hk j hj hkm hjm' hdk hdj hne
        · intro k hk
          rw [set_get (by omega), if_neg (by omega)]
          exact I.high k hk
      · have hall : ∀ j, j < i → D.getD j false = true := fun j hj => hcd j (H.tail i o ho' him j hj)
        have him' : i = m := by
          rcases Nat.lt_or_ge m i with h | h
          · have := hall m h
            rw [I.high m (Nat.le_refl _)] at this; cases this
          · omega
        subst him'
        exact takeTail i rfl (Nat.le_refl _) (fun j => by
          by_cases h : j < i
          · rw [hall j h]; simp [h]
          · rw [I.high j (by omega)]; simp [h]) (hEnd D val a w1 I hall)
    · have hcd : ∀ j, j < i → D.getD j false = true := fun j hj => by
        have hmi : m ≤ i := by
          have := hD i
          rw [hnd] at this
          have : ¬ i < k := by simpa using this.symm
          omega
        have hdn : ∀ i, D.getD i false = true → ∀ j ∈ clsAt cls i, D.getD j false = true := by
          intro x hx y hy
          rw [hD] at hx ⊢
          have hx' : x < k := by simpa using hx
          obtain ⟨p, hp⟩ : ∃ p, L[x]? = some p := ⟨L[x]'(by omega), by simp [show x < L.length by omega]⟩
          have : ∀ (x : Nat) (p : Oper), L[x]? = some p → ∀ y ∈ clsAt cls x, y < x := by
            intro x
            induction x using Nat.strongRecOn with
            | ind x ih =>
              intro p hp y hy
              obtain ⟨e, he, hb, h⟩ := H.dep x p hp y hy
              have h1 := H.back x p hp e he hb
              rcases h with rfl | h
              · exact h1
              · obtain ⟨q, hq⟩ : ∃ q, L[e.on]? = some q := by
                  have : x < L.length := (List.getElem?_eq_some_iff.1 hp).1
                  exact ⟨L[e.on]'(by omega), by simp [show e.on < L.length by omega]⟩
                have := ih e.on h1 q hq y h
                omega
          have := this x p hp y hy
          simp
          omega
        exact tailDone D i o hdn ho' hdep j (H.tail i o ho' hmi j hj)
      have hik : k = i := by
        have h1 := hD i
        rw [hnd] at h1
        have h2 : ¬ i < k := by simpa using h1.symm
        rcases Nat.lt_or_ge k i with h | h
        · have := hcd k h
          rw [hD] at this
          simp at this
        · omega
      exact takeTail k hik (by omega) hD hw
  · intro D a w1 hs hI hall
    have hs' : D.size = L.length := by simpa using hs
    rcases hI with ⟨val, I⟩ | ⟨k, hmk, hkl, hD, hw⟩
    · have hmL : m = L.length := by
        rcases Nat.lt_or_ge m L.length with h | h
        · have := hall m (by simpa using h)
          rw [I.high m (Nat.le_refl _)] at this; cases this
        · omega
      have := hEnd D val a w1 I fun i hi => hall i (by simp; omega)
      rw [hmL, List.drop_length] at this
      exact this
    · have hk : k = L.length := by
        rcases Nat.lt_or_ge k L.length with h | h
        · have := hall k (by simpa using h)
          rw [hD] at this
          simp at this
        · omega
      rw [hk, List.drop_length] at hw
      exact hw
end
end Go.Proofs.Ytncnlhkmdljgpaa
/- What operations on memory do, for the walk of XE1: new blocks, stores into one's own block, appends. -/
namespace Go.Proofs.Ytncnlhkmdljgpaa
open Go Go.RowKit
theorem below_load {w w' : World} (hb : Below w.heap.size w w') {p : Addr} {v : Value} (h : w.cell? p = some v) : w'.cell? p = some v := (hb.cell (block_lt_of_cell h)).trans h
def nth : List Value → Nat → Option Value
  | [], _ => none
  | v :: _, 0 => some v
  | _ :: l, k + 1 => nth l k
theorem nth_eq : ∀ (l : List Value) (k : Nat), nth l k = l[k]?
  | [], _ => rfl
  | _ :: _, 0 => rfl
  | _ :: l, k + 1 => by simpa [nth] using nth_eq l k
def ovr : List Value → List Value → List Value
  | l, [] => l
  | [], _ => []
  | _ :: l, v :: vs => v :: ovr l vs
/-- what is stored at offset o -/
def spl : List Value → Nat → List Value → List Value
  | l, 0, vs => ovr l vs
  | [], _, _ => []
  | x :: l, o + 1, vs => x :: spl l o vs
theorem ovr_eq : ∀ (l vs : List Value), vs.length ≤ l.length → ovr l vs = vs ++ l.drop vs.length
  | l, [], _ => by cases l <;> simp [ovr]
  | [], v :: vs, h => by simp at h
  | x :: l, v :: vs, h => by simp [ovr, ovr_eq l vs (by simpa using h)]
theorem spl_eq : ∀ (l : List Value) (o : Nat) (vs : List Value), o + vs.length ≤ l.length → spl l o vs = l.take o ++ vs ++ l.drop (o + vs.length)
  | [], 0, vs, h => by
    have e : vs = [] := List.eq_nil_of_length_eq_zero (by simpa using h)
    subst e
    rfl
  | x :: l, 0, vs, h => by
    have := ovr_eq (x :: l) vs (by simpa using h)
    simp [spl, this]
  | [], o + 1, vs, h => by simp at h
  | x :: l, o + 1, vs, h => by
    have := spl_eq l o vs (by simp at h; omega)
    simp [spl, this, show o + 1 + vs.length = o + vs.length + 1 by omega]
def lenV : List Value → Nat
  | [] => 0
  | _ :: l => lenV l + 1
theorem lenV_eq : ∀ l : List Value, lenV l = l.length
  | [] => rfl
  | _ :: l => by simp [lenV, lenV_eq l]
def allOne : List Value → Bool
  | [] => true
  | v :: l => bif v.oneCell' then allOne l else false
theorem allOne_mem : ∀ {l : List Value}, allOne l = true → ∀ v ∈ l, v.oneCell' = true
  | [], _, v, h => by cases h
  | x :: l, h, v, hv => by
    unfold allOne at h
    cases hx : x.oneCell' with
    | false => rw [hx] at h; cases h
    | true =>
      rw [hx] at h
      rcases List.mem_cons.1 hv with rfl | hv
      · exact hx
      · exact allOne_mem h v hv
section
variable {w w' : World} {g : Nat} {T : TypeId} {l : List Value}
theorem Blk.at {v : Value} (h : Blk w g T l.toArray) {j : Nat} (hj : nth l j = some v) : w.cell? ⟨g, j, none⟩ = some v := by
  rw [h.cell, ← hj, nth_eq]
  simp
end
section
variable {P : Program} {n : Nat} {σ : Sg} {w : World} {Q : Exit → Act → World → Prop} {L : List Oper} {rest : List Oper}
theorem run_storeAt {t T : TypeId} {g o k : Nat} {l l' : List Value} {v : Value} (hs : (P.info? t).map (·.size) = some k) (hb : Blk w g T l.toArray) (hv : v.cells.toList = l') (hk : lenV l' = k) (ho : Nat.ble (o + k) (lenV l) = true) (h1 : allOne l' = true) :
    (Instr.storeAt t (.pointer (some ⟨g, o, none⟩)) v).run P w = .ok () (w.setRow g (spl l o l').toArray) := by
  have hl : l'.length = k := by rw [← lenV_eq]; exact hk
  have hlo : o + k ≤ l.length := by rw [← lenV_eq]; simpa [Nat.ble_eq] using ho
  have hsz : v.cells.size = k := by rw [← hl, ← hv, Array.length_toList]
  have hst := run_storeCells_at P g o T l' 0 l.toArray w hb (by simp; omega) (allOne_mem h1)
  rw [spl_eq l o l' (by omega)]
  cases hq : P.info? t with
  | none => rw [hq] at hs; cases hs
  | some i =>
    have hi : i.size = k := by simpa [hq] using hs
    simp only [Nat.add_zero] at hst
    simp [Instr.storeAt, Instr.sureAddr, storeVar, sizeOf, typeInfo, hq, hi, hsz, hv, hst]
theorem setRow_blk {g : Nat} {T : TypeId} {cs ds : Array Value} (h : Blk w g T cs) : Blk (w.setRow g ds) g T ds := setRow_heap w g cs ds T (0, 0) h
theorem setRow_grown (w : World) (g : Nat) (ds : Array Value) : w.grownBy (w.setRow g ds) (some g) := by
  have e : ∀ k, k ≠ g → (w.setRow g ds).heap[k]? = w.heap[k]? := fun k hk => by
    unfold World.setRow
    simp only [Array.getElem?_modify]
    rw [if_neg (Ne.symm hk)]
  exact ⟨rfl, rfl, rfl, by simp [World.setRow], fun k _ hne => e k (fun h => hne (by rw [h]))⟩
/-- a store into one's own block -/
theorem EL.store {ty t T g o k : Nat} {x y : Operand} {pos : String} {af : Array Edge} {l l' : List Value} {v : Value} (hx : evS σ x = some (.pointer (some ⟨g, o, none⟩))) (hy : evS σ y = some v) (hb : Blk w g T l.toArray) (hs : (P.info? t).map (·.size) = some k) (hv : v.cells.toList = l') (hk : lenV l' = k) (ho : Nat.ble (o + k) (lenV l) = true) (h1 : allOne l' = true)
    (next : ∀ w', Blk w' g T (spl l o l').toArray → w.grownBy w' (some g) → EL P n L Q rest σ w') : EL P n L Q (⟨none, .store t x y, ty, pos, af, none⟩ :: rest) σ w := fun a ha => by
  unfold wpList
  rw [if_pos (wanted_none rfl _)]
  left
  unfold Oper.wp
  have hr : (execOp a.eval ⟨none, .store t x y, ty, pos, af, none⟩).run P w = .ok .skip (w.setRow g (spl l o l').toArray) := by
    simp only [execOp, ha.eval hx, ha.eval hy, Sem.run_bind, run_storeAt hs hb hv hk ho h1, Result.andThen_ok]
    rfl
  rw [hr, Oper.upon_skip]
  exact next _ (setRow_blk hb) (setRow_grown _ _ _) a ha
/-- a new block -/
theorem EL.new {d ty : Nat} {op : Op} {pos : String} {af : Array Edge} {cs : Array Value} {T : TypeId} {v : Nat → Value} (h : ∀ a, Env n σ a → (execOp a.eval ⟨some d, op, ty, pos, af, none⟩).run P w = .ok (.value (v w.heap.size)) (w.alloc (.cells cs T))) (hd : Nat.blt d n = true)
    (next : ∀ g w', Blk w' g T cs → Below w.heap.size w w' → w.heap.size ≤ g → w.heap.size < w'.heap.size → EL P n L Q rest (ins σ d (v g)) w') : EL P n L Q (⟨some d, op, ty, pos, af, none⟩ :: rest) σ w :=
  EL.turn _ _ h hd (next _ _ (Blk.new w T cs) ((Below.refl _ _).alloc (Nat.le_refl _) _) (Nat.le_refl _) (by simp))
theorem EL.newP {d ty : Nat} {op : Op} {pos : String} {af : Array Edge} {cs : Array Value} {T : TypeId} (h : ∀ a, Env n σ a → (execOp a.eval ⟨some d, op, ty, pos, af, none⟩).run P w = .ok (.value (.pointer (some ⟨w.heap.size, 0, none⟩))) (w.alloc (.cells cs T))) (hd : Nat.blt d n = true)
    (next : ∀ g w', Blk w' g T cs → Below w.heap.size w w' → w.heap.size ≤ g → w.heap.size < w'.heap.size → EL P n L Q rest (ins σ d (.pointer (some ⟨g, 0, none⟩))) w') : EL P n L Q (⟨some d, op, ty, pos, af, none⟩ :: rest) σ w :=
  EL.new (v := fun g => .pointer (some ⟨g, 0, none⟩)) h hd next
theorem EL.newS {d ty m c : Nat} {op : Op} {pos : String} {af : Array Edge} {cs : Array Value} {T : TypeId} (h : ∀ a, Env n σ a → (execOp a.eval ⟨some d, op, ty, pos, af, none⟩).run P w = .ok (.value (.slice (some ⟨w.heap.size, 0, none⟩) m c)) (w.alloc (.cells cs T))) (hd : Nat.blt d n = true)
    (next : ∀ g w', Blk w' g T cs → Below w.heap.size w w' → w.heap.size ≤ g → w.heap.size < w'.heap.size → EL P n L Q rest (ins σ d (.slice (some ⟨g, 0, none⟩) m c)) w') : EL P n L Q (⟨some d, op, ty, pos, af, none⟩ :: rest) σ w :=
  EL.new (v := fun g => .slice (some ⟨g, 0, none⟩) m c) h hd next
theorem below_store {w0 w w' : World} {g : Nat} (hb : Below w0.heap.size w0 w) (hg : w.grownBy w' (some g)) (h : w0.heap.size ≤ g) : Below w0.heap.size w0 w' :=
  hb.grown hg hb.size fun k hk => by injection hk with hk; omega
theorem run_append_call {t : TypeId} {s x : Operand} {o : Oper} {v v' : Value} {src : Value} {w' : World} {a : Act} (ho : o.op = .call { callee := .builtin .append, args := #[s, x], argTypes := #[t, t] }) (hs : a.eval s = v) (hx : a.eval x = src) (hr : (Builtin.append_ #[t, t] o.type #[v, src]).run P w = .ok v' w') :
    (execOp a.eval o).run P w = .ok (.value v') w' := by
  unfold execOp
  simp only [ho, resolve, invoke, builtin, Sem.run_bind, Sem.run_pure, Result.andThen_ok, List.map_toArray, List.map_cons, List.map_nil, hs, hx, hr]
theorem run_push {t e : TypeId} {size bytes base B m k ty : Nat} (E : Elem P t e size bytes) {v src : Value} {xs news : List Value} (hown : w.ownsRow base e size v k xs) (hr : Rd w B size src m news) (h1 : ∀ u ∈ news, u.oneCell' = true) (hm : k + m ≤ 1048576) (hby : bytes ≤ 1048576) (hbase : base ≤ w.heap.size) :
    ∃ v' w', (Builtin.append_ #[t, t] ty #[v, src]).run P w = .ok v' w' ∧ w'.ownsRow base e size v' (k + m) (xs ++ news) ∧ w.grownBy w' v.ownBlock ∧ Below base w w' ∧ (v'.ownBlock = v.ownBlock ∨ v'.ownBlock = some w.heap.size) := by
  obtain ⟨i, z, hi, hz, hsize, hb, hzs⟩ := E.hi
  have hmul : (k + m) * bytes ≤ 140737488355328 := by
    have h1 : (k + m) * bytes ≤ 1048576 * bytes := Nat.mul_le_mul_right _ hm
    omega
  obtain ⟨v', w', h2, h3, h4, h5⟩ := run_append_rd (P := P) w base t ty e i z size bytes E.ht hi hz hsize hb hzs E.hs v k xs hown B src m news hr h1 (by simp only [maxLen]; omega) hmul hbase
  exact ⟨v', w', h2, h3, h4, (Below.refl _ _).grown h4 hbase fun g hg => (hown.lt g hg).1, h5⟩
/-- an append to a row of one's own -/
theorem EL.push {d ty t e size bytes base B m k : Nat} {s x : Operand} {pos : String} {af : Array Edge} (E : Elem P t e size bytes) {v src : Value} {xs news : List Value} (hs : evS σ s = some v) (hx : evS σ x = some src) (hown : w.ownsRow base e size v k xs) (hr : Rd w B size src m news) (h1 : ∀ u ∈ news, u.oneCell' = true) (hm : k + m ≤ 1048576) (hby : Nat.ble bytes 1048576 = true) (hbase : base ≤ w.heap.size) (hd : Nat.blt d n = true)
    (next : ∀ v' w', w'.ownsRow base e size v' (k + m) (xs ++ news) → w.grownBy w' v.ownBlock → Below base w w' → (v'.ownBlock = v.ownBlock ∨ v'.ownBlock = some w.heap.size) → EL P n L Q rest (ins σ d v') w') : EL P n L Q (⟨some d, .call { callee := .builtin .append, args := #[s, x], argTypes := #[t, t] }, ty, pos, af, none⟩ :: rest) σ w := fun a ha => by
  obtain ⟨v', w', h2, h3, h4, h5, h6⟩ := run_push (P := P) (ty := ty) E hown hr h1 hm (by simpa [Nat.ble_eq] using hby) hbase
  exact wpL_run (wanted_none rfl _) (run_append_call rfl (ha.eval hs) (ha.eval hx) h2) (next v' w' h3 h4 h5 h6 _ (ha.put hd v'))
end
/-- one element in a block -/
theorem rd_one {w : World} {g size T : Nat} {l : List Value} (h : Blk w g T l.toArray) (hl : lenV l = size) : Rd w w.heap.size size (.slice (some ⟨g, 0, none⟩) 1 1) 1 l := by
  have hl' : l.length = size := by rw [← lenV_eq]; exact hl
  refine ⟨by omega, _, _, rfl, Nat.le_refl _, fun _ => ⟨g, 0, rfl, h.lt, fun j u hu => ?_⟩⟩
  rw [Nat.zero_add, h.cell]
  simpa using hu
section
variable {P : Program} {n : Nat} {σ : Sg} {w : World}
theorem resc1 {fn : Func} {c : Tmp} {t : TypeId} {p : Addr} {v : Value} (h : fn.results = #[.cell c t]) (hc : σ c = some (.pointer (some p))) (hl : (loadVar t p).run P w = .ok v w) (a : Act) (ha : Env n σ a) : (results fn a.tmps).run P w = .ok v w := by
  have h1 : a.tmps.getD c undef = .pointer (some p) := ha.eval (x := .tmp c) hc
  rw [Array.getD_eq_getD_getElem?] at h1
  simp [results, h, h1, asAddr, hl]
theorem resct {fn : Func} {c s : Tmp} {t : TypeId} {p : Addr} {v u : Value} (h : fn.results = #[.cell c t, .tmp s]) (hc : σ c = some (.pointer (some p))) (hs : σ s = some u) (hl : (loadVar t p).run P w = .ok v w) (a : Act) (ha : Env n σ a) : (results fn a.tmps).run P w = .ok (.tuple #[v, u]) w := by
  have h1 : a.tmps.getD c undef = .pointer (some p) := ha.eval (x := .tmp c) hc
  have h2 : a.tmps.getD s undef = u := ha.eval (x := .tmp s) hs
  rw [Array.getD_eq_getD_getElem?] at h1 h2
  simp [results, h, h1, h2, asAddr, hl]
end
/-- several elements in a block -/
theorem rd_blk {w : World} {g size k T : Nat} {l : List Value} (h : Blk w g T l.toArray) (hl : lenV l = k * size) : Rd w w.heap.size size (.slice (some ⟨g, 0, none⟩) k k) k l := by
  have hl' : l.length = k * size := by rw [← lenV_eq]; exact hl
  refine ⟨hl', _, _, rfl, Nat.le_refl _, fun _ => ⟨g, 0, rfl, h.lt, fun j u hu => ?_⟩⟩
  rw [Nat.zero_add, h.cell]
  simpa using hu
/-! ### The head of a drawn region -/
section
variable {P : Program} {n : Nat} {L : List Oper} {Q : Exit → Act → World → Prop} {cls : List (List Nat)} {m : Nat} {alc : List Nat} {w w1 : World} {Φ : Nat → (Nat → Value) → World → Prop} {i : Nat} {val : Nat → Value} {a : Act} {σ : Sg}
abbrev HK (L : List Oper) (cls : List (List Nat)) (alc : List Nat) (Φ : Nat → (Nat → Value) → World → Prop) (i : Nat) (val : Nat → Value) (a : Act) (w1 : World) : Act → World → Prop :=
  fun a' w' => ∃ v, a' = a.put (dstOf L i) v ∧ Below w1.heap.size w1 w' ∧ Φ i (res (upd val i v) i (clsAt cls i)) w' ∧ (i ∈ alc → v = .pointer (some ⟨w1.heap.size, 0, none⟩) ∧ w1.heap.size < w'.heap.size)
theorem opL {o : Oper} (ho : nthO L i = some o) : L.toArray[i]? = some o ∧ dstOf L i = o.dst := by
  have : ∀ (L : List Oper) (i : Nat), nthO L i = some o → L[i]? = some o := by
    intro L
    induction L with
    | nil => intro i h; cases h
    | cons x L ih =>
      intro i h
      cases i with
      | zero => simpa [nthO] using h
      | succ i => simpa using ih i h
  have h := this L i ho
  exact ⟨by simpa using h, dstOf_at h⟩
theorem hs_run {o : Oper} {v : Value} {w' : World} (ho : nthO L i = some o) (hg : o.guard = none) (hr : (execOp a.eval o).run P w1 = .ok (.value v) w') (hb : Below w1.heap.size w1 w') (hΦ : Φ i (res (upd val i v) i (clsAt cls i)) w') (halc : i ∈ alc → v = .pointer (some ⟨w1.heap.size, 0, none⟩) ∧ w1.heap.size < w'.heap.size) :
    wpOp P L.toArray Q i (HK L cls alc Φ i val a w1) a w1 := by
  obtain ⟨h1, h2⟩ := opL ho
  unfold wpOp
  simp only [h1]
  rw [if_pos (wanted_none hg _)]
  left
  unfold Oper.wp
  rw [hr]
  exact ⟨v, by rw [h2], hb, hΦ, halc⟩
/-- a value, the world as it was -/
theorem hs_val {o : Oper} {v : Value} (ha : Env n σ a) (ho : nthO L i = some o) (hg : o.guard = none) (hr : Gives P n σ w1 o v) (hΦ : Φ i (res (upd val i v) i (clsAt cls i)) w1) (halc : memB alc i = false) : wpOp P L.toArray Q i (HK L cls alc Φ i val a w1) a w1 :=
  hs_run ho hg (hr a ha) ⟨rfl, rfl, rfl, Nat.le_refl _, fun _ _ => rfl⟩ hΦ fun h => by rw [memB_mem.2 h] at halc; cases halc
theorem hs_new {o : Oper} {cs : Array Value} {T : TypeId} {v : Nat → Value} (ho : nthO L i = some o) (hg : o.guard = none) (hr : ∀ a, Env n σ a → (execOp a.eval o).run P w1 = .ok (.value (v w1.heap.size)) (w1.alloc (.cells cs T))) (ha : Env n σ a)
    (hv : memB alc i = true → v = fun g => .pointer (some ⟨g, 0, none⟩)) (hΦ : ∀ g w', Blk w' g T cs → Below w1.heap.size w1 w' → w1.heap.size ≤ g → Φ i (res (upd val i (v g)) i (clsAt cls i)) w') : wpOp P L.toArray Q i (HK L cls alc Φ i val a w1) a w1 :=
  hs_run ho hg (hr a ha) ((Below.refl _ _).alloc (Nat.le_refl _) _) (hΦ _ _ (Blk.new w1 T cs) ((Below.refl _ _).alloc (Nat.le_refl _) _) (Nat.le_refl _)) fun h => by rw [hv (memB_mem.2 h)]; exact ⟨rfl, by simp⟩
theorem hs_newP {o : Oper} {cs : Array Value} {T : TypeId} (ha : Env n σ a) (ho : nthO L i = some o) (hg : o.guard = none) (hr : ∀ a, Env n σ a → (execOp a.eval o).run P w1 = .ok (.value (.pointer (some ⟨w1.heap.size, 0, none⟩))) (w1.alloc (.cells cs T)))
    (hΦ : ∀ g w', Blk w' g T cs → Below w1.heap.size w1 w' → w1.heap.size ≤ g → Φ i (res (upd val i (.pointer (some ⟨g, 0, none⟩))) i (clsAt cls i)) w') : wpOp P L.toArray Q i (HK L cls alc Φ i val a w1) a w1 :=
  hs_new (v := fun g => .pointer (some ⟨g, 0, none⟩)) ho hg hr ha (fun _ => rfl) hΦ
theorem hs_newS {o : Oper} {m c : Nat} {cs : Array Value} {T : TypeId} (ha : Env n σ a) (ho : nthO L i = some o) (hg : o.guard = none) (hr : ∀ a, Env n σ a → (execOp a.eval o).run P w1 = .ok (.value (.slice (some ⟨w1.heap.size, 0, none⟩) m c)) (w1.alloc (.cells cs T))) (halc : memB alc i = false)
    (hΦ : ∀ g w', Blk w' g T cs → Below w1.heap.size w1 w' → w1.heap.size ≤ g → Φ i (res (upd val i (.slice (some ⟨g, 0, none⟩) m c)) i (clsAt cls i)) w') : wpOp P L.toArray Q i (HK L cls alc Φ i val a w1) a w1 :=
  hs_new (v := fun g => .slice (some ⟨g, 0, none⟩) m c) ho hg hr ha (fun h => by rw [halc] at h; cases h) hΦ
theorem hs_call {o : Oper} {f : FuncId} {args : Array Value} {R : Ending → World → Prop} (ha : Env n σ a) (ho : nthO L i = some o) (hg : o.guard = none) (hr : ∀ a, Env n σ a → (execOp a.eval o).run P w1 = .ok (.enter f args) w1) (hc : Calls P f args w1 R)
    (halc : memB alc i = false) (hΦ : ∀ e w', R e w' → ∃ v, e = .returned v ∧ Below w1.heap.size w1 w' ∧ Φ i (res (upd val i v) i (clsAt cls i)) w') : wpOp P L.toArray Q i (HK L cls alc Φ i val a w1) a w1 := by
  obtain ⟨h1, h2⟩ := opL ho
  unfold wpOp
  simp only [h1]
  rw [if_pos (wanted_none hg _)]
  left
  unfold Oper.wp
  rw [hr a ha, Oper.upon_enter]
  refine hc.mono fun e w' he => ?_
  obtain ⟨v, rfl, hb, hp⟩ := hΦ e w' he
  exact ⟨v, by rw [h2], hb, hp, fun h => by rw [memB_mem.2 h] at halc; cases halc⟩
theorem dep_get {d : Nat} {u v : Value} (h : σ d = some u) (e : u = v) : σ d = some v := h.trans (congrArg some e)
theorem alc_ge {w' : World} {g : Nat} (h : Alc alc m val w w') (hi : memB alc i = true) (him : Nat.blt i m = true) (e : val i = .pointer (some ⟨g, 0, none⟩)) : w.heap.size ≤ g := by
  obtain ⟨g', h1, h2, _⟩ := h.1 i (memB_mem.1 hi) (by simpa [Nat.blt_eq] using him)
  rw [e] at h1
  injection h1 with h1
  injection h1 with h1
  injection h1 with h1
  omega
theorem alc_ne {w' : World} {j g k : Nat} (h : Alc alc m val w w') (hi : memB alc i = true) (hj : memB alc j = true) (him : Nat.blt i m = true) (hjm : Nat.blt j m = true) (hij : Nat.beq i j = false) (e : val i = .pointer (some ⟨g, 0, none⟩)) (e' : val j = .pointer (some ⟨k, 0, none⟩)) : g ≠ k := fun hk => by
  have := h.2 i (memB_mem.1 hi) j (memB_mem.1 hj) (by simpa [Nat.blt_eq] using him) (by simpa [Nat.blt_eq] using hjm) (Nat.ne_of_beq_eq_false hij)
  rw [e, e', hk] at this
  exact this rfl
def Mono (F : (Nat → Value) → World → Prop) : Prop := ∀ r w1 w2, Below w1.heap.size w1 w2 → F r w1 → F r w2
theorem mono_bs {T k m c : Nat} {cs : (Nat → Value) → Array Value} {C : Nat → Prop} : Mono fun r w => ∃ g, r k = .slice (some ⟨g, 0, none⟩) m c ∧ Blk w g T (cs r) ∧ C g := fun _ _ _ hb ⟨g, h1, h2, h3⟩ => ⟨g, h1, h2.below hb h2.lt, h3⟩
theorem mono_alloc {T k : Nat} {cs : Array Value} : Mono fun r w => ∃ g, r k = .pointer (some ⟨g, 0, none⟩) ∧ Blk w g T cs := fun _ _ _ hb ⟨g, h1, h2⟩ => ⟨g, h1, h2.below hb h2.lt⟩
/-! what the operations of a head tell -/
def phi (V : Nat → (Nat → Value) → Prop) : List (Nat × ((Nat → Value) → World → Prop)) → Nat → (Nat → Value) → World → Prop
  | [], i, r, _ => V i r
  | p :: l, i, r, w => match Nat.beq i p.1 with
    | true => p.2 r w
    | false => phi V l i r w
theorem phi_nil {V : Nat → (Nat → Value) → Prop} : ∀ i r w1 w2, Below w1.heap.size w1 w2 → phi V [] i r w1 → phi V [] i r w2 := fun _ _ _ _ _ h => h
theorem phi_cons {V : Nat → (Nat → Value) → Prop} {k : Nat} {F : (Nat → Value) → World → Prop} {l : List (Nat × ((Nat → Value) → World → Prop))} (hF : Mono F) (hl : ∀ i r w1 w2, Below w1.heap.size w1 w2 → phi V l i r w1 → phi V l i r w2) :
    ∀ i r w1 w2, Below w1.heap.size w1 w2 → phi V ((k, F) :: l) i r w1 → phi V ((k, F) :: l) i r w2 := by
  intro i r w1 w2 hb h
  unfold phi at h ⊢
  cases e : Nat.beq i k with
  | true => simp only [e] at h ⊢; exact hF r w1 w2 hb h
  | false => simp only [e] at h ⊢; exact hl i r w1 w2 hb h
def nthV : List Value → Nat → Value
  | [], _ => undef
  | v :: _, 0 => v
  | _ :: l, k + 1 => nthV l k
def Agree (val : Nat → Value) : Nat → List Value → Prop
  | _, [] => True
  | k, c :: l => val k = c ∧ Agree val (k + 1) l
theorem agree_at {val : Nat → Value} : ∀ {l : List Value} {k : Nat}, Agree val k l → ∀ j, j < l.length → val (k + j) = nthV l j
  | [], _, _, j, h => by simp at h
  | c :: l, k, h, 0, _ => h.1
  | c :: l, k, h, j + 1, hj => by
    have := agree_at h.2 j (by simpa using hj)
    rw [show k + (j + 1) = k + 1 + j by omega]
    exact this
theorem sgEnd_congr {v1 v2 : Nat → Value} : ∀ m, (∀ j, j < m → v1 j = v2 j) → sgEnd L σ v1 m = sgEnd L σ v2 m
  | 0, _ => rfl
  | m + 1, h => by
    unfold sgEnd
    rw [sgEnd_congr m fun j hj => h j (by omega), h m (by omega)]
theorem EL.ends {rest : List Oper} {cs : List Value} (hv : Agree val 0 cs) (hl : Nat.ble m (lenV cs) = true) (h : EL P n L Q rest (sgEnd L σ (nthV cs) m) w) : EL P n L Q rest (sgEnd L σ val m) w := by
  have hl' : m ≤ cs.length := by rw [← lenV_eq]; simpa [Nat.ble_eq] using hl
  rw [sgEnd_congr m fun j hj => by have := agree_at hv j (by omega); simpa using this]
  exact h
end
end Go.Proofs.Ytncnlhkmdljgpaa
/- A drawn region whose head also stores: to blocks that were made in it, or to one's own. -/
namespace Go.Proofs.Ytncnlhkmdljgpaa
open Go Go.RowKit
section
variable {P : Program} {n : Nat} {σ : Sg} {w : World} {Q : Exit → Act → World → Prop} {L : List Oper}
def flD (sto : List Nat) (D : Array Bool) : Nat → Bool := fun k => bif memB sto k then D.getD k false else false
def fset (fl : Nat → Bool) (i : Nat) : Nat → Bool := fun k => bif Nat.beq k i then true else fl k
/-- of what is known of worlds in the region -/
structure BaseOk (w : World) (Base : (Nat → Bool) → World → Prop) : Prop where
  start : ∀ fl, (∀ k, fl k = false) → Base fl { w with drawn := w.drawn + 1 }
  grow : ∀ fl w1 w2, Base fl w1 → Below w1.heap.size w1 w2 → Base fl w2
  size : ∀ fl w1, Base fl w1 → w.heap.size ≤ w1.heap.size
def SStep (P : Program) (n : Nat) (L : List Oper) (Q : Exit → Act → World → Prop) (cls : List (List Nat)) (m : Nat) (alc sto : List Nat) (σ : Sg) (Base : (Nat → Bool) → World → Prop) (Φ : Nat → (Nat → Bool) → (Nat → Value) → World → Prop) (i : Nat) : Prop :=
  ∀ (val : Nat → Value) (fl : Nat → Bool) (w1 : World) (a : Act), Base fl w1 → Env n (sgAt L cls m σ val i) a → (∀ j, j ∈ clsAt cls i → Φ j fl (res val j (clsAt cls j)) w1) → (∀ s ∈ sto, i ∈ clsAt cls s → fl s = false) →
    wpOp P L.toArray Q i (fun a' w' => ∃ v, a' = a.put (dstOf L i) v ∧ Below w1.heap.size w1 w' ∧ Φ i fl (res (upd val i v) i (clsAt cls i)) w' ∧ (i ∈ alc → v = .pointer (some ⟨w1.heap.size, 0, none⟩) ∧ w1.heap.size < w'.heap.size)) a w1
def TStep (P : Program) (n : Nat) (L : List Oper) (Q : Exit → Act → World → Prop) (cls : List (List Nat)) (m : Nat) (alc sto : List Nat) (σ : Sg) (Base : (Nat → Bool) → World → Prop) (Φ : Nat → (Nat → Bool) → (Nat → Value) → World → Prop) (i : Nat) : Prop :=
  ∀ (val : Nat → Value) (fl : Nat → Bool) (w1 : World) (a : Act), Base fl w1 → fl i = false → Env n (sgAt L cls m σ val i) a → (∀ j, j ∈ clsAt cls i → Φ j fl (res val j (clsAt cls j)) w1) → (∀ s ∈ sto, i ∈ clsAt cls s → fl s = false) →
    wpOp P L.toArray Q i (fun a' w' => ∃ v, a' = a.put (dstOf L i) v ∧ w1.heap.size ≤ w'.heap.size ∧ Base (fset fl i) w' ∧ Φ i (fset fl i) (res (upd val i v) i (clsAt cls i)) w' ∧
      ∀ j, j < m → j ≠ i → i ∉ clsAt cls j → (∀ p ∈ alc, (p = j ∨ p ∈ clsAt cls j) → ∀ q ∈ alc, (q = i ∨ q ∈ clsAt cls i) → p ≠ q → val p ≠ val q) → Φ j fl (res val j (clsAt cls j)) w1 → Φ j (fset fl i) (res val j (clsAt cls j)) w') a w1
structure SInv (n : Nat) (L : List Oper) (cls : List (List Nat)) (m : Nat) (alc sto : List Nat) (σ : Sg) (w : World) (Base : (Nat → Bool) → World → Prop) (Φ : Nat → (Nat → Bool) → (Nat → Value) → World → Prop) (D : Array Bool) (val : Nat → Value) (a : Act) (w' : World) : Prop where
  base : Base (flD sto D) w'
  size : a.tmps.size = n
  defers : a.defers = []
  new : ∀ i d, i < m → D.getD i false = true → dstOf L i = some d → a.tmps[d]? = some (val i)
  old : ∀ t v, σ t = some v → (∀ k, k < m → D.getD k false = true → dstOf L k ≠ some t) → a.tmps[t]? = some v
  says : ∀ i, i < m → D.getD i false = true → Φ i (flD sto D) (res val i (clsAt cls i)) w'
  down : ∀ i, D.getD i false = true → ∀ j ∈ clsAt cls i, D.getD j false = true
  alc1 : ∀ i ∈ alc, i < m → D.getD i false = true → ∃ g, val i = .pointer (some ⟨g, 0, none⟩) ∧ w.heap.size ≤ g ∧ g < w'.heap.size
  alc2 : ∀ i ∈ alc, ∀ j ∈ alc, i < m → j < m → D.getD i false = true → D.getD j false = true → i ≠ j → val i ≠ val j
  high : ∀ i, m ≤ i → D.getD i false = false
theorem flD_same {sto : List Nat} {D : Array Bool} {i : Nat} (hi : i ∉ sto) (hs : i < D.size) : flD sto (D.setIfInBounds i true) = flD sto D := by
  funext k
  unfold flD
  cases e : memB sto k with
  | false => rfl
  | true =>
    have : k ≠ i := fun h => hi (h ▸ memB_mem.1 e)
    rw [set_get hs, if_neg this]
theorem flD_set {sto : List Nat} {D : Array Bool} {i : Nat} (hi : i ∈ sto) (hs : i < D.size) : flD sto (D.setIfInBounds i true) = fset (flD sto D) i := by
  funext k
  unfold flD fset
  rw [set_get hs]
  cases e : Nat.beq k i with
  | true =>
    have := Nat.eq_of_beq_eq_true e
    subst this
    rw [memB_mem.2 hi]
    simp
  | false =>
    have := Nat.ne_of_beq_eq_false e
    rw [if_neg this]
    rfl
theorem EC.regionS {id : Nat} (cls : List (List Nat)) (m : Nat) (alc sto : List Nat) (Base : (Nat → Bool) → World → Prop) (Φ : Nat → (Nat → Bool) → (Nat → Value) → World → Prop) (hf : P.follows .mixedOrders = true) (hq : headQ n cls m 0 L = true) (hml : Nat.ble m L.length = true) (hds : ∀ i ∈ sto, i ∉ alc ∧ i < m) (hB : BaseOk w Base)
    (hmono : ∀ i fl r w1 w2, Below w1.heap.size w1 w2 → Φ i fl r w1 → Φ i fl r w2)
    (hstep : ∀ i, i < m → i ∉ sto → SStep P n L Q cls m alc sto σ Base Φ i) (hsto : ∀ i ∈ sto, TStep P n L Q cls m alc sto σ Base Φ i)
    (hend : ∀ val fl w', (∀ k ∈ sto, fl k = true) → Base fl w' → Alc alc m val w w' → (∀ i, i < m → Φ i fl (res val i (clsAt cls i)) w') → EL P n L Q (L.drop m) (sgEnd L σ val m) w') : EC P n (.region id L.toArray true) Q σ w := by
  have hm : m ≤ L.length := by simpa [Nat.ble_eq] using hml
  have H := headQ_ok hq
  have hback : backB L.toArray = true := by
    refine List.all_eq_true.2 fun i hi => ?_
    have hi' : i < L.length := by simpa using hi
    have ho : L.toArray[i]? = some L[i] := by simp [hi']
    rw [ho]
    refine Array.all_eq_true_iff_forall_mem.2 fun e he => ?_
    cases hb : Region.binds .any e with
    | false => rfl
    | true => simpa using H.back i L[i] (by simp [hi']) e he hb
  intro a ha
  -- the tail's part
  have tailDone : ∀ (D : Array Bool) (i : Nat) (o : Oper), (∀ i, D.getD i false = true → ∀ j ∈ clsAt cls i, D.getD j false = true) → L[i]? = some o → (∀ e ∈ o.after, Region.binds .any e = true → D.getD e.on false = true) → ∀ j ∈ clsAt cls i, D.getD j false = true := by
    intro D i o hdown ho hdep j hj
    obtain ⟨e, he, hb, h⟩ := H.dep i o ho j hj
    rcases h with rfl | h
    · exact hdep e he hb
    · exact hdown _ (hdep e he hb) j h
  have hEnd : ∀ (D : Array Bool) (val : Nat → Value) (a : Act) (w' : World), SInv n L cls m alc sto σ w Base Φ D val a w' → (∀ i, i < m → D.getD i false = true) → wpList P L.toArray Q (L.drop m) a w' := by
    intro D val a w' I hall
    refine hend val (flD sto D) w' (fun k hk => by unfold flD; rw [memB_mem.2 hk]; exact hall k (hds k hk).2) I.base ⟨fun i hi hlt => I.alc1 i hi hlt (hall i hlt), fun i hi j hj h1 h2 hne => I.alc2 i hi j hj h1 h2 (hall i h1) (hall j h2) hne⟩ (fun i hi => I.says i hi (hall i hi)) a ⟨I.size, I.defers, ?_⟩
    have : ∀ k, k ≤ m → ∀ t v, sgEnd L σ val k t = some v → (∀ j, k ≤ j → j < m → dstOf L j ≠ some t) → a.tmps[t]? = some v := by
      intro k
      induction k with
      | zero => intro _ t v ht hn; exact I.old t v ht fun j hj _ => hn j (Nat.zero_le _) hj
      | succ k ih =>
        intro hk t v ht hn
        unfold sgEnd at ht
        cases hd : dstOf L k with
        | none =>
          simp only [hd] at ht
          exact ih (by omega) t v ht fun j h1 h2 => by
            rcases Nat.lt_or_ge k j with h | h
            · exact hn j h h2
            · obtain rfl : j = k := by omega
              rw [hd]; simp
        | some d =>
          simp only [hd] at ht
          unfold ins at ht
          cases e : Nat.beq t d with
          | true =>
            rw [e] at ht
            have e' := Nat.eq_of_beq_eq_true e
            subst e'
            rw [I.new k t (by omega) (hall k (by omega)) hd]
            exact ht
          | false =>
            rw [e] at ht
            exact ih (by omega) t v ht fun j h1 h2 => by
              rcases Nat.lt_or_ge k j with h | h
              · exact hn j h h2
              · obtain rfl : j = k := by omega
                rw [hd]
                intro e2
                injection e2 with e2
                exact Nat.ne_of_beq_eq_false e e2.symm
    exact fun t v ht => this m (Nat.le_refl _) t v ht fun j h1 h2 => by omega
  refine wp_region_inv hf hback (fun D a w' => (∃ val, SInv n L cls m alc sto σ w Base Φ D val a w') ∨ ∃ k, m < k ∧ k ≤ L.length ∧ (∀ i, D.getD i false = decide (i < k)) ∧ wpList P L.toArray Q (L.drop k) a w') ?_ ?_ ?_
  · left
    have hno : ∀ i, (Array.replicate L.toArray.size false).getD i false = false := fun i => by
      by_cases h : i < L.toArray.size
      · simp [Array.getD]
      · simp [Array.getD]
    refine ⟨fun _ => undef, ⟨hB.start _ (fun k => by unfold flD; rw [hno]; cases memB sto k <;> rfl), ha.size, ha.defers, ?_, fun t v ht _ => ha.get t v ht, ?_, ?_, ?_, ?_, fun i _ => hno i⟩⟩
    · intro i d _ h; rw [hno] at h; cases h
    · intro i _ h; rw [hno] at h; cases h
    · intro i h; rw [hno] at h; cases h
    · intro i _ _ h; rw [hno] at h; cases h
    · intro i _ j _ _ _ h; rw [hno] at h; cases h
  · intro D a w1 i o hs hI hni ho hdep
    have hs' : D.size = L.length := by simpa using hs
    have ho' : L[i]? = some o := by simpa using ho
    have hil : i < L.length := (List.getElem?_eq_some_iff.1 ho').1
    have hnd : D.getD i false = false := getD_false_of (by omega) hni
    have takeTail : ∀ (k : Nat), k = i → m ≤ k → (∀ j, D.getD j false = decide (j < k)) → wpList P L.toArray Q (L.drop k) a w1 →
        wpOp P L.toArray Q i (fun a w' => (∃ val, SInv n L cls m alc sto σ w Base Φ (D.setIfInBounds i true) val a w') ∨ ∃ k, m < k ∧ k ≤ L.length ∧ (∀ j, (D.setIfInBounds i true).getD j false = decide (j < k)) ∧ wpList P L.toArray Q (L.drop k) a w') a w1 := by
      intro k hk hmk hD hw
      subst hk
      rw [List.drop_eq_getElem_cons hil] at hw
      have e : L[k] = o := by rw [List.getElem?_eq_getElem hil] at ho'; injection ho'
      rw [e] at hw
      unfold wpList at hw
      have hnext : ∀ a w', wpList P L.toArray Q (L.drop (k + 1)) a w' → (∃ val, SInv n L cls m alc sto σ w Base Φ (D.setIfInBounds k true) val a w') ∨ ∃ k', m < k' ∧ k' ≤ L.length ∧ (∀ j, (D.setIfInBounds k true).getD j false = decide (j < k')) ∧ wpList P L.toArray Q (L.drop k') a w' := fun a w' h => .inr ⟨k + 1, by omega, by omega, fun j => by
        rw [set_get (by omega)]
        by_cases e : j = k
        · subst e; simp
        · rw [if_neg e, hD]
          by_cases h : j < k
          · simp [h]; omega
          · simp [h]; omega, h⟩
      unfold wpOp
      simp only [ho]
      split
      · rename_i hw'
        rw [if_pos hw'] at hw
        rcases hw with h | h
        · exact .inl (Oper.wp_mono hnext h)
        · exact .inr h
      · rename_i hw'
        rw [if_neg hw'] at hw
        exact hnext _ _ hw
    rcases hI with ⟨val, I⟩ | ⟨k, hmk, hkl, hD, hw⟩
    · have hcd := tailDone D i o I.down ho' hdep
      rcases Nat.lt_or_ge i m with him | him
      · have henv : Env n (sgAt L cls m σ val i) a := by
          refine ⟨I.size, I.defers, fun t v ht => ?_⟩
          unfold sgAt at ht
          cases hfw : findW L t (clsAt cls i) with
          | some j =>
            simp only [hfw] at ht
            obtain ⟨h1, h2⟩ := findW_spec hfw
            injection ht with ht
            have hj := hcd j h1
            have hjm : j < m := by
              rcases Nat.lt_or_ge j m with h | h
              · exact h
              · rw [I.high j h] at hj; cases hj
            rw [I.new j t hjm hj h2, ht]
          | none =>
            simp only [hfw] at ht
            cases hob : oldB L cls i t m with
            | false => rw [hob] at ht; cases ht
            | true =>
              rw [hob] at ht
              refine I.old t v ht fun k hk hdk hd => ?_
              rcases oldB_spec hob k hk hd with rfl | h
              · rw [hnd] at hdk; cases hdk
              · have := I.down k hdk i h
                rw [hnd] at this; cases this
        have hjm : ∀ j, D.getD j false = true → j < m := fun j hj => by
          rcases Nat.lt_or_ge j m with h | h
          · exact h
          · rw [I.high j h] at hj; cases hj
        by_cases his : i ∈ sto
        · have hfi : flD sto D i = false := by unfold flD; rw [memB_mem.2 his]; exact hnd
          refine wpOp_mono ?_ (hsto i his val (flD sto D) w1 a I.base hfi henv (fun j hj => I.says j (hjm j (hcd j hj)) (hcd j hj)) fun s hs' hi' => by
              unfold flD; rw [memB_mem.2 hs']
              rcases Bool.eq_false_or_eq_true (D.getD s false) with h | h
              · have := I.down s h i hi'; rw [hnd] at this; cases this
              · exact h)
          rintro a' w' ⟨v, rfl, hgsz, hbase, hphi, hkeep⟩
          left
          have hsz := hB.size _ _ I.base
          have hfl := flD_set (D := D) his (by omega)
          obtain ⟨hal0, _⟩ := hds i his
          have hdi : dstOf L i = o.dst := dstOf_at ho'
          refine ⟨upd val i v, ⟨by rw [hfl]; exact hbase, ?_, ?_, ?_, ?_, ?_, ?_, ?_, ?_, ?_⟩⟩
          · rw [put_size]; exact I.size
          · cases dstOf L i <;> exact I.defers
          · intro k d hk hdk hd
            rw [set_get (by omega)] at hdk
            by_cases e : k = i
            · subst e
              have hdn : d < n := H.small k o d ho' hk (by rw [← hdi]; exact hd)
              rw [hd]
              simp only [Act.put, upd, if_true]
              rw [Array.getElem?_setIfInBounds_self_of_lt (by rw [I.size]; exact hdn)]
            · rw [if_neg e] at hdk
              have hok : ∃ p, L[k]? = some p := ⟨L[k]'(by omega), by simp [show k < L.length by omega]⟩
              obtain ⟨p, hp⟩ := hok
              have hne : dstOf L i ≠ some d := by
                intro h'
                rcases Nat.lt_or_gt_of_ne e with hlt | hgt
                · exact H.dist k i p o d hp ho' hlt him (by rw [← dstOf_at hp]; exact hd) (by rw [← hdi]; exact h')
                · exact H.dist i k o p d ho' hp hgt hk (by rw [← hdi]; exact h') (by rw [← dstOf_at hp]; exact hd)
              have := I.new k d hk hdk hd
              simp only [upd, if_neg e]
              cases hdi' : dstOf L i with
              | none => exact this
              | some d' =>
                have : d' ≠ d := fun h => hne (by rw [hdi', h])
                simp only [Act.put, Array.getElem?_setIfInBounds_ne this]
                assumption
          · intro t u ht hno
            have h1 : a.tmps[t]? = some u := I.old t u ht fun k hk hdk => hno k hk (by rw [set_get (by omega)]; split <;> simp [hdk])
            have h2 : dstOf L i ≠ some t := hno i him (by rw [set_get (by omega), if_pos rfl])
            cases hdi' : dstOf L i with
            | none => exact h1
            | some d' =>
              have : d' ≠ t := fun h => h2 (by rw [hdi', h])
              simp only [Act.put, Array.getElem?_setIfInBounds_ne this]
              exact h1
          · intro k hk hdk
            rw [set_get (by omega)] at hdk
            rw [hfl]
            by_cases e : k = i
            · subst e; exact hphi
            · rw [if_neg e] at hdk
              have hni' : i ∉ clsAt cls k := fun h => by
                have := I.down k hdk i h
                rw [hnd] at this; cases this
              rw [res_upd e hni']
              refine hkeep k hk e hni' (fun p hp hpk q hq hqi hne => ?_) (I.says k hk hdk)
              have hpd : D.getD p false = true := by
                rcases hpk with rfl | h
                · exact hdk
                · exact I.down k hdk p h
              have hqd : D.getD q false = true := by
                rcases hqi with rfl | h
                · exact absurd hq hal0
                · exact hcd q h
              exact I.alc2 p hp q hq (hjm p hpd) (hjm q hqd) hpd hqd hne
          · intro k hdk j hj
            rw [set_get (by omega)] at hdk ⊢
            by_cases e : k = i
            · subst e
              rw [hcd j hj]; simp
            · rw [if_neg e] at hdk
              rw [I.down k hdk j hj]; simp
          · intro k hk hkm hdk
            rw [set_get (by omega)] at hdk
            by_cases e : k = i
            · subst e; exact absurd hk hal0
            · rw [if_neg e] at hdk
              obtain ⟨g, h1, h2, h3⟩ := I.alc1 k hk hkm hdk
              exact ⟨g, by simp [upd, e, h1], h2, Nat.lt_of_lt_of_le h3 hgsz⟩
          · intro k hk j hj hkm hjm' hdk hdj hne
            rw [set_get (by omega)] at hdk hdj
            by_cases e : k = i
            · subst e; exact absurd hk hal0
            · by_cases e2 : j = i
              · subst e2; exact absurd hj hal0
              · rw [if_neg e] at hdk
                rw [if_neg e2] at hdj
                simp only [upd, if_neg e, if_neg e2]
                exact I.alc2 k hk j hj hkm hjm' hdk hdj hne
          · intro k hk
            rw [set_get (by omega), if_neg (by omega)]
            exact I.high k hk
        refine wpOp_mono ?_ (hstep i him his val (flD sto D) w1 a I.base henv (fun j hj => I.says j (hjm j (hcd j hj)) (hcd j hj)) fun s hs' hi' => by
            unfold flD; rw [memB_mem.2 hs']
            rcases Bool.eq_false_or_eq_true (D.getD s false) with h | h
            · have := I.down s h i hi'; rw [hnd] at this; cases this
            · exact h)
        rintro a' w' ⟨v, rfl, hb, hphi, halc⟩
        left
        have hsz := hB.size _ _ I.base
        have hfl := flD_same (D := D) his (by omega)
        have hdi : dstOf L i = o.dst := dstOf_at ho'
        refine ⟨upd val i v, ⟨by rw [hfl]; exact hB.grow _ _ _ I.base hb, ?_, ?_, ?_, ?_, ?_, ?_, ?_, ?_, ?_⟩⟩
        · rw [put_size]; exact I.size
        · cases dstOf L i <;> exact I.defers
        · intro k d hk hdk hd
          rw [set_get (by omega)] at hdk
          by_cases e : k = i
          · subst e
            have hdn : d < n := H.small k o d ho' hk (by rw [← hdi]; exact hd)
            rw [hd]
            simp only [Act.put, upd, if_true]
            rw [Array.getElem?_setIfInBounds_self_of_lt (by rw [I.size]; exact hdn)]
          · rw [if_neg e] at hdk
            have hok : ∃ p, L[k]? = some p := ⟨L[k]'(by omega), by simp [show k < L.length by omega]⟩
            obtain ⟨p, hp⟩ := hok
            have hne : dstOf L i ≠ some d := by
              intro h'
              rcases Nat.lt_or_gt_of_ne e with hlt | hgt
              · exact H.dist k i p o d hp ho' hlt him (by rw [← dstOf_at hp]; exact hd) (by rw [← hdi]; exact h')
              · exact H.dist i k o p d ho' hp hgt hk (by rw [← hdi]; exact h') (by rw [← dstOf_at hp]; exact hd)
            have := I.new k d hk hdk hd
            simp only [upd, if_neg e]
            cases hdi' : dstOf L i with
            | none => exact this
            | some d' =>
              have : d' ≠ d := fun h => hne (by rw [hdi', h])
              simp only [Act.put, Array.getElem?_setIfInBounds_ne this]
              assumption
        · intro t u ht hno
          have h1 : a.tmps[t]? = some u := I.old t u ht fun k hk hdk => hno k hk (by rw [set_get (by omega)]; split <;> simp [hdk])
          have h2 : dstOf L i ≠ some t := hno i him (by rw [set_get (by omega), if_pos rfl])
          cases hdi' : dstOf L i with
          | none => exact h1
          | some d' =>
            have : d' ≠ t := fun h => h2 (by rw [hdi', h])
            simp only [Act.put, Array.getElem?_setIfInBounds_ne this]
            exact h1
        · intro k hk hdk
          rw [set_get (by omega)] at hdk
          rw [hfl]
          by_cases e : k = i
          · subst e; exact hphi
          · rw [if_neg e] at hdk
            have hni' : i ∉ clsAt cls k := fun h => by
              have := I.down k hdk i h
              rw [hnd] at this; cases this
            rw [res_upd e hni']
            exact hmono k _ _ w1 w' hb (I.says k hk hdk)
        · intro k hdk j hj
          rw [set_get (by omega)] at hdk ⊢
          by_cases e : k = i
          · subst e
            rw [hcd j hj]; simp
          · rw [if_neg e] at hdk
            rw [I.down k hdk j hj]; simp
        · intro k hk hkm hdk
          rw [set_get (by omega)] at hdk
          by_cases e : k = i
          · subst e
            obtain ⟨h1, h2⟩ := halc hk
            exact ⟨w1.heap.size, by simp [upd, h1], hsz, h2⟩
          · rw [if_neg e] at hdk
            obtain ⟨g, h1, h2, h3⟩ := I.alc1 k hk hkm hdk
            exact ⟨g, by simp [upd, e, h1], h2, Nat.lt_of_lt_of_le h3 hb.size⟩
        · intro k hk j hj hkm hjm' hdk hdj hne
          rw [set_get (by omega)] at hdk hdj
          by_cases e : k = i
          · subst e
            have e2 : j ≠ k := Ne.symm hne
            rw [if_neg e2] at hdj
            obtain ⟨h1, _⟩ := halc hk
            obtain ⟨g, h3, _, h5⟩ := I.alc1 j hj hjm' hdj
            simp only [upd, if_true, if_neg e2, h1, h3]
            intro h
            injection h with h
            injection h with h
            injection h with h
            omega
          · rw [if_neg e] at hdk
            by_cases e2 : j = i
            · subst e2
              obtain ⟨h1, _⟩ := halc hj
              obtain ⟨g, h3, _, h5⟩ := I.alc1 k hk hkm hdk
              simp only [upd, if_true, if_neg e, h1, h3]
              intro h
              injection h with h
              injection h with h
              injection h with h
              omega
            · rw [if_neg e2] at hdj
              simp only [upd, if_neg e, if_neg e2]
              exact I.alc2 k hk j hj hkm hjm' hdk hdj hne
        · intro k hk
          rw [set_get (by omega), if_neg (by omega)]
          exact I.high k hk
      · have hall : ∀ j, j < i → D.getD j false = true := fun j hj => hcd j (H.tail i o ho' him j hj)
        have him' : i = m := by
          rcases Nat.lt_or_ge m i with h | h
          · have := hall m h
            rw [I.high m (Nat.le_refl _)] at this; cases this
          · omega
        subst him'
        exact takeTail i rfl (Nat.le_refl _) (fun j => by
          by_cases h : j < i
          · rw [hall j h]; simp [h]
          · rw [I.high j (by omega)]; simp [h]) (hEnd D val a w1 I hall)
    · have hcd : ∀ j, j < i → D.getD j false = true := fun j hj => by
        have hmi : m ≤ i := by
          have := hD i
          rw [hnd] at this
          have : ¬ i < k := by simpa using this.symm
          omega
        have hdn : ∀ i, D.getD i false = true → ∀ j ∈ clsAt cls i, D.getD j false = true := by
          intro x hx y hy
          rw [hD] at hx ⊢
          have hx' : x < k := by simpa using hx
          obtain ⟨p, hp⟩ : ∃ p, L[x]? = some p := ⟨L[x]'(by omega), by simp [show x < L.length by omega]⟩
          have : ∀ (x : Nat) (p : Oper), L[x]? = some p → ∀ y ∈ clsAt cls x, y < x := by
            intro x
            induction x using Nat.strongRecOn with
            | ind x ih =>
              intro p hp y hy
              obtain ⟨e, he, hb, h⟩ := H.dep x p hp y hy
              have h1 := H.back x p hp e he hb
              rcases h with rfl | h
              · exact h1
              · obtain ⟨q, hq⟩ : ∃ q, L[e.on]? = some q := by
                  have : x < L.length := (List.getElem?_eq_some_iff.1 hp).1
                  exact ⟨L[e.on]'(by omega), by simp [show e.on < L.length by omega]⟩
                have := ih e.on h1 q hq y h
                omega
          have := this x p hp y hy
          simp
          omega
        exact tailDone D i o hdn ho' hdep j (H.tail i o ho' hmi j hj)
      have hik : k = i := by
        have h1 := hD i
        rw [hnd] at h1
        have h2 : ¬ i < k := by simpa using h1.symm
        rcases Nat.lt_or_ge k i with h | h
        · have := hcd k h
          rw [hD] at this
          simp at this
        · omega
      exact takeTail k hik (by omega) hD hw
  · intro D a w1 hs hI hall
    have hs' : D.size = L.length := by simpa using hs
    rcases hI with ⟨val, I⟩ | ⟨k, hmk, hkl, hD, hw⟩
    · have hmL : m = L.length := by
        rcases Nat.lt_or_ge m L.length with h | h
        · have := hall m (by simpa using h)
          rw [I.high m (Nat.le_refl _)] at this; cases this
        · omega
      have := hEnd D val a w1 I fun i hi => hall i (by simp; omega)
      rw [hmL, List.drop_length] at this
      exact this
    · have hk : k = L.length := by
        rcases Nat.lt_or_ge k L.length with h | h
        · have := hall k (by simpa using h)
          rw [hD] at this
          simp at this
        · omega
      rw [hk, List.drop_length] at hw
      exact hw
theorem base_below (w : World) : BaseOk w fun _ w1 => Below w.heap.size w w1 :=
  ⟨fun _ _ => ⟨rfl, rfl, rfl, Nat.le_refl _, fun _ _ => rfl⟩, fun _ _ _ h hb => h.trans (hb.mono h.size), fun _ _ h => h.size⟩
end
end Go.Proofs.Ytncnlhkmdljgpaa
/- The operations of a head that also stores. -/
namespace Go.Proofs.Ytncnlhkmdljgpaa
open Go Go.RowKit
section
variable {P : Program} {n : Nat} {L : List Oper} {Q : Exit → Act → World → Prop} {cls : List (List Nat)} {m : Nat} {alc : List Nat} {w w1 : World} {Φ : Nat → (Nat → Bool) → (Nat → Value) → World → Prop} {i : Nat} {val : Nat → Value} {a : Act} {σ : Sg} {fl : Nat → Bool}
abbrev SK (fl : Nat → Bool) (L : List Oper) (cls : List (List Nat)) (alc : List Nat) (Φ : Nat → (Nat → Bool) → (Nat → Value) → World → Prop) (i : Nat) (val : Nat → Value) (a : Act) (w1 : World) : Act → World → Prop :=
  fun a' w' => ∃ v, a' = a.put (dstOf L i) v ∧ Below w1.heap.size w1 w' ∧ Φ i fl (res (upd val i v) i (clsAt cls i)) w' ∧ (i ∈ alc → v = .pointer (some ⟨w1.heap.size, 0, none⟩) ∧ w1.heap.size < w'.heap.size)
theorem ss_run {o : Oper} {v : Value} {w' : World} (ho : nthO L i = some o) (hg : o.guard = none) (hr : (execOp a.eval o).run P w1 = .ok (.value v) w') (hb : Below w1.heap.size w1 w') (hΦ : Φ i fl (res (upd val i v) i (clsAt cls i)) w') (halc : i ∈ alc → v = .pointer (some ⟨w1.heap.size, 0, none⟩) ∧ w1.heap.size < w'.heap.size) :
    wpOp P L.toArray Q i (SK fl L cls alc Φ i val a w1) a w1 := by
  obtain ⟨h1, h2⟩ := opL ho
  unfold wpOp
  simp only [h1]
  rw [if_pos (wanted_none hg _)]
  left
  unfold Oper.wp
  rw [hr]
  exact ⟨v, by rw [h2], hb, hΦ, halc⟩
/-- a value, the world as it was -/
theorem ss_val {o : Oper} {v : Value} (ha : Env n σ a) (ho : nthO L i = some o) (hg : o.guard = none) (hr : Gives P n σ w1 o v) (hΦ : Φ i fl (res (upd val i v) i (clsAt cls i)) w1) (halc : memB alc i = false) : wpOp P L.toArray Q i (SK fl L cls alc Φ i val a w1) a w1 :=
  ss_run ho hg (hr a ha) ⟨rfl, rfl, rfl, Nat.le_refl _, fun _ _ => rfl⟩ hΦ fun h => by rw [memB_mem.2 h] at halc; cases halc
theorem ss_new {o : Oper} {cs : Array Value} {T : TypeId} {v : Nat → Value} (ho : nthO L i = some o) (hg : o.guard = none) (hr : ∀ a, Env n σ a → (execOp a.eval o).run P w1 = .ok (.value (v w1.heap.size)) (w1.alloc (.cells cs T))) (ha : Env n σ a)
    (hv : memB alc i = true → v = fun g => .pointer (some ⟨g, 0, none⟩)) (hΦ : ∀ g w', Blk w' g T cs → Below w1.heap.size w1 w' → w1.heap.size ≤ g → Φ i fl (res (upd val i (v g)) i (clsAt cls i)) w') : wpOp P L.toArray Q i (SK fl L cls alc Φ i val a w1) a w1 :=
  ss_run ho hg (hr a ha) ((Below.refl _ _).alloc (Nat.le_refl _) _) (hΦ _ _ (Blk.new w1 T cs) ((Below.refl _ _).alloc (Nat.le_refl _) _) (Nat.le_refl _)) fun h => by rw [hv (memB_mem.2 h)]; exact ⟨rfl, by simp⟩
theorem ss_newP {o : Oper} {cs : Array Value} {T : TypeId} (ha : Env n σ a) (ho : nthO L i = some o) (hg : o.guard = none) (hr : ∀ a, Env n σ a → (execOp a.eval o).run P w1 = .ok (.value (.pointer (some ⟨w1.heap.size, 0, none⟩))) (w1.alloc (.cells cs T)))
    (hΦ : ∀ g w', Blk w' g T cs → Below w1.heap.size w1 w' → w1.heap.size ≤ g → Φ i fl (res (upd val i (.pointer (some ⟨g, 0, none⟩))) i (clsAt cls i)) w') : wpOp P L.toArray Q i (SK fl L cls alc Φ i val a w1) a w1 :=
  ss_new (v := fun g => .pointer (some ⟨g, 0, none⟩)) ho hg hr ha (fun _ => rfl) hΦ
theorem ss_newS {o : Oper} {m c : Nat} {cs : Array Value} {T : TypeId} (ha : Env n σ a) (ho : nthO L i = some o) (hg : o.guard = none) (hr : ∀ a, Env n σ a → (execOp a.eval o).run P w1 = .ok (.value (.slice (some ⟨w1.heap.size, 0, none⟩) m c)) (w1.alloc (.cells cs T))) (halc : memB alc i = false)
    (hΦ : ∀ g w', Blk w' g T cs → Below w1.heap.size w1 w' → w1.heap.size ≤ g → Φ i fl (res (upd val i (.slice (some ⟨g, 0, none⟩) m c)) i (clsAt cls i)) w') : wpOp P L.toArray Q i (SK fl L cls alc Φ i val a w1) a w1 :=
  ss_new (v := fun g => .slice (some ⟨g, 0, none⟩) m c) ho hg hr ha (fun h => by rw [halc] at h; cases h) hΦ
theorem ss_call {o : Oper} {f : FuncId} {args : Array Value} {R : Ending → World → Prop} (ha : Env n σ a) (ho : nthO L i = some o) (hg : o.guard = none) (hr : ∀ a, Env n σ a → (execOp a.eval o).run P w1 = .ok (.enter f args) w1) (hc : Calls P f args w1 R)
    (halc : memB alc i = false) (hΦ : ∀ e w', R e w' → ∃ v, e = .returned v ∧ Below w1.heap.size w1 w' ∧ Φ i fl (res (upd val i v) i (clsAt cls i)) w') : wpOp P L.toArray Q i (SK fl L cls alc Φ i val a w1) a w1 := by
  obtain ⟨h1, h2⟩ := opL ho
  unfold wpOp
  simp only [h1]
  rw [if_pos (wanted_none hg _)]
  left
  unfold Oper.wp
  rw [hr a ha, Oper.upon_enter]
  refine hc.mono fun e w' he => ?_
  obtain ⟨v, rfl, hb, hp⟩ := hΦ e w' he
  exact ⟨v, by rw [h2], hb, hp, fun h => by rw [memB_mem.2 h] at halc; cases halc⟩
def phiS (V : Nat → (Nat → Value) → Prop) : List (Nat × ((Nat → Bool) → (Nat → Value) → World → Prop)) → Nat → (Nat → Bool) → (Nat → Value) → World → Prop
  | [], i, _, r, _ => V i r
  | p :: l, i, fl, r, w => match Nat.beq i p.1 with
    | true => p.2 fl r w
    | false => phiS V l i fl r w
def MonoS (F : (Nat → Bool) → (Nat → Value) → World → Prop) : Prop := ∀ fl r w1 w2, Below w1.heap.size w1 w2 → F fl r w1 → F fl r w2
theorem phiS_nil {V : Nat → (Nat → Value) → Prop} : ∀ i fl r w1 w2, Below w1.heap.size w1 w2 → phiS V [] i fl r w1 → phiS V [] i fl r w2 := fun _ _ _ _ _ _ h => h
theorem phiS_cons {V : Nat → (Nat → Value) → Prop} {k : Nat} {F : (Nat → Bool) → (Nat → Value) → World → Prop} {l : List (Nat × ((Nat → Bool) → (Nat → Value) → World → Prop))} (hF : MonoS F) (hl : ∀ i fl r w1 w2, Below w1.heap.size w1 w2 → phiS V l i fl r w1 → phiS V l i fl r w2) :
    ∀ i fl r w1 w2, Below w1.heap.size w1 w2 → phiS V ((k, F) :: l) i fl r w1 → phiS V ((k, F) :: l) i fl r w2 := by
  intro i fl r w1 w2 hb h
  unfold phiS at h ⊢
  cases e : Nat.beq i k with
  | true => simp only [e] at h ⊢; exact hF fl r w1 w2 hb h
  | false => simp only [e] at h ⊢; exact hl i fl r w1 w2 hb h
theorem phiS_cons_st {V : Nat → (Nat → Value) → Prop} {s k : Nat} {w2 : World} {C : Nat → Prop} {F : (Nat → Bool) → (Nat → Value) → World → Prop} {l : List (Nat × ((Nat → Bool) → (Nat → Value) → World → Prop))} (hF : C k → F fl (res val k (clsAt cls k)) w1 → F (fset fl s) (res val k (clsAt cls k)) w2)
    (hl : ∀ j, C j → phiS V l j fl (res val j (clsAt cls j)) w1 → phiS V l j (fset fl s) (res val j (clsAt cls j)) w2) :
    ∀ j, C j → phiS V ((k, F) :: l) j fl (res val j (clsAt cls j)) w1 → phiS V ((k, F) :: l) j (fset fl s) (res val j (clsAt cls j)) w2 := by
  intro j hc h
  unfold phiS at h ⊢
  cases e : Nat.beq j k with
  | true =>
    have e' := Nat.eq_of_beq_eq_true e
    subst e'
    simp only [e] at h ⊢
    exact hF hc h
  | false => simp only [e] at h ⊢; exact hl j hc h
/-- a block made here, till it is stored into -/
theorem monoS_alloc {T k s B : Nat} {cs : Array Value} : MonoS fun fl r w => ∃ g, r k = .pointer (some ⟨g, 0, none⟩) ∧ B ≤ g ∧ (fl s = false → Blk w g T cs) := fun _ _ _ _ hb ⟨g, h1, h2, h3⟩ => ⟨g, h1, h2, fun h => (h3 h).below hb (h3 h).lt⟩
theorem monoS_alloc0 {T k B : Nat} {cs : Array Value} : MonoS fun _ r w => ∃ g, r k = .pointer (some ⟨g, 0, none⟩) ∧ B ≤ g ∧ Blk w g T cs := fun _ _ _ _ hb ⟨g, h1, h2, h3⟩ => ⟨g, h1, h2, h3.below hb h3.lt⟩
theorem monoS_store {T k : Nat} {cs : (Nat → Value) → Array Value} : MonoS fun _ r w => ∃ g, r k = .pointer (some ⟨g, 0, none⟩) ∧ Blk w g T (cs r) := fun _ _ _ _ hb ⟨g, h1, h3⟩ => ⟨g, h1, h3.below hb h3.lt⟩
theorem monoS_own {T g : Nat} {cs : (Nat → Value) → Array Value} : MonoS fun _ r w => Blk w g T (cs r) := fun _ _ _ _ hb h3 => h3.below hb h3.lt
theorem monoS_bs {T k m c : Nat} {cs : (Nat → Value) → Array Value} {C : Nat → Prop} : MonoS fun _ r w => ∃ g, r k = .slice (some ⟨g, 0, none⟩) m c ∧ Blk w g T (cs r) ∧ C g := fun _ _ _ _ hb ⟨g, h1, h2, h3⟩ => ⟨g, h1, h2.below hb h2.lt, h3⟩
/-- what is dropped once a store has come -/
theorem monoS_till {s : Nat} {F : (Nat → Value) → World → Prop} (h : Mono F) : MonoS fun fl r w => fl s = false → F r w := fun _ r w1 w2 hb hf e => h r w1 w2 hb (hf e)
theorem fset_eq {s : Nat} : fset fl s s = true := by simp [fset]
theorem grown_two {w w1 w2 : World} {g : Nat} (h : w.grownBy w1 (some g)) (k : w1.grownBy w2 (some g)) : w.grownBy w2 (some g) :=
  ⟨k.os.trans h.os, k.tape.trans h.tape, k.output.trans h.output, Nat.le_trans h.size k.size, fun i hi hne => (k.block i (Nat.lt_of_lt_of_le hi h.size) hne).trans (h.block i hi hne)⟩
theorem base_own {w : World} {g T s : Nat} {cs : Array Value} (hq : Blk w g T cs) : BaseOk w fun fl w1 => w.grownBy w1 (some g) ∧ (fl s = false → Blk w1 g T cs) :=
  ⟨fun _ _ => ⟨⟨rfl, rfl, rfl, Nat.le_refl _, fun _ _ _ => rfl⟩, fun _ => hq⟩, fun _ _ _ ⟨h1, h2⟩ hb => ⟨grown_below h1 hb, fun h => (h2 h).below hb (h2 h).lt⟩, fun _ _ h => h.1.size⟩
theorem base_row {w : World} {base e size k s : Nat} {v : Value} {xs : List Value} (ho : w.ownsRow base e size v k xs) : BaseOk w fun fl w1 => w.grownBy w1 v.ownBlock ∧ (fl s = false → w1.ownsRow base e size v k xs) :=
  ⟨fun _ _ => ⟨⟨rfl, rfl, rfl, Nat.le_refl _, fun _ _ _ => rfl⟩, fun _ => own_drewN ho 1⟩, fun _ _ _ ⟨h1, h2⟩ hb => ⟨grown_below h1 hb, fun h => own_below (h2 h) hb (Nat.le_refl _)⟩, fun _ _ h => h.1.size⟩
theorem grown_three {w w1 w2 : World} {row : Option Nat} (h : w.grownBy w1 row) (k : w1.grownBy w2 row) : w.grownBy w2 row :=
  ⟨k.os.trans h.os, k.tape.trans h.tape, k.output.trans h.output, Nat.le_trans h.size k.size, fun i hi hne => (k.block i (Nat.lt_of_lt_of_le hi h.size) hne).trans (h.block i hi hne)⟩
/-- a store, in a head -/
theorem ts_store {ty t T g o k : Nat} {x y : Operand} {pos : String} {af : Array Edge} {l l' : List Value} {v : Value} {K : Act → World → Prop} (ha : Env n σ a) (ho : nthO L i = some ⟨none, .store t x y, ty, pos, af, none⟩) (hx : evS σ x = some (.pointer (some ⟨g, o, none⟩))) (hy : evS σ y = some v) (hb : Blk w1 g T l.toArray) (hs : (P.info? t).map (·.size) = some k) (hv : v.cells.toList = l') (hk : lenV l' = k) (hok : Nat.ble (o + k) (lenV l) = true) (h1 : allOne l' = true)
    (next : ∀ w', Blk w' g T (spl l o l').toArray → w1.grownBy w' (some g) → K a w') : wpOp P L.toArray Q i K a w1 := by
  obtain ⟨h2, _⟩ := opL ho
  unfold wpOp
  simp only [h2]
  rw [if_pos (wanted_none rfl _)]
  left
  unfold Oper.wp
  have hr : (execOp a.eval ⟨none, .store t x y, ty, pos, af, none⟩).run P w1 = .ok .skip (w1.setRow g (spl l o l').toArray) := by
    simp only [execOp, ha.eval hx, ha.eval hy, Sem.run_bind, run_storeAt hs hb hv hk hok h1, Result.andThen_ok]
    rfl
  rw [hr, Oper.upon_skip]
  exact next _ (setRow_blk hb) (setRow_grown _ _ _)
end
end Go.Proofs.Ytncnlhkmdljgpaa
set_option linter.unusedVariables false
set_option linter.unusedSimpArgs false
namespace Go.Proofs.Ytncnlhkmdljgpaa
open Go Go.RowKit
section
variable {n : Nat} {σ : Sg} {w : World} {dst : Option Tmp} {ty : TypeId} {pos : String} {af : Array Edge} {g : Option (Nat × Bool)} {x y z : Operand} {at' : Array TypeId}
theorem bx_129 {v0 v1 v2 v3 v4 v5 v6 v7 v8 v9 v10 : Value} (hx : evS σ x = some (.agg #[v0, v1, v2, v3, v4, v5, v6, v7, v8, v9, v10])) (a : Act) (ha : Env n σ a) : (execOp a.eval ⟨dst, .box 129 x, ty, pos, af, g⟩).run Try.prog w = .ok (.value (.pointer (some ⟨w.heap.size, 0, none⟩))) (w.alloc (.cells #[v0, v1, v2, v3, v4, v5, v6, v7, v8, v9, v10] 129)) := by
  simp only [execOp, ha.eval hx]
  simp [go_sem]
theorem al_23 (a : Act) (_ : Env n σ a) : (execOp a.eval ⟨dst, .alloc 23, ty, pos, af, g⟩).run Try.prog w = .ok (.value (.pointer (some ⟨w.heap.size, 0, none⟩))) (w.alloc (.cells #[.int .i64 0, .int .i64 0] 23)) := by
  simp only [execOp]
  simp [go_sem]
theorem fa_129_1 {b o : Nat} (hx : evS σ x = some (.pointer (some ⟨b, o, none⟩))) : Gives Try.prog n σ w ⟨dst, .fieldAddr 129 x 1, ty, pos, af, g⟩ (.pointer (some ⟨b, o + 9, none⟩)) := fun a ha => by
  simp only [execOp, ha.eval hx]
  simp [go_sem]
theorem ld_3 {b o : Nat} {v0 : Value} (hx : evS σ x = some (.pointer (some ⟨b, o, none⟩))) (c0 : w.cell? ⟨b, o, none⟩ = some v0) : Gives Try.prog n σ w ⟨dst, .load 3 x, ty, pos, af, g⟩ (v0) := fun a ha => by
  simp only [execOp, ha.eval hx]
  simp [go_sem, c0]
theorem cl_78 {x0 x1 x2 : Operand} {v0 v1 v2 : Value} (h0 : evS σ x0 = some v0) (h1 : evS σ x1 = some v1) (h2 : evS σ x2 = some v2) (a : Act) (ha : Env n σ a) : (execOp a.eval ⟨dst, .call { callee := .value (.func 78), args := #[x0, x1, x2], argTypes := at' }, ty, pos, af, g⟩).run Try.prog w = .ok (.enter 78 #[v0, v1, v2]) w := by
  simp only [execOp, resolve, List.map_toArray, List.map_cons, List.map_nil, ha.eval h0, ha.eval h1, ha.eval h2]
  simp [go_sem, Act.eval]
theorem ld_129 {b o : Nat} {v0 v1 v2 v3 v4 v5 v6 v7 v8 v9 v10 : Value} (hx : evS σ x = some (.pointer (some ⟨b, o, none⟩))) (c0 : w.cell? ⟨b, o, none⟩ = some v0) (c1 : w.cell? ⟨b, o + 1, none⟩ = some v1) (c2 : w.cell? ⟨b, o + 2, none⟩ = some v2) (c3 : w.cell? ⟨b, o + 3, none⟩ = some v3) (c4 : w.cell? ⟨b, o + 4, none⟩ = some v4) (c5 : w.cell? ⟨b, o + 5, none⟩ = some v5) (c6 : w.cell? ⟨b, o + 6, none⟩ = some v6) (c7 : w.cell? ⟨b, o + 7, none⟩ = some v7) (c8 : w.cell? ⟨b, o + 8, none⟩ = some v8) (c9 : w.cell? ⟨b, o + 9, none⟩ = some v9) (c10 : w.cell? ⟨b, o + 10, none⟩ = some v10) : Gives Try.prog n σ w ⟨dst, .load 129 x, ty, pos, af, g⟩ (.agg #[v0, v1, v2, v3, v4, v5, v6, v7, v8, v9, v10]) := fun a ha => by
  simp only [execOp, ha.eval hx]
  simp [go_sem, c0, c1, c2, c3, c4, c5, c6, c7, c8, c9, c10]
theorem cl_72 {x0 x1 : Operand} {v0 v1 : Value} (h0 : evS σ x0 = some v0) (h1 : evS σ x1 = some v1) (a : Act) (ha : Env n σ a) : (execOp a.eval ⟨dst, .call { callee := .value (.func 72), args := #[x0, x1], argTypes := at' }, ty, pos, af, g⟩).run Try.prog w = .ok (.enter 72 #[v0, v1]) w := by
  simp only [execOp, resolve, List.map_toArray, List.map_cons, List.map_nil, ha.eval h0, ha.eval h1]
  simp [go_sem, Act.eval]
theorem sz_23 : (Try.prog.info? 23).map (·.size) = some 2 := by kernel_rfl
theorem fa_23_0 {b o : Nat} (hx : evS σ x = some (.pointer (some ⟨b, o, none⟩))) : Gives Try.prog n σ w ⟨dst, .fieldAddr 23 x 0, ty, pos, af, g⟩ (.pointer (some ⟨b, o, none⟩)) := fun a ha => by
  simp only [execOp, ha.eval hx]
  simp [go_sem]
theorem fa_23_1 {b o : Nat} (hx : evS σ x = some (.pointer (some ⟨b, o, none⟩))) : Gives Try.prog n σ w ⟨dst, .fieldAddr 23 x 1, ty, pos, af, g⟩ (.pointer (some ⟨b, o + 1, none⟩)) := fun a ha => by
  simp only [execOp, ha.eval hx]
  simp [go_sem]
theorem mm_max {p q r : Int} (hx : evS σ x = some (.int .i64 p)) (hy : evS σ y = some (.int .i64 q)) (hr : max p q = r) : Gives Try.prog n σ w ⟨dst, .call { callee := .builtin .max, args := #[x, y], argTypes := at' }, ty, pos, af, g⟩ (.int .i64 r) := fun a ha => by
  simp only [execOp, resolve, List.map_toArray, List.map_cons, List.map_nil, ha.eval hx, ha.eval hy]
  subst hr
  simp [go_sem, Int.max_def]
  split <;> split <;> omega
theorem bd_23_0_1 {x0 x1 : Operand} {z0 : Int} {z1 : Int} (h0 : evS σ x0 = some (.int .i64 z0)) (h1 : evS σ x1 = some (.int .i64 z1)) : Gives Try.prog n σ w ⟨dst, .build 23 #[(0, x0), (1, x1)], ty, pos, af, g⟩ (.agg #[.int .i64 z0, .int .i64 z1]) := fun a ha => by
  simp only [execOp, List.map_toArray, List.map_cons, List.map_nil, ha.eval h0, ha.eval h1]
  go_simp
theorem lv_23 {b o : Nat} {v0 v1 : Value} (c0 : w.cell? ⟨b, o, none⟩ = some v0) (c1 : w.cell? ⟨b, o + 1, none⟩ = some v1) : (loadVar 23 ⟨b, o, none⟩).run Try.prog w = .ok (.agg #[v0, v1]) w := by
  simp [go_sem, loadVar, c0, c1]
end
end Go.Proofs.Ytncnlhkmdljgpaa
set_option linter.unusedVariables false
set_option linter.unusedSimpArgs false
namespace Go.Proofs.Ytncnlhkmdljgpaa
open Go Go.RowKit
section
variable {n : Nat} {σ : Sg} {w : World} {dst : Option Tmp} {ty : TypeId} {pos : String} {af : Array Edge} {g : Option (Nat × Bool)} {x y z : Operand} {at' : Array TypeId}
theorem bx_47 {v0 v1 : Value} (hx : evS σ x = some (.agg #[v0, v1])) (a : Act) (ha : Env n σ a) : (execOp a.eval ⟨dst, .box 47 x, ty, pos, af, g⟩).run Try.prog w = .ok (.value (.pointer (some ⟨w.heap.size, 0, none⟩))) (w.alloc (.cells #[v0, v1] 47)) := by
  simp only [execOp, ha.eval hx]
  simp [go_sem]
theorem al_129 (a : Act) (_ : Env n σ a) : (execOp a.eval ⟨dst, .alloc 129, ty, pos, af, g⟩).run Try.prog w = .ok (.value (.pointer (some ⟨w.heap.size, 0, none⟩))) (w.alloc (.cells #[.int .i64 0, .int .i64 0, .int .i64 0, .int .i64 0, .slice none 0 0, .int .i64 0, .int .i64 0, .int .i64 0, .int .i64 0, .int .i64 0, .slice none 0 0] 129)) := by
  simp only [execOp]
  simp [go_sem]
theorem ld_47 {b o : Nat} {v0 v1 : Value} (hx : evS σ x = some (.pointer (some ⟨b, o, none⟩))) (c0 : w.cell? ⟨b, o, none⟩ = some v0) (c1 : w.cell? ⟨b, o + 1, none⟩ = some v1) : Gives Try.prog n σ w ⟨dst, .load 47 x, ty, pos, af, g⟩ (.agg #[v0, v1]) := fun a ha => by
  simp only [execOp, ha.eval hx]
  simp [go_sem, c0, c1]
theorem cl_68 {x0 : Operand} {v0 : Value} (h0 : evS σ x0 = some v0) (a : Act) (ha : Env n σ a) : (execOp a.eval ⟨dst, .call { callee := .value (.func 68), args := #[x0], argTypes := at' }, ty, pos, af, g⟩).run Try.prog w = .ok (.enter 68 #[v0]) w := by
  simp only [execOp, resolve, List.map_toArray, List.map_cons, List.map_nil, ha.eval h0]
  simp [go_sem, Act.eval]
theorem bs_121_1 {x0 : Operand} {z0_0 : Int} (h0 : evS σ x0 = some (.int .i64 z0_0)) (a : Act) (ha : Env n σ a) : (execOp a.eval ⟨dst, .buildSlice 121 1 #[(0, x0)], ty, pos, af, g⟩).run Try.prog w = .ok (.value (.slice (some ⟨w.heap.size, 0, none⟩) 1 1)) (w.alloc (.cells #[.int .i64 z0_0] 3)) := by
  simp only [execOp, List.map_toArray, List.map_cons, List.map_nil, ha.eval h0]
  go_simp
theorem cl_57 {x0 x1 x2 : Operand} {v0 v1 v2 : Value} (h0 : evS σ x0 = some v0) (h1 : evS σ x1 = some v1) (h2 : evS σ x2 = some v2) (a : Act) (ha : Env n σ a) : (execOp a.eval ⟨dst, .call { callee := .value (.func 57), args := #[x0, x1, x2], argTypes := at' }, ty, pos, af, g⟩).run Try.prog w = .ok (.enter 57 #[v0, v1, v2]) w := by
  simp only [execOp, resolve, List.map_toArray, List.map_cons, List.map_nil, ha.eval h0, ha.eval h1, ha.eval h2]
  simp [go_sem, Act.eval]
theorem sz_129 : (Try.prog.info? 129).map (·.size) = some 11 := by kernel_rfl
theorem lv_129 {b o : Nat} {v0 v1 v2 v3 v4 v5 v6 v7 v8 v9 v10 : Value} (c0 : w.cell? ⟨b, o, none⟩ = some v0) (c1 : w.cell? ⟨b, o + 1, none⟩ = some v1) (c2 : w.cell? ⟨b, o + 2, none⟩ = some v2) (c3 : w.cell? ⟨b, o + 3, none⟩ = some v3) (c4 : w.cell? ⟨b, o + 4, none⟩ = some v4) (c5 : w.cell? ⟨b, o + 5, none⟩ = some v5) (c6 : w.cell? ⟨b, o + 6, none⟩ = some v6) (c7 : w.cell? ⟨b, o + 7, none⟩ = some v7) (c8 : w.cell? ⟨b, o + 8, none⟩ = some v8) (c9 : w.cell? ⟨b, o + 9, none⟩ = some v9) (c10 : w.cell? ⟨b, o + 10, none⟩ = some v10) : (loadVar 129 ⟨b, o, none⟩).run Try.prog w = .ok (.agg #[v0, v1, v2, v3, v4, v5, v6, v7, v8, v9, v10]) w := by
  simp [go_sem, loadVar, c0, c1, c2, c3, c4, c5, c6, c7, c8, c9, c10]
theorem fa_141_0 {b o : Nat} (hx : evS σ x = some (.pointer (some ⟨b, o, none⟩))) : Gives Try.prog n σ w ⟨dst, .fieldAddr 141 x 0, ty, pos, af, g⟩ (.pointer (some ⟨b, o, none⟩)) := fun a ha => by
  simp only [execOp, ha.eval hx]
  simp [go_sem]
theorem cl_71 {x0 x1 : Operand} {v0 v1 : Value} (h0 : evS σ x0 = some v0) (h1 : evS σ x1 = some v1) (a : Act) (ha : Env n σ a) : (execOp a.eval ⟨dst, .call { callee := .value (.func 71), args := #[x0, x1], argTypes := at' }, ty, pos, af, g⟩).run Try.prog w = .ok (.enter 71 #[v0, v1]) w := by
  simp only [execOp, resolve, List.map_toArray, List.map_cons, List.map_nil, ha.eval h0, ha.eval h1]
  simp [go_sem, Act.eval]
theorem cl_77 {x0 : Operand} {v0 : Value} (h0 : evS σ x0 = some v0) (a : Act) (ha : Env n σ a) : (execOp a.eval ⟨dst, .call { callee := .value (.func 77), args := #[x0], argTypes := at' }, ty, pos, af, g⟩).run Try.prog w = .ok (.enter 77 #[v0]) w := by
  simp only [execOp, resolve, List.map_toArray, List.map_cons, List.map_nil, ha.eval h0]
  simp [go_sem, Act.eval]
theorem cl_73 {x0 x1 : Operand} {v0 v1 : Value} (h0 : evS σ x0 = some v0) (h1 : evS σ x1 = some v1) (a : Act) (ha : Env n σ a) : (execOp a.eval ⟨dst, .call { callee := .value (.func 73), args := #[x0, x1], argTypes := at' }, ty, pos, af, g⟩).run Try.prog w = .ok (.enter 73 #[v0, v1]) w := by
  simp only [execOp, resolve, List.map_toArray, List.map_cons, List.map_nil, ha.eval h0, ha.eval h1]
  simp [go_sem, Act.eval]
theorem cl_74 {x0 x1 x2 : Operand} {v0 v1 v2 : Value} (h0 : evS σ x0 = some v0) (h1 : evS σ x1 = some v1) (h2 : evS σ x2 = some v2) (a : Act) (ha : Env n σ a) : (execOp a.eval ⟨dst, .call { callee := .value (.func 74), args := #[x0, x1, x2], argTypes := at' }, ty, pos, af, g⟩).run Try.prog w = .ok (.enter 74 #[v0, v1, v2]) w := by
  simp only [execOp, resolve, List.map_toArray, List.map_cons, List.map_nil, ha.eval h0, ha.eval h1, ha.eval h2]
  simp [go_sem, Act.eval]
theorem cl_75 {x0 x1 x2 : Operand} {v0 v1 v2 : Value} (h0 : evS σ x0 = some v0) (h1 : evS σ x1 = some v1) (h2 : evS σ x2 = some v2) (a : Act) (ha : Env n σ a) : (execOp a.eval ⟨dst, .call { callee := .value (.func 75), args := #[x0, x1, x2], argTypes := at' }, ty, pos, af, g⟩).run Try.prog w = .ok (.enter 75 #[v0, v1, v2]) w := by
  simp only [execOp, resolve, List.map_toArray, List.map_cons, List.map_nil, ha.eval h0, ha.eval h1, ha.eval h2]
  simp [go_sem, Act.eval]
end
end Go.Proofs.Ytncnlhkmdljgpaa
set_option linter.unusedVariables false
set_option linter.unusedSimpArgs false
namespace Go.Proofs.Ytncnlhkmdljgpaa
open Go Go.RowKit
section
variable {n : Nat} {σ : Sg} {w : World} {dst : Option Tmp} {ty : TypeId} {pos : String} {af : Array Edge} {g : Option (Nat × Bool)} {x y z : Operand} {at' : Array TypeId}
theorem al_47 (a : Act) (_ : Env n σ a) : (execOp a.eval ⟨dst, .alloc 47, ty, pos, af, g⟩).run Try.prog w = .ok (.value (.pointer (some ⟨w.heap.size, 0, none⟩))) (w.alloc (.cells #[.slice none 0 0, .slice none 0 0] 47)) := by
  simp only [execOp]
  simp [go_sem]
theorem bd_126_1 {x0 : Operand} {z0 : Int} (h0 : evS σ x0 = some (.int .i64 z0)) : Gives Try.prog n σ w ⟨dst, .build 126 #[(1, x0)], ty, pos, af, g⟩ (.agg #[.int .i64 0, .int .i64 z0]) := fun a ha => by
  simp only [execOp, List.map_toArray, List.map_cons, List.map_nil, ha.eval h0]
  go_simp
theorem bd_126_0_1 {x0 x1 : Operand} {z0 : Int} {z1 : Int} (h0 : evS σ x0 = some (.int .i64 z0)) (h1 : evS σ x1 = some (.int .i64 z1)) : Gives Try.prog n σ w ⟨dst, .build 126 #[(0, x0), (1, x1)], ty, pos, af, g⟩ (.agg #[.int .i64 z0, .int .i64 z1]) := fun a ha => by
  simp only [execOp, List.map_toArray, List.map_cons, List.map_nil, ha.eval h0, ha.eval h1]
  go_simp
theorem bs_48_2 {x0 x1 : Operand} {v0_0 v0_1 v1_0 v1_1 : Value} (h0 : evS σ x0 = some (.agg #[v0_0, v0_1])) (h1 : evS σ x1 = some (.agg #[v1_0, v1_1]))  (a : Act) (ha : Env n σ a) : (execOp a.eval ⟨dst, .buildSlice 48 2 #[(0, x0), (1, x1)], ty, pos, af, g⟩).run Try.prog w = .ok (.value (.slice (some ⟨w.heap.size, 0, none⟩) 2 2)) (w.alloc (.cells #[v0_0, v0_1, v1_0, v1_1] 126)) := by
  simp only [execOp, List.map_toArray, List.map_cons, List.map_nil, ha.eval h0, ha.eval h1]
  go_simp
theorem bd_50_0_1_2_3_5_6 {x0 x1 x2 x3 x4 x5 : Operand} {z0 : Int} {z1 : Int} {v2_0 : Value} {v2_1 : Value} {A3 : Option Addr} {m3 : Nat} {c3 : Nat} {v4_0 : Value} {v4_1 : Value} {z5 : Int} (h0 : evS σ x0 = some (.int .i64 z0)) (h1 : evS σ x1 = some (.int .i64 z1)) (h2 : evS σ x2 = some (.agg #[v2_0, v2_1])) (h3 : evS σ x3 = some (.slice A3 m3 c3)) (h4 : evS σ x4 = some (.agg #[v4_0, v4_1])) (h5 : evS σ x5 = some (.int .i64 z5)) : Gives Try.prog n σ w ⟨dst, .build 50 #[(0, x0), (1, x1), (2, x2), (3, x3), (5, x4), (6, x5)], ty, pos, af, g⟩ (.agg #[.int .i64 z0, .int .i64 z1, v2_0, v2_1, .slice A3 m3 c3, .int .i64 0, v4_0, v4_1, .int .i64 z5]) := fun a ha => by
  simp only [execOp, List.map_toArray, List.map_cons, List.map_nil, ha.eval h0, ha.eval h1, ha.eval h2, ha.eval h3, ha.eval h4, ha.eval h5]
  go_simp
theorem bd_126_    : Gives Try.prog n σ w ⟨dst, .build 126 #[], ty, pos, af, g⟩ (.agg #[.int .i64 0, .int .i64 0]) := fun a _ => by
  simp only [execOp, List.map_toArray, List.map_nil]
  go_simp
theorem bd_50_0_1_2_3_4_5_6 {x0 x1 x2 x3 x4 x5 x6 : Operand} {z0 : Int} {z1 : Int} {v2_0 : Value} {v2_1 : Value} {A3 : Option Addr} {m3 : Nat} {c3 : Nat} {z4 : Int} {v5_0 : Value} {v5_1 : Value} {z6 : Int} (h0 : evS σ x0 = some (.int .i64 z0)) (h1 : evS σ x1 = some (.int .i64 z1)) (h2 : evS σ x2 = some (.agg #[v2_0, v2_1])) (h3 : evS σ x3 = some (.slice A3 m3 c3)) (h4 : evS σ x4 = some (.int .i64 z4)) (h5 : evS σ x5 = some (.agg #[v5_0, v5_1])) (h6 : evS σ x6 = some (.int .i64 z6)) : Gives Try.prog n σ w ⟨dst, .build 50 #[(0, x0), (1, x1), (2, x2), (3, x3), (4, x4), (5, x5), (6, x6)], ty, pos, af, g⟩ (.agg #[.int .i64 z0, .int .i64 z1, v2_0, v2_1, .slice A3 m3 c3, .int .i64 z4, v5_0, v5_1, .int .i64 z6]) := fun a ha => by
  simp only [execOp, List.map_toArray, List.map_cons, List.map_nil, ha.eval h0, ha.eval h1, ha.eval h2, ha.eval h3, ha.eval h4, ha.eval h5, ha.eval h6]
  go_simp
theorem bs_44_2 {x0 x1 : Operand} {v0_0 v0_1 v0_2 v0_3 v0_4 v0_5 v0_6 v0_7 v0_8 v1_0 v1_1 v1_2 v1_3 v1_4 v1_5 v1_6 v1_7 v1_8 : Value} (h0 : evS σ x0 = some (.agg #[v0_0, v0_1, v0_2, v0_3, v0_4, v0_5, v0_6, v0_7, v0_8])) (h1 : evS σ x1 = some (.agg #[v1_0, v1_1, v1_2, v1_3, v1_4, v1_5, v1_6, v1_7, v1_8]))  (a : Act) (ha : Env n σ a) : (execOp a.eval ⟨dst, .buildSlice 44 2 #[(0, x0), (1, x1)], ty, pos, af, g⟩).run Try.prog w = .ok (.value (.slice (some ⟨w.heap.size, 0, none⟩) 2 2)) (w.alloc (.cells #[v0_0, v0_1, v0_2, v0_3, v0_4, v0_5, v0_6, v0_7, v0_8, v1_0, v1_1, v1_2, v1_3, v1_4, v1_5, v1_6, v1_7, v1_8] 50)) := by
  simp only [execOp, List.map_toArray, List.map_cons, List.map_nil, ha.eval h0, ha.eval h1]
  go_simp
theorem bd_23_1 {x0 : Operand} {z0 : Int} (h0 : evS σ x0 = some (.int .i64 z0)) : Gives Try.prog n σ w ⟨dst, .build 23 #[(1, x0)], ty, pos, af, g⟩ (.agg #[.int .i64 0, .int .i64 z0]) := fun a ha => by
  simp only [execOp, List.map_toArray, List.map_cons, List.map_nil, ha.eval h0]
  go_simp
theorem bd_97_0_1_3 {x0 x1 x2 : Operand} {z0 : Int} {v1_0 : Value} {v1_1 : Value} {v2_0 : Value} {v2_1 : Value} (h0 : evS σ x0 = some (.int .i64 z0)) (h1 : evS σ x1 = some (.agg #[v1_0, v1_1])) (h2 : evS σ x2 = some (.agg #[v2_0, v2_1])) : Gives Try.prog n σ w ⟨dst, .build 97 #[(0, x0), (1, x1), (3, x2)], ty, pos, af, g⟩ (.agg #[.int .i64 z0, v1_0, v1_1, .int .i64 0, v2_0, v2_1]) := fun a ha => by
  simp only [execOp, List.map_toArray, List.map_cons, List.map_nil, ha.eval h0, ha.eval h1, ha.eval h2]
  go_simp
theorem bs_45_1 {x0 : Operand} {v0_0 v0_1 v0_2 v0_3 v0_4 v0_5 : Value} (h0 : evS σ x0 = some (.agg #[v0_0, v0_1, v0_2, v0_3, v0_4, v0_5]))  (a : Act) (ha : Env n σ a) : (execOp a.eval ⟨dst, .buildSlice 45 1 #[(0, x0)], ty, pos, af, g⟩).run Try.prog w = .ok (.value (.slice (some ⟨w.heap.size, 0, none⟩) 1 1)) (w.alloc (.cells #[v0_0, v0_1, v0_2, v0_3, v0_4, v0_5] 97)) := by
  simp only [execOp, List.map_toArray, List.map_cons, List.map_nil, ha.eval h0]
  go_simp
theorem bd_47_0_1 {x0 x1 : Operand} {A0 : Option Addr} {m0 : Nat} {c0 : Nat} {A1 : Option Addr} {m1 : Nat} {c1 : Nat} (h0 : evS σ x0 = some (.slice A0 m0 c0)) (h1 : evS σ x1 = some (.slice A1 m1 c1)) : Gives Try.prog n σ w ⟨dst, .build 47 #[(0, x0), (1, x1)], ty, pos, af, g⟩ (.agg #[.slice A0 m0 c0, .slice A1 m1 c1]) := fun a ha => by
  simp only [execOp, List.map_toArray, List.map_cons, List.map_nil, ha.eval h0, ha.eval h1]
  go_simp
theorem sz_47 : (Try.prog.info? 47).map (·.size) = some 2 := by kernel_rfl
theorem bs_28_4 {x0 x1 x2 x3 : Operand} {v0_0 v0_1 v1_0 v1_1 v2_0 v2_1 v3_0 v3_1 : Value} (h0 : evS σ x0 = some (.agg #[v0_0, v0_1])) (h1 : evS σ x1 = some (.agg #[v1_0, v1_1])) (h2 : evS σ x2 = some (.agg #[v2_0, v2_1])) (h3 : evS σ x3 = some (.agg #[v3_0, v3_1]))  (a : Act) (ha : Env n σ a) : (execOp a.eval ⟨dst, .buildSlice 28 4 #[(0, x0), (1, x1), (2, x2), (3, x3)], ty, pos, af, g⟩).run Try.prog w = .ok (.value (.slice (some ⟨w.heap.size, 0, none⟩) 4 4)) (w.alloc (.cells #[v0_0, v0_1, v1_0, v1_1, v2_0, v2_1, v3_0, v3_1] 23)) := by
  simp only [execOp, List.map_toArray, List.map_cons, List.map_nil, ha.eval h0, ha.eval h1, ha.eval h2, ha.eval h3]
  go_simp
theorem bs_52_2 {x0 x1 : Operand} {A0 A1 : Option Addr} {m0 c0 m1 c1 : Nat} (h0 : evS σ x0 = some (.slice A0 m0 c0)) (h1 : evS σ x1 = some (.slice A1 m1 c1)) (a : Act) (ha : Env n σ a) : (execOp a.eval ⟨dst, .buildSlice 52 2 #[(0, x0), (1, x1)], ty, pos, af, g⟩).run Try.prog w = .ok (.value (.slice (some ⟨w.heap.size, 0, none⟩) 2 2)) (w.alloc (.cells #[.slice A0 m0 c0, .slice A1 m1 c1] 28)) := by
  simp only [execOp, List.map_toArray, List.map_cons, List.map_nil, ha.eval h0, ha.eval h1]
  go_simp
theorem ld_23 {b o : Nat} {v0 v1 : Value} (hx : evS σ x = some (.pointer (some ⟨b, o, none⟩))) (c0 : w.cell? ⟨b, o, none⟩ = some v0) (c1 : w.cell? ⟨b, o + 1, none⟩ = some v1) : Gives Try.prog n σ w ⟨dst, .load 23 x, ty, pos, af, g⟩ (.agg #[v0, v1]) := fun a ha => by
  simp only [execOp, ha.eval hx]
  simp [go_sem, c0, c1]
theorem lv_47 {b o : Nat} {v0 v1 : Value} (c0 : w.cell? ⟨b, o, none⟩ = some v0) (c1 : w.cell? ⟨b, o + 1, none⟩ = some v1) : (loadVar 47 ⟨b, o, none⟩).run Try.prog w = .ok (.agg #[v0, v1]) w := by
  simp [go_sem, loadVar, c0, c1]
theorem ld_28 {b o : Nat} {v0 : Value} (hx : evS σ x = some (.pointer (some ⟨b, o, none⟩))) (c0 : w.cell? ⟨b, o, none⟩ = some v0) : Gives Try.prog n σ w ⟨dst, .load 28 x, ty, pos, af, g⟩ (v0) := fun a ha => by
  simp only [execOp, ha.eval hx]
  simp [go_sem, c0]
theorem eql_23 {a0 a1 b0 b1 : Int} {r : Bool} (hx : evS σ x = some (.agg #[.int .i64 a0, .int .i64 a1])) (hy : evS σ y = some (.agg #[.int .i64 b0, .int .i64 b1])) (hc : decide (a0 = b0 ∧ a1 = b1) = r) : Gives Try.prog n σ w ⟨dst, .binOp .eql 23 x y 23, ty, pos, af, g⟩ (.bool r) := fun a ha => by
  subst hc
  simp only [execOp, ha.eval hx, ha.eval hy]
  go_simp
  repeat' split
  all_goals simp_all
theorem ix_52 {b o m c k : Nat} (hx : evS σ x = some (.slice (some ⟨b, o, none⟩) m c)) (hy : evS σ y = some (.int .i64 (k : Int))) (hk : k < m) : Gives Try.prog n σ w ⟨dst, .indexAddr 52 x y, ty, pos, af, g⟩ (.pointer (some ⟨b, o + k, none⟩)) := fun a ha => by
  have k0 : (0 : Int) ≤ (k : Int) := Int.natCast_nonneg _
  have k1 : (k : Int) < (m : Int) := by omega
  simp only [execOp, ha.eval hx, ha.eval hy]
  simp [go_sem, k0, k1]
theorem ix_28 {b o m c k : Nat} (hx : evS σ x = some (.slice (some ⟨b, o, none⟩) m c)) (hy : evS σ y = some (.int .i64 (k : Int))) (hk : k < m) : Gives Try.prog n σ w ⟨dst, .indexAddr 28 x y, ty, pos, af, g⟩ (.pointer (some ⟨b, o + k * 2, none⟩)) := fun a ha => by
  have k0 : (0 : Int) ≤ (k : Int) := Int.natCast_nonneg _
  have k1 : (k : Int) < (m : Int) := by omega
  simp only [execOp, ha.eval hx, ha.eval hy]
  simp [go_sem, k0, k1]
theorem cl_56  (a : Act) (_ : Env n σ a) : (execOp a.eval ⟨dst, .call { callee := .value (.func 56), args := #[], argTypes := at' }, ty, pos, af, g⟩).run Try.prog w = .ok (.enter 56 #[]) w := by
  simp only [execOp, resolve, List.map_toArray, List.map_nil]
  simp [go_sem, Act.eval]
theorem cl_40 {x0 x1 : Operand} {v0 v1 : Value} (h0 : evS σ x0 = some v0) (h1 : evS σ x1 = some v1) (a : Act) (ha : Env n σ a) : (execOp a.eval ⟨dst, .call { callee := .value (.func 40), args := #[x0, x1], argTypes := at' }, ty, pos, af, g⟩).run Try.prog w = .ok (.enter 40 #[v0, v1]) w := by
  simp only [execOp, resolve, List.map_toArray, List.map_cons, List.map_nil, ha.eval h0, ha.eval h1]
  simp [go_sem, Act.eval]
theorem cl_33 {x0 x1 x2 x3 : Operand} {v0 v1 v2 v3 : Value} (h0 : evS σ x0 = some v0) (h1 : evS σ x1 = some v1) (h2 : evS σ x2 = some v2) (h3 : evS σ x3 = some v3) (a : Act) (ha : Env n σ a) : (execOp a.eval ⟨dst, .call { callee := .value (.func 33), args := #[x0, x1, x2, x3], argTypes := at' }, ty, pos, af, g⟩).run Try.prog w = .ok (.enter 33 #[v0, v1, v2, v3]) w := by
  simp only [execOp, resolve, List.map_toArray, List.map_cons, List.map_nil, ha.eval h0, ha.eval h1, ha.eval h2, ha.eval h3]
  simp [go_sem, Act.eval]
theorem bd_25_0_1_2_3 {x0 x1 x2 x3 : Operand} {z0 : Int} {z1 : Int} {z2 : Int} {v3_0 : Value} {v3_1 : Value} (h0 : evS σ x0 = some (.int .i64 z0)) (h1 : evS σ x1 = some (.int .i64 z1)) (h2 : evS σ x2 = some (.int .i64 z2)) (h3 : evS σ x3 = some (.agg #[v3_0, v3_1])) : Gives Try.prog n σ w ⟨dst, .build 25 #[(0, x0), (1, x1), (2, x2), (3, x3)], ty, pos, af, g⟩ (.agg #[.int .i64 z0, .int .i64 z1, .int .i64 z2, v3_0, v3_1]) := fun a ha => by
  simp only [execOp, List.map_toArray, List.map_cons, List.map_nil, ha.eval h0, ha.eval h1, ha.eval h2, ha.eval h3]
  go_simp
theorem bd_33_0_1 {x0 x1 : Operand} {v0_0 : Value} {v0_1 : Value} {v1_0 : Value} {v1_1 : Value} (h0 : evS σ x0 = some (.agg #[v0_0, v0_1])) (h1 : evS σ x1 = some (.agg #[v1_0, v1_1])) : Gives Try.prog n σ w ⟨dst, .build 33 #[(0, x0), (1, x1)], ty, pos, af, g⟩ (.agg #[v0_0, v0_1, v1_0, v1_1]) := fun a ha => by
  simp only [execOp, List.map_toArray, List.map_cons, List.map_nil, ha.eval h0, ha.eval h1]
  go_simp
theorem bs_26_1 {x0 : Operand} {v0_0 v0_1 v0_2 v0_3 : Value} (h0 : evS σ x0 = some (.agg #[v0_0, v0_1, v0_2, v0_3]))  (a : Act) (ha : Env n σ a) : (execOp a.eval ⟨dst, .buildSlice 26 1 #[(0, x0)], ty, pos, af, g⟩).run Try.prog w = .ok (.value (.slice (some ⟨w.heap.size, 0, none⟩) 1 1)) (w.alloc (.cells #[v0_0, v0_1, v0_2, v0_3] 33)) := by
  simp only [execOp, List.map_toArray, List.map_cons, List.map_nil, ha.eval h0]
  go_simp
theorem cl_17 {x0 x1 : Operand} {v0 v1 : Value} (h0 : evS σ x0 = some v0) (h1 : evS σ x1 = some v1) (a : Act) (ha : Env n σ a) : (execOp a.eval ⟨dst, .call { callee := .value (.func 17), args := #[x0, x1], argTypes := at' }, ty, pos, af, g⟩).run Try.prog w = .ok (.enter 17 #[v0, v1]) w := by
  simp only [execOp, resolve, List.map_toArray, List.map_cons, List.map_nil, ha.eval h0, ha.eval h1]
  simp [go_sem, Act.eval]
theorem ln_52 {A : Option Addr} {m c : Nat} (hx : evS σ x = some (.slice A m c)) : Gives Try.prog n σ w ⟨dst, .call { callee := .builtin .len, args := #[x], argTypes := #[52] }, ty, pos, af, g⟩ (.int .i64 (m : Int)) := fun a ha => by
  simp only [execOp, resolve, List.map_toArray, List.map_cons, List.map_nil, ha.eval hx]
  simp [go_sem]
theorem ln_28 {A : Option Addr} {m c : Nat} (hx : evS σ x = some (.slice A m c)) : Gives Try.prog n σ w ⟨dst, .call { callee := .builtin .len, args := #[x], argTypes := #[28] }, ty, pos, af, g⟩ (.int .i64 (m : Int)) := fun a ha => by
  simp only [execOp, resolve, List.map_toArray, List.map_cons, List.map_nil, ha.eval hx]
  simp [go_sem]
end
end Go.Proofs.Ytncnlhkmdljgpaa
set_option linter.unusedVariables false
set_option linter.unusedSimpArgs false
namespace Go.Proofs.Ytncnlhkmdljgpaa
open Go Go.RowKit
section
variable {n : Nat} {σ : Sg} {w : World} {dst : Option Tmp} {ty : TypeId} {pos : String} {af : Array Edge} {g : Option (Nat × Bool)} {x y z : Operand} {at' : Array TypeId}
theorem bs_28_0 (a : Act) (_ : Env n σ a) : (execOp a.eval ⟨dst, .buildSlice 28 0 #[], ty, pos, af, g⟩).run Try.prog w = .ok (.value (.slice (some ⟨w.heap.size, 0, none⟩) 0 0)) (w.alloc (.cells #[] 23)) := by
  simp only [execOp]
  go_simp
end
end Go.Proofs.Ytncnlhkmdljgpaa
set_option linter.unusedVariables false
set_option linter.unusedSimpArgs false
namespace Go.Proofs.Ytncnlhkmdljgpaa
open Go Go.RowKit
section
variable {n : Nat} {σ : Sg} {w : World} {dst : Option Tmp} {ty : TypeId} {pos : String} {af : Array Edge} {g : Option (Nat × Bool)} {x y z : Operand} {at' : Array TypeId}
end
end Go.Proofs.Ytncnlhkmdljgpaa
set_option linter.unusedVariables false
set_option linter.unusedSimpArgs false
namespace Go.Proofs.Ytncnlhkmdljgpaa
open Go Go.RowKit
section
variable {n : Nat} {σ : Sg} {w : World} {dst : Option Tmp} {ty : TypeId} {pos : String} {af : Array Edge} {g : Option (Nat × Bool)} {x y z : Operand} {at' : Array TypeId}
theorem cl_16  (a : Act) (_ : Env n σ a) : (execOp a.eval ⟨dst, .call { callee := .value (.func 16), args := #[], argTypes := at' }, ty, pos, af, g⟩).run Try.prog w = .ok (.enter 16 #[]) w := by
  simp only [execOp, resolve, List.map_toArray, List.map_nil]
  simp [go_sem, Act.eval]
end
end Go.Proofs.Ytncnlhkmdljgpaa
set_option linter.unusedVariables false
set_option linter.unusedSimpArgs false
namespace Go.Proofs.Ytncnlhkmdljgpaa
open Go Go.RowKit
section
variable {n : Nat} {σ : Sg} {w : World} {dst : Option Tmp} {ty : TypeId} {pos : String} {af : Array Edge} {g : Option (Nat × Bool)} {x y z : Operand} {at' : Array TypeId}
theorem bs_52_0 (a : Act) (_ : Env n σ a) : (execOp a.eval ⟨dst, .buildSlice 52 0 #[], ty, pos, af, g⟩).run Try.prog w = .ok (.value (.slice (some ⟨w.heap.size, 0, none⟩) 0 0)) (w.alloc (.cells #[] 28)) := by
  simp only [execOp]
  go_simp
theorem bs_52_1 {x0 : Operand} {A0 : Option Addr} {m0 c0 : Nat} (h0 : evS σ x0 = some (.slice A0 m0 c0)) (a : Act) (ha : Env n σ a) : (execOp a.eval ⟨dst, .buildSlice 52 1 #[(0, x0)], ty, pos, af, g⟩).run Try.prog w = .ok (.value (.slice (some ⟨w.heap.size, 0, none⟩) 1 1)) (w.alloc (.cells #[.slice A0 m0 c0] 28)) := by
  simp only [execOp, List.map_toArray, List.map_cons, List.map_nil, ha.eval h0]
  go_simp
theorem bs_44_0 (a : Act) (_ : Env n σ a) : (execOp a.eval ⟨dst, .buildSlice 44 0 #[], ty, pos, af, g⟩).run Try.prog w = .ok (.value (.slice (some ⟨w.heap.size, 0, none⟩) 0 0)) (w.alloc (.cells #[] 50)) := by
  simp only [execOp]
  go_simp
theorem fa_47_0 {b o : Nat} (hx : evS σ x = some (.pointer (some ⟨b, o, none⟩))) : Gives Try.prog n σ w ⟨dst, .fieldAddr 47 x 0, ty, pos, af, g⟩ (.pointer (some ⟨b, o, none⟩)) := fun a ha => by
  simp only [execOp, ha.eval hx]
  simp [go_sem]
theorem ld_44 {b o : Nat} {v0 : Value} (hx : evS σ x = some (.pointer (some ⟨b, o, none⟩))) (c0 : w.cell? ⟨b, o, none⟩ = some v0) : Gives Try.prog n σ w ⟨dst, .load 44 x, ty, pos, af, g⟩ (v0) := fun a ha => by
  simp only [execOp, ha.eval hx]
  simp [go_sem, c0]
theorem ln_44 {A : Option Addr} {m c : Nat} (hx : evS σ x = some (.slice A m c)) : Gives Try.prog n σ w ⟨dst, .call { callee := .builtin .len, args := #[x], argTypes := #[44] }, ty, pos, af, g⟩ (.int .i64 (m : Int)) := fun a ha => by
  simp only [execOp, resolve, List.map_toArray, List.map_cons, List.map_nil, ha.eval hx]
  simp [go_sem]
theorem ix_44 {b o m c k : Nat} (hx : evS σ x = some (.slice (some ⟨b, o, none⟩) m c)) (hy : evS σ y = some (.int .i64 (k : Int))) (hk : k < m) : Gives Try.prog n σ w ⟨dst, .indexAddr 44 x y, ty, pos, af, g⟩ (.pointer (some ⟨b, o + k * 9, none⟩)) := fun a ha => by
  have k0 : (0 : Int) ≤ (k : Int) := Int.natCast_nonneg _
  have k1 : (k : Int) < (m : Int) := by omega
  simp only [execOp, ha.eval hx, ha.eval hy]
  simp [go_sem, k0, k1]
theorem ld_50 {b o : Nat} {v0 v1 v2 v3 v4 v5 v6 v7 v8 : Value} (hx : evS σ x = some (.pointer (some ⟨b, o, none⟩))) (c0 : w.cell? ⟨b, o, none⟩ = some v0) (c1 : w.cell? ⟨b, o + 1, none⟩ = some v1) (c2 : w.cell? ⟨b, o + 2, none⟩ = some v2) (c3 : w.cell? ⟨b, o + 3, none⟩ = some v3) (c4 : w.cell? ⟨b, o + 4, none⟩ = some v4) (c5 : w.cell? ⟨b, o + 5, none⟩ = some v5) (c6 : w.cell? ⟨b, o + 6, none⟩ = some v6) (c7 : w.cell? ⟨b, o + 7, none⟩ = some v7) (c8 : w.cell? ⟨b, o + 8, none⟩ = some v8) : Gives Try.prog n σ w ⟨dst, .load 50 x, ty, pos, af, g⟩ (.agg #[v0, v1, v2, v3, v4, v5, v6, v7, v8]) := fun a ha => by
  simp only [execOp, ha.eval hx]
  simp [go_sem, c0, c1, c2, c3, c4, c5, c6, c7, c8]
theorem al_50 (a : Act) (_ : Env n σ a) : (execOp a.eval ⟨dst, .alloc 50, ty, pos, af, g⟩).run Try.prog w = .ok (.value (.pointer (some ⟨w.heap.size, 0, none⟩))) (w.alloc (.cells #[.int .i64 0, .int .i64 0, .int .i64 0, .int .i64 0, .slice none 0 0, .int .i64 0, .int .i64 0, .int .i64 0, .int .i64 0] 50)) := by
  simp only [execOp]
  simp [go_sem]
theorem sz_50 : (Try.prog.info? 50).map (·.size) = some 9 := by kernel_rfl
theorem bs_48_0 (a : Act) (_ : Env n σ a) : (execOp a.eval ⟨dst, .buildSlice 48 0 #[], ty, pos, af, g⟩).run Try.prog w = .ok (.value (.slice (some ⟨w.heap.size, 0, none⟩) 0 0)) (w.alloc (.cells #[] 126)) := by
  simp only [execOp]
  go_simp
theorem fa_50_3 {b o : Nat} (hx : evS σ x = some (.pointer (some ⟨b, o, none⟩))) : Gives Try.prog n σ w ⟨dst, .fieldAddr 50 x 3, ty, pos, af, g⟩ (.pointer (some ⟨b, o + 4, none⟩)) := fun a ha => by
  simp only [execOp, ha.eval hx]
  simp [go_sem]
theorem ld_48 {b o : Nat} {v0 : Value} (hx : evS σ x = some (.pointer (some ⟨b, o, none⟩))) (c0 : w.cell? ⟨b, o, none⟩ = some v0) : Gives Try.prog n σ w ⟨dst, .load 48 x, ty, pos, af, g⟩ (v0) := fun a ha => by
  simp only [execOp, ha.eval hx]
  simp [go_sem, c0]
theorem sz_48 : (Try.prog.info? 48).map (·.size) = some 1 := by kernel_rfl
theorem bs_44_1 {x0 : Operand} {v0_0 v0_1 v0_2 v0_3 v0_4 v0_5 v0_6 v0_7 v0_8 : Value} (h0 : evS σ x0 = some (.agg #[v0_0, v0_1, v0_2, v0_3, v0_4, v0_5, v0_6, v0_7, v0_8]))  (a : Act) (ha : Env n σ a) : (execOp a.eval ⟨dst, .buildSlice 44 1 #[(0, x0)], ty, pos, af, g⟩).run Try.prog w = .ok (.value (.slice (some ⟨w.heap.size, 0, none⟩) 1 1)) (w.alloc (.cells #[v0_0, v0_1, v0_2, v0_3, v0_4, v0_5, v0_6, v0_7, v0_8] 50)) := by
  simp only [execOp, List.map_toArray, List.map_cons, List.map_nil, ha.eval h0]
  go_simp
theorem bs_45_0 (a : Act) (_ : Env n σ a) : (execOp a.eval ⟨dst, .buildSlice 45 0 #[], ty, pos, af, g⟩).run Try.prog w = .ok (.value (.slice (some ⟨w.heap.size, 0, none⟩) 0 0)) (w.alloc (.cells #[] 97)) := by
  simp only [execOp]
  go_simp
theorem fa_47_1 {b o : Nat} (hx : evS σ x = some (.pointer (some ⟨b, o, none⟩))) : Gives Try.prog n σ w ⟨dst, .fieldAddr 47 x 1, ty, pos, af, g⟩ (.pointer (some ⟨b, o + 1, none⟩)) := fun a ha => by
  simp only [execOp, ha.eval hx]
  simp [go_sem]
theorem ld_45 {b o : Nat} {v0 : Value} (hx : evS σ x = some (.pointer (some ⟨b, o, none⟩))) (c0 : w.cell? ⟨b, o, none⟩ = some v0) : Gives Try.prog n σ w ⟨dst, .load 45 x, ty, pos, af, g⟩ (v0) := fun a ha => by
  simp only [execOp, ha.eval hx]
  simp [go_sem, c0]
theorem ln_45 {A : Option Addr} {m c : Nat} (hx : evS σ x = some (.slice A m c)) : Gives Try.prog n σ w ⟨dst, .call { callee := .builtin .len, args := #[x], argTypes := #[45] }, ty, pos, af, g⟩ (.int .i64 (m : Int)) := fun a ha => by
  simp only [execOp, resolve, List.map_toArray, List.map_cons, List.map_nil, ha.eval hx]
  simp [go_sem]
theorem fa_50_0 {b o : Nat} (hx : evS σ x = some (.pointer (some ⟨b, o, none⟩))) : Gives Try.prog n σ w ⟨dst, .fieldAddr 50 x 0, ty, pos, af, g⟩ (.pointer (some ⟨b, o, none⟩)) := fun a ha => by
  simp only [execOp, ha.eval hx]
  simp [go_sem]
theorem fa_50_6 {b o : Nat} (hx : evS σ x = some (.pointer (some ⟨b, o, none⟩))) : Gives Try.prog n σ w ⟨dst, .fieldAddr 50 x 6, ty, pos, af, g⟩ (.pointer (some ⟨b, o + 8, none⟩)) := fun a ha => by
  simp only [execOp, ha.eval hx]
  simp [go_sem]
theorem ln_48 {A : Option Addr} {m c : Nat} (hx : evS σ x = some (.slice A m c)) : Gives Try.prog n σ w ⟨dst, .call { callee := .builtin .len, args := #[x], argTypes := #[48] }, ty, pos, af, g⟩ (.int .i64 (m : Int)) := fun a ha => by
  simp only [execOp, resolve, List.map_toArray, List.map_cons, List.map_nil, ha.eval hx]
  simp [go_sem]
end
end Go.Proofs.Ytncnlhkmdljgpaa
set_option linter.unusedVariables false
set_option linter.unusedSimpArgs false
namespace Go.Proofs.Ytncnlhkmdljgpaa
open Go Go.RowKit
section
variable {n : Nat} {σ : Sg} {w : World} {dst : Option Tmp} {ty : TypeId} {pos : String} {af : Array Edge} {g : Option (Nat × Bool)} {x y z : Operand} {at' : Array TypeId}
theorem bx_54 {v0 v1 v2 : Value} (hx : evS σ x = some (.agg #[v0, v1, v2])) (a : Act) (ha : Env n σ a) : (execOp a.eval ⟨dst, .box 54 x, ty, pos, af, g⟩).run Try.prog w = .ok (.value (.pointer (some ⟨w.heap.size, 0, none⟩))) (w.alloc (.cells #[v0, v1, v2] 54)) := by
  simp only [execOp, ha.eval hx]
  simp [go_sem]
theorem fa_54_0 {b o : Nat} (hx : evS σ x = some (.pointer (some ⟨b, o, none⟩))) : Gives Try.prog n σ w ⟨dst, .fieldAddr 54 x 0, ty, pos, af, g⟩ (.pointer (some ⟨b, o, none⟩)) := fun a ha => by
  simp only [execOp, ha.eval hx]
  simp [go_sem]
theorem fa_54_1 {b o : Nat} (hx : evS σ x = some (.pointer (some ⟨b, o, none⟩))) : Gives Try.prog n σ w ⟨dst, .fieldAddr 54 x 1, ty, pos, af, g⟩ (.pointer (some ⟨b, o + 2, none⟩)) := fun a ha => by
  simp only [execOp, ha.eval hx]
  simp [go_sem]
theorem ld_52 {b o : Nat} {v0 : Value} (hx : evS σ x = some (.pointer (some ⟨b, o, none⟩))) (c0 : w.cell? ⟨b, o, none⟩ = some v0) : Gives Try.prog n σ w ⟨dst, .load 52 x, ty, pos, af, g⟩ (v0) := fun a ha => by
  simp only [execOp, ha.eval hx]
  simp [go_sem, c0]
end
end Go.Proofs.Ytncnlhkmdljgpaa
set_option linter.unusedVariables false
set_option linter.unusedSimpArgs false
namespace Go.Proofs.Ytncnlhkmdljgpaa
open Go Go.RowKit
section
variable {n : Nat} {σ : Sg} {w : World} {dst : Option Tmp} {ty : TypeId} {pos : String} {af : Array Edge} {g : Option (Nat × Bool)} {x y z : Operand} {at' : Array TypeId}
theorem bx_23 {v0 v1 : Value} (hx : evS σ x = some (.agg #[v0, v1])) (a : Act) (ha : Env n σ a) : (execOp a.eval ⟨dst, .box 23 x, ty, pos, af, g⟩).run Try.prog w = .ok (.value (.pointer (some ⟨w.heap.size, 0, none⟩))) (w.alloc (.cells #[v0, v1] 23)) := by
  simp only [execOp, ha.eval hx]
  simp [go_sem]
theorem cl_58 {x0 x1 x2 : Operand} {v0 v1 v2 : Value} (h0 : evS σ x0 = some v0) (h1 : evS σ x1 = some v1) (h2 : evS σ x2 = some v2) (a : Act) (ha : Env n σ a) : (execOp a.eval ⟨dst, .call { callee := .value (.func 58), args := #[x0, x1, x2], argTypes := at' }, ty, pos, af, g⟩).run Try.prog w = .ok (.enter 58 #[v0, v1, v2]) w := by
  simp only [execOp, resolve, List.map_toArray, List.map_cons, List.map_nil, ha.eval h0, ha.eval h1, ha.eval h2]
  simp [go_sem, Act.eval]
end
end Go.Proofs.Ytncnlhkmdljgpaa
set_option linter.unusedVariables false
set_option linter.unusedSimpArgs false
namespace Go.Proofs.Ytncnlhkmdljgpaa
open Go Go.RowKit
section
variable {n : Nat} {σ : Sg} {w : World} {dst : Option Tmp} {ty : TypeId} {pos : String} {af : Array Edge} {g : Option (Nat × Bool)} {x y z : Operand} {at' : Array TypeId}
theorem cl_23 {x0 : Operand} {v0 : Value} (h0 : evS σ x0 = some v0) (a : Act) (ha : Env n σ a) : (execOp a.eval ⟨dst, .call { callee := .value (.func 23), args := #[x0], argTypes := at' }, ty, pos, af, g⟩).run Try.prog w = .ok (.enter 23 #[v0]) w := by
  simp only [execOp, resolve, List.map_toArray, List.map_cons, List.map_nil, ha.eval h0]
  simp [go_sem, Act.eval]
theorem cl_24 {x0 : Operand} {v0 : Value} (h0 : evS σ x0 = some v0) (a : Act) (ha : Env n σ a) : (execOp a.eval ⟨dst, .call { callee := .value (.func 24), args := #[x0], argTypes := at' }, ty, pos, af, g⟩).run Try.prog w = .ok (.enter 24 #[v0]) w := by
  simp only [execOp, resolve, List.map_toArray, List.map_cons, List.map_nil, ha.eval h0]
  simp [go_sem, Act.eval]
theorem cl_25 {x0 : Operand} {v0 : Value} (h0 : evS σ x0 = some v0) (a : Act) (ha : Env n σ a) : (execOp a.eval ⟨dst, .call { callee := .value (.func 25), args := #[x0], argTypes := at' }, ty, pos, af, g⟩).run Try.prog w = .ok (.enter 25 #[v0]) w := by
  simp only [execOp, resolve, List.map_toArray, List.map_cons, List.map_nil, ha.eval h0]
  simp [go_sem, Act.eval]
end
end Go.Proofs.Ytncnlhkmdljgpaa
set_option linter.unusedVariables false
set_option linter.unusedSimpArgs false
namespace Go.Proofs.Ytncnlhkmdljgpaa
open Go Go.RowKit
section
variable {n : Nat} {σ : Sg} {w : World} {dst : Option Tmp} {ty : TypeId} {pos : String} {af : Array Edge} {g : Option (Nat × Bool)} {x y z : Operand} {at' : Array TypeId}
end
end Go.Proofs.Ytncnlhkmdljgpaa
set_option linter.unusedVariables false
set_option linter.unusedSimpArgs false
namespace Go.Proofs.Ytncnlhkmdljgpaa
open Go Go.RowKit
section
variable {n : Nat} {σ : Sg} {w : World} {dst : Option Tmp} {ty : TypeId} {pos : String} {af : Array Edge} {g : Option (Nat × Bool)} {x y z : Operand} {at' : Array TypeId}
end
end Go.Proofs.Ytncnlhkmdljgpaa
set_option linter.unusedVariables false
set_option linter.unusedSimpArgs false
namespace Go.Proofs.Ytncnlhkmdljgpaa
open Go Go.RowKit
section
variable {n : Nat} {σ : Sg} {w : World} {dst : Option Tmp} {ty : TypeId} {pos : String} {af : Array Edge} {g : Option (Nat × Bool)} {x y z : Operand} {at' : Array TypeId}
end
end Go.Proofs.Ytncnlhkmdljgpaa
set_option linter.unusedVariables false
set_option linter.unusedSimpArgs false
namespace Go.Proofs.Ytncnlhkmdljgpaa
open Go Go.RowKit
section
variable {n : Nat} {σ : Sg} {w : World} {dst : Option Tmp} {ty : TypeId} {pos : String} {af : Array Edge} {g : Option (Nat × Bool)} {x y z : Operand} {at' : Array TypeId}
theorem sz_3 : (Try.prog.info? 3).map (·.size) = some 1 := by kernel_rfl
end
end Go.Proofs.Ytncnlhkmdljgpaa
set_option linter.unusedVariables false
set_option linter.unusedSimpArgs false
namespace Go.Proofs.Ytncnlhkmdljgpaa
open Go Go.RowKit
section
variable {n : Nat} {σ : Sg} {w : World} {dst : Option Tmp} {ty : TypeId} {pos : String} {af : Array Edge} {g : Option (Nat × Bool)} {x y z : Operand} {at' : Array TypeId}
end
end Go.Proofs.Ytncnlhkmdljgpaa
namespace Go.Proofs.Ytncnlhkmdljgpaa
open Go Go.RowKit
theorem own_empty {w : World} {g T base : Nat} (size : Nat) (h : Blk w g T #[]) (hb : base ≤ g) : w.ownsRow base T size (.slice (some ⟨g, 0, none⟩) 0 0) 0 [] :=
  ⟨by simp, .inr ⟨g, 0, #[], rfl, hb, h, Nat.le_refl _, Nat.zero_le _, by simp, by simp⟩⟩
end Go.Proofs.Ytncnlhkmdljgpaa
namespace Go.Proofs.Ytncnlhkmdljgpaa
open Go Go.ChangeShapes Go.WideShapes Go.Deep Go.RowKit Go.Joins
theorem cell_spot {w : World} {x : Addr} {u : Value} (h : w.cell? x = some u) : x.spot = none ∧ x.block < w.heap.size := by
  unfold World.cell? at h
  split at h
  · rename_i c e f hg
    split at h
    · cases h
    · rename_i hs
      refine ⟨by simpa using hs, ?_⟩
      rcases Nat.lt_or_ge x.block w.heap.size with hlt | hge
      · exact hlt
      · rw [Array.getElem?_eq_none hge] at hg; cases hg
  · cases h
section
variable {H : Type} {enc : TypeId × Value → H} {P : Program} {w : World} {base : Nat} {spare : Nat → Bool} {held : Bool}
/-- rows of cells, one behind the other -/
theorem rd_of_cells {b off n c s : Nat} {B : Nat} (row : Nat → List Value) (hlen : ∀ i, (row i).length = s) (hs : 0 < s) (hB : b < B) (hnc : n ≤ c)
    (hcell : ∀ i, i < n → ∀ j u, (row i)[j]? = some u → w.cell? ⟨b, off + (i * s + j), none⟩ = some u) :
    Rd w B s (.slice (some ⟨b, off, none⟩) n c) n ((List.range n).flatMap row) := by
  refine ⟨by rw [flat_len hlen, List.length_range], _, _, rfl, hnc, fun _ => ⟨b, off, rfl, hB, fun q u hu => ?_⟩⟩
  have hq : q < n * s := by
    have := (List.getElem?_eq_some_iff.1 hu).1
    rwa [flat_len hlen, List.length_range] at this
  have hk : q / s < n := by
    rw [Nat.div_lt_iff_lt_mul hs]
    exact hq
  have e : q = q / s * s + q % s := by rw [Nat.mul_comm]; exact (Nat.div_add_mod q s).symm
  have hg := flat_get hlen (List.range n) (q / s) (by simpa using hk) (q % s) (Nat.mod_lt _ hs)
  rw [← e, List.getElem_range] at hg
  rw [hg] at hu
  have := hcell (q / s) hk (q % s) u hu
  rwa [← e] at this
theorem add_lit_more (x : Addr) (n : Nat) (h : x.spot = none) : x.add n = ⟨x.block, x.off + n, none⟩ := by
  obtain ⟨b, o, s⟩ := x
  subst h
  rw [Addr.add_lit]
/-- a slice, opened to its elements -/
theorem rd_list {α : Type} [Inhabited α] {f : α → List Value} {s : Nat} {Good : α → Prop} (hf : ∀ x, (f x).length = s) (hs : 0 < s) {t e : TypeId} {fuel : Nat} {v : Value} {x : DataW H × List MemPlace} (ht : P.underlying t = some (.slice e)) (hC : P.cellsOf e = s)
    (hE : ∀ (fuel : Nat) (cs : List Value) (x : DataW H × List MemPlace), cs.length = s → DataW.trod enc P w base spare held fuel e cs = some x → ∃ y : α, cs = f y ∧ Good y) (h : DataW.trod enc P w base spare held fuel t [v] = some x) :
    ∃ l : List α, Rd w w.heap.size s v l.length (l.flatMap f) ∧ (∀ y ∈ l, Good y) ∧ l.length ≤ maxLen := by
  rcases open_slice ht h with ⟨hcs, _⟩ | ⟨a, len, cap, m, n, D, Pl, hcs, _, hl, hcap, hm, _, hi⟩
  · injection hcs with hcs
    subst hcs
    exact ⟨[], Rd.nil_ _ _ _, by simp, Nat.zero_le _⟩
  · injection hcs with hcs
    subst hcs
    have hcell : ∀ i, i < len → ∃ y : α, (∀ j u, (f y)[j]? = some u → w.cell? (a.add (i * s + j)) = some u) ∧ Good y := by
      intro i hi'
      obtain ⟨cs', hc, ht'⟩ := hi i (by rw [hm]; split <;> omega)
      rw [hC] at hc
      obtain ⟨_, hcl, hat⟩ := World.cells?_some hc
      obtain ⟨y, hy, hg⟩ := hE _ cs' _ hcl ht'
      subst hy
      refine ⟨y, fun j u hu => ?_, hg⟩
      have hj : j < s := by
        have := (List.getElem?_eq_some_iff.1 hu).1
        rwa [hf] at this
      have h1 := hat j hj
      rw [Go.Deep.add_add] at h1
      rw [h1, hu]
    let pick : Nat → α := fun i => if h : i < len then Classical.choose (hcell i h) else default
    have hpick : ∀ i, (h : i < len) → (∀ j u, (f (pick i))[j]? = some u → w.cell? (a.add (i * s + j)) = some u) ∧ Good (pick i) := fun i h => by
      have := Classical.choose_spec (hcell i h)
      simp only [pick, dif_pos h]
      exact this
    refine ⟨(List.range len).map pick, ?_, ?_, by simp; omega⟩
    · rw [List.length_map, List.length_range]
      rcases Nat.eq_zero_or_pos len with hz | hz
      · subst hz
        exact ⟨by simp, _, _, rfl, hl, fun h => absurd h (by omega)⟩
      · have h0 := (hpick 0 hz).1 0 _ (List.getElem?_eq_getElem (by rw [hf]; exact hs))
        obtain ⟨hsp, hb⟩ := cell_spot h0
        have e0 : a.add (0 * s + 0) = a := by simp [Addr.add]
        rw [e0] at hsp hb
        have hx : a = ⟨a.block, a.off, none⟩ := by obtain ⟨b, o, s⟩ := a; subst hsp; rfl
        rw [hx, List.flatMap_map]
        refine rd_of_cells _ (fun i => hf _) hs hb hl fun i hi' j u hu => ?_
        have h1 := (hpick i hi').1 j u hu
        rw [add_lit_more a _ hsp] at h1
        exact h1
    · intro y hy
      obtain ⟨i, hi', rfl⟩ := List.mem_map.1 hy
      exact (hpick i (by simpa using hi')).2
theorem fld_of {fs : Array Field} {n : Nat} {cs : List Value} {ys : List (DataW H × List MemPlace)} (hf : ∀ (i : Nat) (f : Field), fs[i]? = some f → DataW.trod enc P w base spare held n f.type ((cs.drop f.offset).take (P.cellsOf f.type)) = ys[i]?)
    {j ft off z : Nat} {f : Field} (hj : fs[j]? = some f) (h1 : f.type = ft) (h2 : f.offset = off) (h3 : P.cellsOf ft = z) : DataW.trod enc P w base spare held n ft ((cs.drop off).take z) = ys[j]? := by
  subst h1 h2 h3
  exact hf j f hj
end
section
variable {H : Type} {enc : TypeId × Value → H} {w : World} {base : Nat} {spare : Nat → Bool} {held : Bool}
theorem co_3 : Try.prog.cellsOf 3 = 1 := by kernel_rfl
set_option maxRecDepth 100000 in
theorem cells_23 {fuel : Nat} {cs : List Value} {x : DataW H × List MemPlace} (hl : cs.length = 2) (h : DataW.trod enc Try.prog w base spare held fuel 23 cs = some x) : ∃ (z0 : Int) (z1 : Int), cs = [.int .i64 z0, .int .i64 z1] := by
  obtain ⟨ys, n, _, _, _, hyl, hf⟩ := DataW.trod_struct Try.underlying23 h
  match cs, hl with
  | [u0, u1], _ =>
    match ys, hyl with
    | [y0, y1], _ =>
      have q0 : DataW.trod enc Try.prog w base spare held n 3 [u0] = some y0 := fld_of hf (j := 0) rfl rfl rfl co_3
      obtain ⟨z0, hz0, _, _⟩ := DataW.trod_int Try.underlying3 q0
      injection hz0 with hz0
      subst hz0
      have q1 : DataW.trod enc Try.prog w base spare held n 3 [u1] = some y1 := fld_of hf (j := 1) rfl rfl rfl co_3
      obtain ⟨z1, hz1, _, _⟩ := DataW.trod_int Try.underlying3 q1
      injection hz1 with hz1
      subst hz1
      exact ⟨z0, z1, rfl⟩
theorem co_23 : Try.prog.cellsOf 23 = 2 := by kernel_rfl
instance : Inhabited Sky := ⟨sky0⟩
end
end Go.Proofs.Ytncnlhkmdljgpaa
set_option linter.unusedVariables false
namespace Go.Proofs.Ytncnlhkmdljgpaa
open Go Go.RowKit
/-- a row that has come into a new element; the append's own world -/
theorem Rows.push0 {W w' : World} {base e osize n tb size : Nat} {vf v' l : Value} {outer outer' : List Value} {fs : List Value} {F : List (Nat × List Value)} (h : Rows W base e osize vf n outer tb size fs F) {m : Nat} {cells : List Value} (hl : W.ownsRow base tb size l m cells) (ha : Apart vf l)
    (hown : w'.ownsRow base e osize v' (n + 1) outer') (hg : W.grownBy w' vf.ownBlock) (hat : v'.ownBlock = vf.ownBlock ∨ v'.ownBlock = some W.heap.size) :
    Rows w' base e osize v' (n + 1) outer' tb size (fs ++ [l]) (F ++ [(m, cells)]) := by
  have key : ∀ {u : Value} {k : Nat} {ys : List Value}, W.ownsRow base tb size u k ys → Apart vf u → Apart v' u := fun hu hvu g h1 h2 => by
    rcases hat with h3 | h3
    · exact hvu g (h3 ▸ h1) h2
    · rw [h3] at h1; injection h1 with h1; have := (hu.lt g h2).2; omega
  refine ⟨hown, by simp [h.len], fun i hi => ?_, fun i hi => ?_⟩
  · rw [getD_snoc, getD_snoc, h.len]
    by_cases h1 : i < F.length
    · rw [if_pos h1, if_pos h1]
      exact own_apart (h.each i h1) hg (h.apart i h1)
    · have h2 : i = F.length := by simp at hi; omega
      rw [if_neg h1, if_neg h1, if_pos h2, if_pos h2]
      exact own_apart hl hg ha
  · rw [getD_snoc, h.len]
    by_cases h1 : i < F.length
    · rw [if_pos h1]
      exact key (h.each i h1) (h.apart i h1)
    · have h2 : i = F.length := by simp at hi; omega
      rw [if_neg h1, if_pos h2]
      exact key hl ha
theorem rowsB_take {l : List (List Bd)} {i : Nat} (hi : i < l.length) : rowsB (l.take (i + 1)) = rowsB (l.take i) ++ [((l.getD i []).length, bdsC (l.getD i []))] := by
  rw [List.take_succ_eq_append_getElem hi]
  unfold rowsB
  rw [List.map_append]
  simp [hi]
/-- a new row is apart from what was there -/
theorem apart_fresh {w : World} {base e size n : Nat} {vf l : Value} {xs : List Value} (h : w.ownsRow base e size vf n xs) (hl : ∀ g, l.ownBlock = some g → w.heap.size ≤ g) : Apart vf l := fun g h1 h2 => by
  have := (h.lt g h1).2
  have := hl g h2
  omega
theorem forecast_own (l : List (List Bd)) (v : Value) (ss : List Value) (w : World) (B : Nat) (hs : RdSides w B v l ss) (hB : B ≤ w.heap.size) (hl : l.length ≤ 1048575) (hsb : ∀ i, i < l.length → (l.getD i []).length ≤ 1048576) :
    Calls Try.prog 34 #[v] w fun e w' => (∃ v' fs b1, e = .returned v' ∧ w.heap.size ≤ b1 ∧ Rows w' b1 28 1 v' l.length fs 23 2 fs (rowsB l)) ∧ Below w.heap.size w w' := by
  obtain ⟨A, c, rfl, _⟩ := hs.rd.shape
  have hbw := Below.refl w.heap.size w
  refine EC.enter 22 Try.func34 rfl rfl rfl ?_
  refine EC.seq ?_
  refine EC.region ?_
  refine EL.val (x_assign rfl) rfl ?_
  refine EL.nil ?_
  refine EX.seq ?_
  refine EC.seq ?_
  refine EC.region ?_
  have st1_hbw := hbw.size
  refine EL.newS bs_52_0 rfl ?_
  intro g2 w2 q2 hb2 hg2 hl2
  have bhbw_2 := Nat.le_trans hbw.size hg2
  replace hbw := Below.on hbw hb2 hbw.size
  clear hb2 hl2
  refine EL.val (x_assign rfl) rfl ?_
  refine EL.nil ?_
  refine EX.seq ?_
  refine EC.seq ?_
  refine EC.seq ?_
  refine EC.region ?_
  refine EL.val (x_assign rfl) rfl ?_
  refine EL.nil ?_
  refine EX.seq ?_
  refine EC.block ?_
  have hge0 : w.heap.size ≤ g2 := hg2
  refine EC.loopD [3, 4, 6, 7, 8, 9, 10, 11, 12, 13, 14, 15, 16, 17, 18, 19, 20] (fun x : Nat × Value × List Value => [(4, .int .i64 (x.1 : Nat)), (3, x.2.1)]) (fun x W => x.1 ≤ l.length ∧ Rows W w.heap.size 28 1 x.2.1 x.1 x.2.2 23 2 x.2.2 (rowsB (l.take x.1)) ∧ Below w.heap.size w W) (fun x => l.length - x.1) (0, _, []) ⟨Nat.zero_le _, Rows.start (own_empty 1 q2 hge0), hbw⟩ ⟨rfl, rfl, trivial⟩ ?_
  rintro ⟨i, vo, fs⟩ wr ⟨hi, hR, hbw⟩
  simp only at hi hR
  by_cases hlt : i < l.length
  ·
    have hbr := Below.refl wr.heap.size wr
    obtain ⟨b, o, rfl, _, c0⟩ := sides_cell hs i hlt
    have hside := hs.side i hlt
    obtain ⟨As, cs, es, _⟩ := hside.shape
    rw [es] at c0 hside
    have hlen := hsb i hlt
    refine EC.seq ?_
    refine EC.seq ?_
    refine EC.region ?_
    refine EL.val (x_move rfl) rfl ?_
    refine EL.val (x_move rfl) rfl ?_
    refine EL.val (ln_52 rfl) rfl ?_
    refine EL.val (x_lss rfl rfl (by first | assumption | exact decide_eq_true (by omega))) rfl ?_
    refine EL.nil ?_
    refine EX.seq ?_
    refine EC.yes rfl ?_
    refine EC.skip ?_
    refine EX.seq ?_
    refine EC.seq ?_
    refine EC.block ?_
    refine EC.region ?_
    refine EL.val (x_move rfl) rfl ?_
    have st3_hbw := hbw.size
    have st3_hbr := hbr.size
    refine EL.newS bs_28_0 rfl ?_
    intro g4 w4 q4 hb4 hg4 hl4
    have bhbw_4 := Nat.le_trans hbw.size hg4
    have bhbr_4 := Nat.le_trans hbr.size hg4
    replace hbw := Below.on hbw hb4 hbw.size
    replace hbr := Below.on hbr hb4 hbr.size
    clear hb4 hl4
    refine EL.val (x_move rfl) rfl ?_
    refine EL.val (x_move rfl) rfl ?_
    refine EL.val (ix_52 rfl rfl hlt) rfl ?_
    refine EL.val (ld_28 rfl (below_load hbw c0)) rfl ?_
    have oin := own_empty (base := wr.heap.size) 2 q4 hg4
    refine EL.push bds_elem rfl rfl oin (hside.below (hbw.mono hB)) (bdsC_one _) (by omega) rfl (Nat.le_trans hg4 (Nat.le_of_lt q4.lt)) rfl ?_
    intro vi w5 hoi hgr5 hb5 _
    rw [Nat.zero_add, List.nil_append] at hoi
    replace hbw := hbw.trans (hb5.mono st3_hbw)
    replace hbr := hbr.trans (hb5.mono st3_hbr)
    have hvi := fun g (h : vi.ownBlock = some g) => (hoi.lt g h).1
    obtain ⟨Ai, ci, ei, _⟩ := (Rd.of_own hoi).shape
    subst ei
    refine EL.newS (bs_52_1 rfl) rfl ?_
    intro g6 w6 q6 hb6 hg6 hl6
    have bhbw_6 := Nat.le_trans hbw.size hg6
    have bhbr_6 := Nat.le_trans hbr.size hg6
    replace hoi := own_below hoi hb6 (Nat.le_refl _)
    replace hbw := Below.on hbw hb6 hbw.size
    replace hbr := Below.on hbr hb6 hbr.size
    clear hb6 hg6 hl6
    have hR2 := hR.below hbr
    have hoi2 := own_less hoi st3_hbw
    have hap := apart_fresh hR.own hvi
    refine EL.push lists_elem rfl rfl hR2.own (rd_one (l := [.slice Ai (l.getD i []).length ci]) q6 rfl) (by simp [Value.oneCell']) (by omega) rfl hbw.size rfl ?_
    intro v' w7 ho2 hgr7 hb7 hat7
    have hR3 := hR2.push0 hoi2 hap ho2 hgr7 hat7
    replace hbw := hbw.trans hb7
    refine EL.val (x_assign rfl) rfl ?_
    refine EL.nil ?_
    refine EX.blk ?_
    refine EX.seq ?_
    refine EC.region ?_
    refine EL.val (x_move rfl) rfl ?_
    refine EL.val (x_add rfl rfl (by first | assumption | exact IntWalk.i64_in _ ⟨by omega, by omega⟩)) rfl ?_
    refine EL.val (x_assign rfl) rfl ?_
    refine EL.nil ?_
    refine EX.roundD (i + 1, v', fs ++ [_]) ⟨rfl, rfl, trivial⟩ (by repeat first | exact Sub.refl _ | refine sub_past rfl ?_ | refine sub_del rfl ?_ | refine sub_insL_nil ?_) ⟨hlt, by rw [rowsB_take hlt]; exact hR3, hbw⟩ (by simp only; omega)
  ·
    obtain rfl : i = l.length := by omega
    refine EC.seq ?_
    refine EC.seq ?_
    refine EC.region ?_
    refine EL.val (x_move rfl) rfl ?_
    refine EL.val (x_move rfl) rfl ?_
    refine EL.val (ln_52 rfl) rfl ?_
    refine EL.val (x_lss rfl rfl (by first | assumption | exact decide_eq_false (by omega))) rfl ?_
    refine EL.nil ?_
    refine EX.seq ?_
    refine EC.no rfl ?_
    refine EC.exit ?_
    refine EX.seq_exit ?_
    refine EX.seq_exit ?_
    refine EX.blk_here ?_
    refine EX.seq ?_
    refine EC.seq ?_
    refine EC.region ?_
    refine EL.val (x_move rfl) rfl ?_
    refine EL.val (x_assign rfl) rfl ?_
    refine EL.nil ?_
    refine EX.seq ?_
    refine EC.ret ?_
    rw [List.take_length] at hR
    exact EX.done (res1 rfl rfl) ⟨⟨_, _, _, rfl, Nat.le_refl _, hR⟩, hbw⟩
theorem forecast_any (l : List (List Bd)) (v : Value) (ss : List Value) (w : World) (B : Nat) (hs : RdSides w B v l ss) (hB : B ≤ w.heap.size) (hl : l.length ≤ 1048575) (hsb : ∀ i, i < l.length → (l.getD i []).length ≤ 1048576) :
    Calls Try.prog 34 #[v] w fun e w' => (∃ v' fs, e = .returned v' ∧ RdSides w' w'.heap.size v' l fs) ∧ Below w.heap.size w w' :=
  (forecast_own l v ss w B hs hB hl hsb).mono fun _ _ ⟨⟨v', fs, _, h1, _, h2⟩, h3⟩ => ⟨⟨v', fs, h1, h2.sides⟩, h3⟩
def rowsR (l : List Reach) : List (Nat × List Value) := l.map fun x => (x.curve.length, rowsC x.curve)
theorem rowsR_take {l : List Reach} {i : Nat} (hi : i < l.length) : rowsR (l.take (i + 1)) = rowsR (l.take i) ++ [((l.getD i reach0).curve.length, rowsC (l.getD i reach0).curve)] := by
  rw [List.take_succ_eq_append_getElem hi]
  unfold rowsR
  rw [List.map_append]
  simp [hi]
theorem rowsR_len (l : List Reach) : (rowsR l).length = l.length := by simp [rowsR]
theorem rowsR_at (l : List Reach) (i : Nat) (hi : i < l.length) : (rowsR l).getD i (0, []) = ((l.getD i reach0).curve.length, rowsC (l.getD i reach0).curve) := by
  simp [rowsR, hi]
theorem zip_take {l : List Reach} {fs : List Value} {v : Value} {i : Nat} (hi : i < l.length) (hf : fs.length = i) : ((l.take (i + 1)).zip (fs ++ [v])).flatMap reachC = ((l.take i).zip fs).flatMap reachC ++ reachC (l.getD i reach0, v) := by
  rw [List.take_succ_eq_append_getElem hi, List.zip_append (by simp; omega)]
  simp [hi]
theorem Rows.reaches {w : World} {base e tb : Nat} {vf : Value} {fs : List Value} {l : List Reach} (h : Rows w base e 9 vf l.length ((l.zip fs).flatMap reachC) tb 2 fs (rowsR l)) : RdReaches w w.heap.size vf l fs :=
  ⟨by rw [h.len, rowsR_len], Rd.of_own h.own, fun i hi => by
    have := Rd.of_own (h.each i (by rw [rowsR_len]; exact hi))
    rw [rowsR_at l i hi] at this
    exact this⟩
theorem reach_info : (Try.prog.info? 50).map (fun i => (i.zero, i.size, i.bytes)) = some (some (.agg #[.int .i64 0, .int .i64 0, .int .i64 0, .int .i64 0, .slice none 0 0, .int .i64 0, .int .i64 0, .int .i64 0, .int .i64 0]), 9, 88) := by kernel_rfl
theorem reach_elem : Elem Try.prog 44 50 9 88 := Elem.mk' Try.underlying44 reach_info rfl (by omega)
theorem row_info : (Try.prog.info? 126).map (fun i => (i.zero, i.size, i.bytes)) = some (some (.agg #[.int .i64 0, .int .i64 0]), 2, 16) := by kernel_rfl
theorem row_elem : Elem Try.prog 48 126 2 16 := Elem.mk' Try.underlying48 row_info rfl (by omega)
theorem Rows.keepB {w w' : World} {base e osize n tb size C : Nat} {vf : Value} {outer : List Value} {fs : List Value} {F : List (Nat × List Value)} (h : Rows w base e osize vf n outer tb size fs F) (hb : Below C w w') (h1 : ∀ g, vf.ownBlock = some g → g < C) (h2 : ∀ j, j < F.length → ∀ g, (fs.getD j undef).ownBlock = some g → g < C) : Rows w' base e osize vf n outer tb size fs F := by
  have key : ∀ {u : Value} {b t s k : Nat} {ys : List Value}, w.ownsRow b t s u k ys → (∀ g, u.ownBlock = some g → g < C) → w'.ownsRow b t s u k ys := fun hu hlt => by
    obtain ⟨hl, ⟨rfl, rfl⟩ | ⟨g, cap, cur, rfl, hbg, hg, r⟩⟩ := hu
    · exact ⟨hl, .inl ⟨rfl, rfl⟩⟩
    · exact ⟨hl, .inr ⟨g, cap, cur, rfl, hbg, by rw [hb.block g (hlt g rfl)]; exact hg, r⟩⟩
  exact ⟨key h.own h1, h.len, fun i hi => key (h.each i hi) (h2 i hi), h.apart⟩
theorem copied_own (r : River) (v u : Value) (vs : List Value) (w : World) (B : Nat) (hr : RdRiver w B v u r vs) (hB : B ≤ w.heap.size) (hl : r.reaches.length ≤ 1048575) (hl2 : r.shoals.length ≤ 1048576) (hcl : ∀ i, i < r.reaches.length → (r.reaches.getD i reach0).curve.length ≤ 1048576) :
    Calls Try.prog 24 #[.agg #[v, u]] w fun e w' => (∃ v' u' vs' b1 b2, e = .returned (.agg #[v', u']) ∧ w.heap.size ≤ b1 ∧ w.heap.size ≤ b2 ∧ Rows w' b1 50 9 v' r.reaches.length ((r.reaches.zip vs').flatMap reachC) 126 2 vs' (rowsR r.reaches) ∧ w'.ownsRow b2 97 6 u' r.shoals.length (shoalsC r.shoals)) ∧ Below w.heap.size w w' := by
  obtain ⟨A, c, rfl, _⟩ := hr.reaches.shape
  obtain ⟨A', c', rfl, _⟩ := hr.shoals.shape
  have hbw := Below.refl w.heap.size w
  refine EC.enter 34 Try.func24 rfl rfl rfl ?_
  refine EC.seq ?_
  refine EC.region ?_
  refine EL.newP (bx_47 rfl) rfl ?_
  intro g1 w1 q1 hb1 hg1 hl1
  have bhbw_1 := Nat.le_trans hbw.size hg1
  replace hbw := Below.on hbw hb1 hbw.size
  clear hb1 hg1 hl1
  refine EL.newP al_47 rfl ?_
  intro g2 w2 q2 hb2 hg2 hl2
  have n1_2 : g1 ≠ g2 := Nat.ne_of_lt (Nat.lt_of_lt_of_le q1.lt hg2)
  have bhbw_2 := Nat.le_trans hbw.size hg2
  replace q1 := q1.below hb2 q1.lt
  replace hbw := Below.on hbw hb2 hbw.size
  clear hb2 hg2 hl2
  refine EL.nil ?_
  refine EX.seq ?_
  refine EC.seq ?_
  refine EC.region ?_
  have st3_hbw := hbw.size
  have lt3_1 := q1.lt
  have lt3_2 := q2.lt
  refine EL.newS bs_44_0 rfl ?_
  intro g4 w4 q4 hb4 hg4 hl4
  have n1_4 : g1 ≠ g4 := Nat.ne_of_lt (Nat.lt_of_lt_of_le q1.lt hg4)
  have n2_4 : g2 ≠ g4 := Nat.ne_of_lt (Nat.lt_of_lt_of_le q2.lt hg4)
  have bhbw_4 := Nat.le_trans hbw.size hg4
  replace q1 := q1.below hb4 q1.lt
  replace q2 := q2.below hb4 q2.lt
  replace hbw := Below.on hbw hb4 hbw.size
  clear hb4 hl4
  refine EL.val (x_assign rfl) rfl ?_
  refine EL.nil ?_
  refine EX.seq ?_
  refine EC.seq ?_
  refine EC.seq ?_
  refine EC.region ?_
  refine EL.val (x_assign rfl) rfl ?_
  refine EL.nil ?_
  refine EX.seq ?_
  refine EC.block ?_
  refine EC.loopD [3, 4, 5, 7, 8, 9, 10, 11, 12, 13, 14, 15, 16, 17, 18, 19, 20, 21, 22, 23, 24, 25, 26, 27] (fun x : Nat × Value × List Value => [(4, .int .i64 (x.1 : Nat)), (3, x.2.1)]) (fun x W => x.1 ≤ r.reaches.length ∧ x.2.2.length = x.1 ∧ Rows W w2.heap.size 50 9 x.2.1 x.1 (((r.reaches.take x.1).zip x.2.2).flatMap reachC) 126 2 x.2.2 (rowsR (r.reaches.take x.1)) ∧ Blk W g1 47 #[.slice A r.reaches.length c, .slice A' r.shoals.length c'] ∧ Blk W g2 47 #[.slice none 0 0, .slice none 0 0] ∧ w2.heap.size ≤ W.heap.size ∧ Below w.heap.size w W) (fun x => r.reaches.length - x.1) (0, _, []) ⟨Nat.zero_le _, rfl, Rows.start (own_empty 9 q4 hg4), q1, q2, Nat.le_trans hg4 (Nat.le_of_lt q4.lt), hbw⟩ ⟨rfl, rfl, trivial⟩ ?_
  clear q1 q2 hbw
  rintro ⟨i, vo, fs⟩ wr ⟨hi, hfl, hR, q1, q2, hbo, hbw⟩
  simp only at hi hR hfl
  by_cases hlt : i < r.reaches.length
  ·
    have hbr := Below.refl wr.heap.size wr
    obtain ⟨b, o, rfl, _, cc⟩ := reaches_cells hr.reaches i hlt
    have hcv := hr.reaches.curve i hlt
    obtain ⟨As, cs, es, _⟩ := hcv.shape
    rw [es] at hcv cc
    have hlen := hcl i hlt
    refine EC.seq ?_
    refine EC.seq ?_
    refine EC.region ?_
    refine EL.val (x_move rfl) rfl ?_
    refine EL.val (fa_47_0 rfl) rfl ?_
    refine EL.val (ld_44 rfl (q1.at (j := 0) rfl)) rfl ?_
    refine EL.val (ln_44 rfl) rfl ?_
    refine EL.val (x_lss rfl rfl (by first | assumption | exact decide_eq_true (by omega))) rfl ?_
    refine EL.nil ?_
    refine EX.seq ?_
    refine EC.yes rfl ?_
    refine EC.skip ?_
    refine EX.seq ?_
    refine EC.seq ?_
    refine EC.block ?_
    refine EC.seq ?_
    refine EC.region ?_
    refine EL.val (fa_47_0 rfl) rfl ?_
    refine EL.val (ld_44 rfl (q1.at (j := 0) rfl)) rfl ?_
    refine EL.val (x_move rfl) rfl ?_
    refine EL.val (ix_44 rfl rfl hlt) rfl ?_
    refine EL.val (ld_50 rfl (below_load hbw cc.c0) (below_load hbw cc.c1) (below_load hbw cc.c2) (below_load hbw cc.c3) (below_load hbw cc.c4) (below_load hbw cc.c5) (below_load hbw cc.c6) (below_load hbw cc.c7) (below_load hbw cc.c8)) rfl ?_
    refine EL.newP al_50 rfl ?_
    intro g5 w5 q5 hb5 hg5 hl5
    have n1_5 : g1 ≠ g5 := Nat.ne_of_lt (Nat.lt_of_lt_of_le q1.lt hg5)
    have n2_5 : g2 ≠ g5 := Nat.ne_of_lt (Nat.lt_of_lt_of_le q2.lt hg5)
    have bhbw_5 := Nat.le_trans hbw.size hg5
    have bhbr_5 := Nat.le_trans hbr.size hg5
    replace q1 := q1.below hb5 q1.lt
    replace q2 := q2.below hb5 q2.lt
    replace hbw := Below.on hbw hb5 hbw.size
    replace hbr := Below.on hbr hb5 hbr.size
    clear hb5 hg5 hl5
    refine EL.store rfl rfl q5 sz_50 rfl rfl rfl rfl ?_
    intro w6 hq6 hg6
    replace q1 := q1.grown hg6 (fun h => n1_5 (Option.some.inj h))
    replace q2 := q2.grown hg6 (fun h => n2_5 (Option.some.inj h))
    replace hbw := below_store hbw hg6 bhbw_5
    replace hbr := below_store hbr hg6 bhbr_5
    replace q5 := hq6
    clear hg6 hq6
    refine EL.nil ?_
    refine EX.seq ?_
    refine EC.seq ?_
    refine EC.region ?_
    have st7_hbw := hbw.size
    have st7_hbr := hbr.size
    have lt7_1 := q1.lt
    have lt7_2 := q2.lt
    have lt7_5 := q5.lt
    refine EL.newS bs_48_0 rfl ?_
    intro g8 w8 q8 hb8 hg8 hl8
    have n1_8 : g1 ≠ g8 := Nat.ne_of_lt (Nat.lt_of_lt_of_le q1.lt hg8)
    have n2_8 : g2 ≠ g8 := Nat.ne_of_lt (Nat.lt_of_lt_of_le q2.lt hg8)
    have n5_8 : g5 ≠ g8 := Nat.ne_of_lt (Nat.lt_of_lt_of_le q5.lt hg8)
    have bhbw_8 := Nat.le_trans hbw.size hg8
    have bhbr_8 := Nat.le_trans hbr.size hg8
    replace q1 := q1.below hb8 q1.lt
    replace q2 := q2.below hb8 q2.lt
    replace q5 := q5.below hb8 q5.lt
    replace hbw := Below.on hbw hb8 hbw.size
    replace hbr := Below.on hbr hb8 hbr.size
    clear hb8 hl8
    refine EL.val (fa_50_3 rfl) rfl ?_
    refine EL.val (ld_48 rfl (q5.at (j := 4) rfl)) rfl ?_
    have oin := own_empty (base := w6.heap.size) 2 q8 hg8
    refine EL.push row_elem rfl rfl oin (hcv.below (hbw.mono hB)) (rowsC_one _) (by omega) rfl (Nat.le_trans hg8 (Nat.le_of_lt q8.lt)) rfl ?_
    intro vi w9 hoi hgr9 hb9 _
    rw [Nat.zero_add, List.nil_append] at hoi
    replace q1 := q1.below hb9 lt7_1
    replace q2 := q2.below hb9 lt7_2
    replace q5 := q5.below hb9 lt7_5
    replace hbw := hbw.trans (hb9.mono st7_hbw)
    replace hbr := hbr.trans (hb9.mono st7_hbr)
    have hvi := fun g (h : vi.ownBlock = some g) => (hoi.lt g h).1
    obtain ⟨Ai, ci, ei, _⟩ := (Rd.of_own hoi).shape
    subst ei
    refine EL.val (fa_50_3 rfl) rfl ?_
    refine EL.store rfl rfl q5 sz_48 rfl rfl rfl rfl ?_
    intro w10 hq10 hg10
    replace q1 := q1.grown hg10 (fun h => n1_5 (Option.some.inj h))
    replace q2 := q2.grown hg10 (fun h => n2_5 (Option.some.inj h))
    replace hoi := own_far hoi hg10 lt7_5
    replace hbw := below_store hbw hg10 bhbw_5
    replace hbr := below_store hbr hg10 bhbr_5
    replace q5 := hq10
    clear hg10 hq10
    refine EL.nil ?_
    refine EX.seq ?_
    refine EC.region ?_
    refine EL.val (x_move rfl) rfl ?_
    refine EL.val (ld_50 rfl (q5.at (j := 0) rfl) (q5.at (j := 1) rfl) (q5.at (j := 2) rfl) (q5.at (j := 3) rfl) (q5.at (j := 4) rfl) (q5.at (j := 5) rfl) (q5.at (j := 6) rfl) (q5.at (j := 7) rfl) (q5.at (j := 8) rfl)) rfl ?_
    refine EL.newS (bs_44_1 rfl) rfl ?_
    intro g11 w11 q11 hb11 hg11 hl11
    have n1_11 : g1 ≠ g11 := Nat.ne_of_lt (Nat.lt_of_lt_of_le q1.lt hg11)
    have n2_11 : g2 ≠ g11 := Nat.ne_of_lt (Nat.lt_of_lt_of_le q2.lt hg11)
    have n5_11 : g5 ≠ g11 := Nat.ne_of_lt (Nat.lt_of_lt_of_le q5.lt hg11)
    have bhbw_11 := Nat.le_trans hbw.size hg11
    have bhbr_11 := Nat.le_trans hbr.size hg11
    replace q1 := q1.below hb11 q1.lt
    replace q2 := q2.below hb11 q2.lt
    replace q5 := q5.below hb11 q5.lt
    replace hoi := own_below hoi hb11 (Nat.le_refl _)
    replace hbw := Below.on hbw hb11 hbw.size
    replace hbr := Below.on hbr hb11 hbr.size
    clear hb11 hg11 hl11
    have hR2 := hR.below hbr
    have hoi2 := own_less hoi (Nat.le_trans hbo st7_hbr)
    have hap := apart_fresh hR.own (fun g h => Nat.le_trans st7_hbr (hvi g h))
    refine EL.push reach_elem rfl rfl hR2.own (rd_one (l := reachC (r.reaches.getD i reach0, .slice Ai (r.reaches.getD i reach0).curve.length ci)) q11 rfl) (by simp [reachC, Value.oneCell']) (by omega) rfl (Nat.le_trans hbo hbr.size) rfl ?_
    intro v' w12 ho2 hgr12 hb12 hat12
    have hR3 := hR2.push0 hoi2 hap ho2 hgr12 hat12
    have hbo2 := Nat.le_trans (Nat.le_trans hbo hbr.size) hb12.size
    replace hbw := hbw.trans (hb12.mono st3_hbw)
    replace q1 := q1.below hb12 lt3_1
    replace q2 := q2.below hb12 lt3_2
    refine EL.val (x_assign rfl) rfl ?_
    refine EL.nil ?_
    refine EX.blk ?_
    refine EX.seq ?_
    refine EC.region ?_
    refine EL.val (x_move rfl) rfl ?_
    refine EL.val (x_add rfl rfl (by first | assumption | exact IntWalk.i64_in _ ⟨by omega, by omega⟩)) rfl ?_
    refine EL.val (x_assign rfl) rfl ?_
    refine EL.nil ?_
    refine EX.roundD (i + 1, v', fs ++ [_]) ⟨rfl, rfl, trivial⟩ (by repeat first | exact Sub.refl _ | refine sub_past rfl ?_ | refine sub_del rfl ?_ | refine sub_insL_nil ?_) ⟨hlt, by simp [hfl], by rw [rowsR_take hlt, zip_take hlt hfl]; exact hR3, q1, q2, hbo2, hbw⟩ (by simp only; omega)
  ·
    have hbr := Below.refl wr.heap.size wr
    obtain rfl : i = r.reaches.length := by omega
    rw [List.take_length] at hR
    obtain ⟨Ao, co, eo, _⟩ := (Rd.of_own hR.own).shape
    subst eo
    have hR0 := hR
    refine EC.seq ?_
    refine EC.seq ?_
    refine EC.region ?_
    refine EL.val (x_move rfl) rfl ?_
    refine EL.val (fa_47_0 rfl) rfl ?_
    refine EL.val (ld_44 rfl (q1.at (j := 0) rfl)) rfl ?_
    refine EL.val (ln_44 rfl) rfl ?_
    refine EL.val (x_lss rfl rfl (by first | assumption | exact decide_eq_false (by omega))) rfl ?_
    refine EL.nil ?_
    refine EX.seq ?_
    refine EC.no rfl ?_
    refine EC.exit ?_
    refine EX.seq_exit ?_
    refine EX.seq_exit ?_
    refine EX.blk_here ?_
    refine EX.seq ?_
    refine EC.seq ?_
    refine EC.region ?_
    refine EL.val (x_move rfl) rfl ?_
    have st13_hbw := hbw.size
    have st13_hbr := hbr.size
    have lt13_1 := q1.lt
    have lt13_2 := q2.lt
    refine EL.newS bs_45_0 rfl ?_
    intro g14 w14 q14 hb14 hg14 hl14
    have n1_14 : g1 ≠ g14 := Nat.ne_of_lt (Nat.lt_of_lt_of_le q1.lt hg14)
    have n2_14 : g2 ≠ g14 := Nat.ne_of_lt (Nat.lt_of_lt_of_le q2.lt hg14)
    have bhbw_14 := Nat.le_trans hbw.size hg14
    have bhbr_14 := Nat.le_trans hbr.size hg14
    replace q1 := q1.below hb14 q1.lt
    replace q2 := q2.below hb14 q2.lt
    replace hR := hR.below hb14
    replace hbw := Below.on hbw hb14 hbw.size
    replace hbr := Below.on hbr hb14 hbr.size
    clear hb14 hl14
    refine EL.val (fa_47_1 rfl) rfl ?_
    refine EL.val (ld_45 rfl (q1.at (j := 1) rfl)) rfl ?_
    have oin := own_empty (base := wr.heap.size) 6 q14 hg14
    have hR2 := hR
    refine EL.push shoal_elem rfl rfl oin (hr.shoals.below (hbw.mono hB)) (shoalsC_one _) (by omega) rfl (Nat.le_trans hg14 (Nat.le_of_lt q14.lt)) rfl ?_
    intro vi w15 hoi hgr15 hb15 _
    rw [Nat.zero_add, List.nil_append] at hoi
    replace hR := hR.keepB hb15 (fun g h => Nat.lt_of_lt_of_le ((hR0.own.lt g h).2) st13_hbr) (fun j hj g h => Nat.lt_of_lt_of_le ((hR0.each j hj).lt g h).2 st13_hbr)
    replace q1 := q1.below hb15 lt13_1
    replace q2 := q2.below hb15 lt13_2
    replace hbw := hbw.trans (hb15.mono st13_hbw)
    replace hbr := hbr.trans (hb15.mono st13_hbr)
    obtain ⟨Ai, ci, ei, _⟩ := (Rd.of_own hoi).shape
    subst ei
    refine EL.val (bd_47_0_1 rfl rfl) rfl ?_
    refine EL.store rfl rfl q2 sz_47 rfl rfl rfl rfl ?_
    intro w16 hq16 hg16
    replace q1 := q1.grown hg16 (fun h => n1_2 (Option.some.inj h))
    replace hR := hR.far hg16 lt3_2
    replace hoi := own_far hoi hg16 lt13_2
    replace hbw := below_store hbw hg16 bhbw_2
    clear hbr
    replace q2 := hq16
    clear hg16 hq16
    refine EL.nil ?_
    refine EX.seq ?_
    refine EC.ret ?_
    exact EX.done (resc1 rfl rfl (lv_47 (q2.at rfl) (q2.at rfl))) ⟨⟨_, _, _, _, _, rfl, st3_hbw, st13_hbw, hR, hoi⟩, hbw⟩
theorem copied_any (r : River) (v u : Value) (vs : List Value) (w : World) (B : Nat) (hr : RdRiver w B v u r vs) (hB : B ≤ w.heap.size) (hl : r.reaches.length ≤ 1048575) (hl2 : r.shoals.length ≤ 1048576) (hcl : ∀ i, i < r.reaches.length → (r.reaches.getD i reach0).curve.length ≤ 1048576) :
    Calls Try.prog 24 #[.agg #[v, u]] w fun e w' => (∃ v' u' vs', e = .returned (.agg #[v', u']) ∧ RdRiver w' w'.heap.size v' u' r vs') ∧ Below w.heap.size w w' :=
  (copied_own r v u vs w B hr hB hl hl2 hcl).mono fun _ _ ⟨⟨v', u', vs', _, _, h1, _, _, h2, h3⟩, h4⟩ => ⟨⟨v', u', vs', h1, h2.reaches, Rd.of_own h3⟩, h4⟩
end Go.Proofs.Ytncnlhkmdljgpaa
namespace Go.Proofs.Ytncnlhkmdljgpaa
open Go Go.ChangeShapes Go.WideShapes Go.Deep Go.RowKit Go.Joins
section
variable {H : Type} {enc : TypeId × Value → H} {w : World} {base : Nat} {spare : Nat → Bool} {held : Bool}
set_option maxRecDepth 100000 in
theorem cells_126 {fuel : Nat} {cs : List Value} {x : DataW H × List MemPlace} (hl : cs.length = 2) (h : DataW.trod enc Try.prog w base spare held fuel 126 cs = some x) : ∃ (z0 : Int) (z1 : Int), cs = [.int .i64 z0, .int .i64 z1] := by
  obtain ⟨ys, n, _, _, _, hyl, hf⟩ := DataW.trod_struct Try.underlying126 h
  match cs, hl with
  | [u0, u1], _ =>
    match ys, hyl with
    | [y0, y1], _ =>
      have q0 : DataW.trod enc Try.prog w base spare held n 3 [u0] = some y0 := fld_of hf (j := 0) rfl rfl rfl co_3
      obtain ⟨z0, hz0, _, _⟩ := DataW.trod_int Try.underlying3 q0
      injection hz0 with hz0
      subst hz0
      have q1 : DataW.trod enc Try.prog w base spare held n 3 [u1] = some y1 := fld_of hf (j := 1) rfl rfl rfl co_3
      obtain ⟨z1, hz1, _, _⟩ := DataW.trod_int Try.underlying3 q1
      injection hz1 with hz1
      subst hz1
      exact ⟨z0, z1, rfl⟩
theorem co_126 : Try.prog.cellsOf 126 = 2 := by kernel_rfl
theorem co_48 : Try.prog.cellsOf 48 = 1 := by kernel_rfl
set_option maxRecDepth 100000 in
theorem cells_50 {fuel : Nat} {cs : List Value} {x : DataW H × List MemPlace} (hl : cs.length = 9) (h : DataW.trod enc Try.prog w base spare held fuel 50 cs = some x) : ∃ (z0 : Int) (z1 : Int) (z2 : Int) (z3 : Int) (v4 : Value) (z5 : Int) (z6 : Int) (z7 : Int) (z8 : Int), cs = [.int .i64 z0, .int .i64 z1, .int .i64 z2, .int .i64 z3, v4, .int .i64 z5, .int .i64 z6, .int .i64 z7, .int .i64 z8] ∧ (∃ n x, DataW.trod enc Try.prog w base spare held n 48 [v4] = some x) := by
  obtain ⟨ys, n, _, _, _, hyl, hf⟩ := DataW.trod_struct Try.underlying50 h
  match cs, hl with
  | [u0, u1, u2, u3, u4, u5, u6, u7, u8], _ =>
    match ys, hyl with
    | [y0, y1, y2, y3, y4, y5, y6], _ =>
      have q0 : DataW.trod enc Try.prog w base spare held n 3 [u0] = some y0 := fld_of hf (j := 0) rfl rfl rfl co_3
      obtain ⟨z0, hz0, _, _⟩ := DataW.trod_int Try.underlying3 q0
      injection hz0 with hz0
      subst hz0
      have q1 : DataW.trod enc Try.prog w base spare held n 3 [u1] = some y1 := fld_of hf (j := 1) rfl rfl rfl co_3
      obtain ⟨z1, hz1, _, _⟩ := DataW.trod_int Try.underlying3 q1
      injection hz1 with hz1
      subst hz1
      have q2 : DataW.trod enc Try.prog w base spare held n 23 [u2, u3] = some y2 := fld_of hf (j := 2) rfl rfl rfl co_23
      obtain ⟨a2, a3, e2⟩ := cells_23 rfl q2
      simp only [List.cons.injEq, and_true] at e2
      obtain ⟨rfl, rfl⟩ := e2
      have q3 : DataW.trod enc Try.prog w base spare held n 48 [u4] = some y3 := fld_of hf (j := 3) rfl rfl rfl co_48
      have q4 : DataW.trod enc Try.prog w base spare held n 3 [u5] = some y4 := fld_of hf (j := 4) rfl rfl rfl co_3
      obtain ⟨z5, hz5, _, _⟩ := DataW.trod_int Try.underlying3 q4
      injection hz5 with hz5
      subst hz5
      have q5 : DataW.trod enc Try.prog w base spare held n 23 [u6, u7] = some y5 := fld_of hf (j := 5) rfl rfl rfl co_23
      obtain ⟨a6, a7, e5⟩ := cells_23 rfl q5
      simp only [List.cons.injEq, and_true] at e5
      obtain ⟨rfl, rfl⟩ := e5
      have q6 : DataW.trod enc Try.prog w base spare held n 3 [u8] = some y6 := fld_of hf (j := 6) rfl rfl rfl co_3
      obtain ⟨z8, hz8, _, _⟩ := DataW.trod_int Try.underlying3 q6
      injection hz8 with hz8
      subst hz8
      exact ⟨z0, z1, a2, a3, u4, z5, a6, a7, z8, rfl, ⟨_, _, q3⟩⟩
theorem co_50 : Try.prog.cellsOf 50 = 9 := by kernel_rfl
set_option maxRecDepth 100000 in
theorem cells_97 {fuel : Nat} {cs : List Value} {x : DataW H × List MemPlace} (hl : cs.length = 6) (h : DataW.trod enc Try.prog w base spare held fuel 97 cs = some x) : ∃ (z0 : Int) (z1 : Int) (z2 : Int) (z3 : Int) (z4 : Int) (z5 : Int), cs = [.int .i64 z0, .int .i64 z1, .int .i64 z2, .int .i64 z3, .int .i64 z4, .int .i64 z5] := by
  obtain ⟨ys, n, _, _, _, hyl, hf⟩ := DataW.trod_struct Try.underlying97 h
  match cs, hl with
  | [u0, u1, u2, u3, u4, u5], _ =>
    match ys, hyl with
    | [y0, y1, y2, y3], _ =>
      have q0 : DataW.trod enc Try.prog w base spare held n 3 [u0] = some y0 := fld_of hf (j := 0) rfl rfl rfl co_3
      obtain ⟨z0, hz0, _, _⟩ := DataW.trod_int Try.underlying3 q0
      injection hz0 with hz0
      subst hz0
      have q1 : DataW.trod enc Try.prog w base spare held n 23 [u1, u2] = some y1 := fld_of hf (j := 1) rfl rfl rfl co_23
      obtain ⟨a1, a2, e1⟩ := cells_23 rfl q1
      simp only [List.cons.injEq, and_true] at e1
      obtain ⟨rfl, rfl⟩ := e1
      have q2 : DataW.trod enc Try.prog w base spare held n 3 [u3] = some y2 := fld_of hf (j := 2) rfl rfl rfl co_3
      obtain ⟨z3, hz3, _, _⟩ := DataW.trod_int Try.underlying3 q2
      injection hz3 with hz3
      subst hz3
      have q3 : DataW.trod enc Try.prog w base spare held n 23 [u4, u5] = some y3 := fld_of hf (j := 3) rfl rfl rfl co_23
      obtain ⟨a4, a5, e3⟩ := cells_23 rfl q3
      simp only [List.cons.injEq, and_true] at e3
      obtain ⟨rfl, rfl⟩ := e3
      exact ⟨z0, a1, a2, z3, a4, a5, rfl⟩
theorem co_97 : Try.prog.cellsOf 97 = 6 := by kernel_rfl
theorem co_44 : Try.prog.cellsOf 44 = 1 := by kernel_rfl
theorem co_45 : Try.prog.cellsOf 45 = 1 := by kernel_rfl
set_option maxRecDepth 100000 in
theorem cells_47 {fuel : Nat} {cs : List Value} {x : DataW H × List MemPlace} (hl : cs.length = 2) (h : DataW.trod enc Try.prog w base spare held fuel 47 cs = some x) : ∃ (v0 : Value) (v1 : Value), cs = [v0, v1] ∧ (∃ n x, DataW.trod enc Try.prog w base spare held n 44 [v0] = some x) ∧ (∃ n x, DataW.trod enc Try.prog w base spare held n 45 [v1] = some x) := by
  obtain ⟨ys, n, _, _, _, hyl, hf⟩ := DataW.trod_struct Try.underlying47 h
  match cs, hl with
  | [u0, u1], _ =>
    match ys, hyl with
    | [y0, y1], _ =>
      have q0 : DataW.trod enc Try.prog w base spare held n 44 [u0] = some y0 := fld_of hf (j := 0) rfl rfl rfl co_44
      have q1 : DataW.trod enc Try.prog w base spare held n 45 [u1] = some y1 := fld_of hf (j := 1) rfl rfl rfl co_45
      exact ⟨u0, u1, rfl, ⟨_, _, q0⟩, ⟨_, _, q1⟩⟩
theorem co_47 : Try.prog.cellsOf 47 = 2 := by kernel_rfl
instance : Inhabited Row := ⟨row0⟩
instance : Inhabited Shoal := ⟨shoal0⟩
instance : Inhabited (Reach × Value) := ⟨(reach0, .slice none 0 0)⟩
theorem rd_rows {fuel : Nat} {v : Value} {x : DataW H × List MemPlace} (h : DataW.trod enc Try.prog w base spare held fuel 48 [v] = some x) : ∃ l : List Row, Rd w w.heap.size 2 v l.length (rowsC l) ∧ l.length ≤ maxLen := by
  obtain ⟨l, h1, _, h2⟩ := rd_list (f := rowC) (Good := fun _ => True) rowC_len (by omega) Try.underlying48 co_126 (fun _ cs _ hl ht => by
    obtain ⟨a, b, rfl⟩ := cells_126 hl ht
    exact ⟨⟨a, b⟩, rfl, trivial⟩) h
  exact ⟨l, h1, h2⟩
theorem rd_shoals {fuel : Nat} {v : Value} {x : DataW H × List MemPlace} (h : DataW.trod enc Try.prog w base spare held fuel 45 [v] = some x) : ∃ l : List Shoal, Rd w w.heap.size 6 v l.length (shoalsC l) ∧ l.length ≤ maxLen := by
  obtain ⟨l, h1, _, h2⟩ := rd_list (f := shoalC) (Good := fun _ => True) shoalC_len (by omega) Try.underlying45 co_97 (fun _ cs _ hl ht => by
    obtain ⟨a, b, c, d, e, f, rfl⟩ := cells_97 hl ht
    exact ⟨{ place := a, bed := ⟨b, c⟩, sounded := d, grow := ⟨e, f⟩ }, rfl, trivial⟩) h
  exact ⟨l, h1, h2⟩
theorem zip_fst_snd {α β : Type} : ∀ l : List (α × β), (l.map Prod.fst).zip (l.map Prod.snd) = l
  | [] => rfl
  | (a, b) :: l => by simp [zip_fst_snd l]
theorem rd_reaches {fuel : Nat} {v : Value} {x : DataW H × List MemPlace} (h : DataW.trod enc Try.prog w base spare held fuel 44 [v] = some x) : ∃ (l : List Reach) (vs : List Value), RdReaches w w.heap.size v l vs ∧ l.length ≤ maxLen ∧ ∀ i, i < l.length → (l.getD i reach0).curve.length ≤ maxLen := by
  obtain ⟨l, h1, h3, h2⟩ := rd_list (f := reachC) (Good := fun p => Rd w w.heap.size 2 p.2 p.1.curve.length (rowsC p.1.curve) ∧ p.1.curve.length ≤ maxLen) (fun _ => rfl) (by omega) Try.underlying44 co_50 (fun _ cs _ hl ht => by
    obtain ⟨a, b, c, d, e, f, g, h, i, rfl, n, y, hc⟩ := cells_50 hl ht
    obtain ⟨l, h1, h2⟩ := rd_rows hc
    exact ⟨({ len := a, delay := b, base := ⟨c, d⟩, curve := l, weir := f, bottom := ⟨g, h⟩, flood := i }, e), rfl, h1, h2⟩) h
  refine ⟨l.map Prod.fst, l.map Prod.snd, ⟨by simp, ?_, fun i hi => ?_⟩, by simpa using h2, fun i hi => ?_⟩
  · rw [zip_fst_snd, List.length_map]; exact h1
  · have hi' : i < l.length := by simpa using hi
    have e1 : (l.map Prod.fst).getD i reach0 = l[i].1 := by simp [hi']
    have e2 : (l.map Prod.snd).getD i undef = l[i].2 := by simp [hi']
    rw [e1, e2]
    exact (h3 _ (List.getElem_mem hi')).1
  · have hi' : i < l.length := by simpa using hi
    have e1 : (l.map Prod.fst).getD i reach0 = l[i].1 := by simp [hi']
    rw [e1]
    exact (h3 _ (List.getElem_mem hi')).2
end
end Go.Proofs.Ytncnlhkmdljgpaa
namespace Go.Proofs.Ytncnlhkmdljgpaa
open Go Go.ChangeShapes Go.WideShapes Go.Deep Go.RowKit Go.Joins
section
variable {H : Type} {enc : TypeId × Value → H} {w : World} {base : Nat} {spare : Nat → Bool} {held : Bool}
theorem co_52 : Try.prog.cellsOf 52 = 1 := by kernel_rfl
set_option maxRecDepth 100000 in
theorem cells_54 {fuel : Nat} {cs : List Value} {x : DataW H × List MemPlace} (hl : cs.length = 3) (h : DataW.trod enc Try.prog w base spare held fuel 54 cs = some x) : ∃ (v0 : Value) (v1 : Value) (v2 : Value), cs = [v0, v1, v2] ∧ (∃ n x, DataW.trod enc Try.prog w base spare held n 44 [v0] = some x) ∧ (∃ n x, DataW.trod enc Try.prog w base spare held n 45 [v1] = some x) ∧ (∃ n x, DataW.trod enc Try.prog w base spare held n 52 [v2] = some x) := by
  obtain ⟨ys, n, _, _, _, hyl, hf⟩ := DataW.trod_struct Try.underlying54 h
  match cs, hl with
  | [u0, u1, u2], _ =>
    match ys, hyl with
    | [y0, y1], _ =>
      have q0 : DataW.trod enc Try.prog w base spare held n 47 [u0, u1] = some y0 := fld_of hf (j := 0) rfl rfl rfl co_47
      obtain ⟨a0, a1, e0, t0, t1⟩ := cells_47 rfl q0
      simp only [List.cons.injEq, and_true] at e0
      obtain ⟨rfl, rfl⟩ := e0
      have q1 : DataW.trod enc Try.prog w base spare held n 52 [u2] = some y1 := fld_of hf (j := 1) rfl rfl rfl co_52
      exact ⟨u0, u1, u2, rfl, t0, t1, ⟨_, _, q1⟩⟩
theorem co_54 : Try.prog.cellsOf 54 = 3 := by kernel_rfl
theorem co_28 : Try.prog.cellsOf 28 = 1 := by kernel_rfl
theorem cells_len_54 {fuel : Nat} {v : Value} {x : DataW H × List MemPlace} (h : DataW.trod enc Try.prog w base spare held fuel 54 v.cells.toList = some x) : v.cells.toList.length = 3 := by
  obtain ⟨_, _, _, _, hlen, _, _⟩ := DataW.trod_struct Try.underlying54 h
  rw [hlen]
  exact co_54
instance : Inhabited Bd := ⟨bd0⟩
instance : Inhabited (List Bd × Value) := ⟨([], .slice none 0 0)⟩
theorem rd_bds {fuel : Nat} {v : Value} {x : DataW H × List MemPlace} (h : DataW.trod enc Try.prog w base spare held fuel 28 [v] = some x) : ∃ l : List Bd, Rd w w.heap.size 2 v l.length (bdsC l) ∧ l.length ≤ maxLen := by
  obtain ⟨l, h1, _, h2⟩ := rd_list (f := bdC) (Good := fun _ => True) bdC_len (by omega) Try.underlying28 co_23 (fun _ cs _ hl ht => by
    obtain ⟨a, b, rfl⟩ := cells_23 hl ht
    exact ⟨⟨a, b⟩, rfl, trivial⟩) h
  exact ⟨l, h1, h2⟩
theorem flat_snd {α β : Type} : ∀ l : List (α × β), l.flatMap (fun p => [p.2]) = l.map Prod.snd
  | [] => rfl
  | (a, b) :: l => by simp [flat_snd l]
theorem rd_sides {fuel : Nat} {v : Value} {x : DataW H × List MemPlace} (h : DataW.trod enc Try.prog w base spare held fuel 52 [v] = some x) : ∃ (l : List (List Bd)) (vs : List Value), RdSides w w.heap.size v l vs ∧ l.length ≤ maxLen ∧ ∀ i, i < l.length → (l.getD i []).length ≤ maxLen := by
  obtain ⟨l, h1, h3, h2⟩ := rd_list (α := List Bd × Value) (s := 1) (f := fun p => [p.2]) (Good := fun p => Rd w w.heap.size 2 p.2 p.1.length (bdsC p.1) ∧ p.1.length ≤ maxLen) (fun _ => rfl) (by omega) Try.underlying52 co_28 (fun _ cs _ hl ht => by
    match cs, hl with
    | [u], _ =>
      obtain ⟨l, h1, h2⟩ := rd_bds ht
      exact ⟨(l, u), rfl, h1, h2⟩) h
  rw [flat_snd] at h1
  refine ⟨l.map Prod.fst, l.map Prod.snd, ⟨by simp, by simpa using h1, fun i hi => ?_⟩, by simpa using h2, fun i hi => ?_⟩
  · have hi' : i < l.length := by simpa using hi
    have e1 : (l.map Prod.fst).getD i [] = l[i].1 := by simp [hi']
    have e2 : (l.map Prod.snd).getD i undef = l[i].2 := by simp [hi']
    rw [e1, e2]
    exact (h3 _ (List.getElem_mem hi')).1
  · have hi' : i < l.length := by simpa using hi
    have e1 : (l.map Prod.fst).getD i [] = l[i].1 := by simp [hi']
    rw [e1]
    exact (h3 _ (List.getElem_mem hi')).2
theorem forecast_of {v : Value} {d : DataW H} {p : List MemPlace} (h : DataW.Trod enc Try.prog w base spare held 54 v d p) : ∃ (r : River) (sides : List (List Bd)) (a b s : Value) (vs ss : List Value), v = .agg #[a, b, s] ∧ RdRiver w w.heap.size a b r vs ∧ RdSides w w.heap.size s sides ss ∧ r.reaches.length ≤ maxLen ∧ r.shoals.length ≤ maxLen ∧ sides.length ≤ maxLen := by
  obtain ⟨fuel, hf⟩ := h
  obtain ⟨a, b, c, he, ⟨_, _, ha⟩, ⟨_, _, hb⟩, _, _, hc⟩ := cells_54 (cells_len_54 hf) hf
  obtain ⟨l, vs, h1, h2, _⟩ := rd_reaches ha
  obtain ⟨l1, h3, h4⟩ := rd_shoals hb
  obtain ⟨l2, ss, h5, h6, _⟩ := rd_sides hc
  refine ⟨⟨l, l1⟩, l2, a, b, c, vs, ss, ?_, ⟨h1, h3⟩, h5, h2, h4, h6⟩
  cases v with
  | agg cs =>
    have : cs = #[a, b, c] := by
      apply Array.ext'
      simpa [Value.cells] using he
    rw [this]
  | _ => simp [Value.cells] at he
end
end Go.Proofs.Ytncnlhkmdljgpaa
set_option linter.unusedVariables false
namespace Go.Proofs.Ytncnlhkmdljgpaa
open Go Go.RowKit Go.ChangeShapes Go.WideShapes Go.Joins
section
variable {H : Type} {enc : TypeId × Value → H} {P : Program} {w : World} {base : Nat} {spare : Nat → Bool} {held : Bool}
theorem open_three {k : IntKind} {t e : TypeId} {v : Value} {d : DataW H} {p : List MemPlace} (ht : P.underlying t = some (.array 3 e)) (hCt : P.cellsOf t = 3) (hC : P.cellsOf e = 1) (he : P.underlying e = some (.int k)) (h : DataW.Trod enc P w base spare held t v d p) :
    ∃ x y z : Int, v = .agg #[.int k x, .int k y, .int k z] ∧ (Lit.int k x).wf = true ∧ (Lit.int k y).wf = true ∧ (Lit.int k z).wf = true := by
  obtain ⟨fuel, hf⟩ := h
  obtain ⟨xs, m, _, _, hlen, hxl, hg⟩ := DataW.trod_array ht hf
  rw [hCt] at hlen
  have hv : ∃ c0 c1 c2, v = .agg #[c0, c1, c2] := by
    cases v <;> simp [Value.cells] at hlen
    rename_i cs
    obtain ⟨l⟩ := cs
    match l, hlen with
    | [c0, c1, c2], _ => exact ⟨c0, c1, c2, rfl⟩
  obtain ⟨c0, c1, c2, rfl⟩ := hv
  have q0 := hg 0 (by omega)
  have q1 := hg 1 (by omega)
  have q2 := hg 2 (by omega)
  rw [hC] at q0 q1 q2
  simp only [Value.cells, Nat.mul_one, List.drop_zero, List.drop_succ_cons, List.take_succ_cons, List.take_zero] at q0 q1 q2
  match xs, hxl with
  | [y0, y1, y2], _ =>
    obtain ⟨x, hx, _, wx⟩ := DataW.trod_int he q0
    obtain ⟨y, hy, _, wy⟩ := DataW.trod_int he q1
    obtain ⟨z, hz, _, wz⟩ := DataW.trod_int he q2
    injection hx with hx
    injection hy with hy
    injection hz with hz
    subst hx hy hz
    exact ⟨x, y, z, rfl, wx, wy, wz⟩
theorem wf_u16 {n : Int} (h : (Lit.int .u16 n).wf = true) : 0 ≤ n ∧ n ≤ 65535 := by
  simp [Lit.wf, IntKind.min, IntKind.max, IntKind.signed, IntKind.bits] at h
  omega
theorem wf_u8 {n : Int} (h : (Lit.int .u8 n).wf = true) : 0 ≤ n ∧ n ≤ 255 := by
  simp [Lit.wf, IntKind.min, IntKind.max, IntKind.signed, IntKind.bits] at h
  omega
theorem co_84 : Try.prog.cellsOf 84 = 3 := by kernel_rfl
theorem co_83 : Try.prog.cellsOf 83 = 1 := by kernel_rfl
end
end Go.Proofs.Ytncnlhkmdljgpaa
namespace Go.Proofs.Ytncnlhkmdljgpaa
open Go Go.RowKit
theorem topOf_bd {N : Int} {t : Int} : ∀ {l : List Shoal} {b : Bd}, (∀ j, j < l.length → shoalB N (l.getD j shoal0) = true) → -400 ≤ t → t ≤ 400 → (-20000 ≤ b.lo ∧ b.lo ≤ 30000) → (-20000 ≤ b.hi ∧ b.hi ≤ 30000) →
    (-20000 ≤ (topOf t b l).lo ∧ (topOf t b l).lo ≤ 30000) ∧ -20000 ≤ (topOf t b l).hi ∧ (topOf t b l).hi ≤ 30000
  | [], b, _, _, _, h1, h2 => ⟨h1, h2⟩
  | s :: l, b, hs, ht, ht', h1, h2 => by
    have h3 := bedOf_bd (hs 0 (by simp)) ht ht'
    rw [show (s :: l).getD 0 shoal0 = s from rfl] at h3
    exact topOf_bd (l := l) (b := b.top (bedOf s t)) (fun j hj => by have := hs (j + 1) (by simp; omega); simpa using this) ht ht' (by simp only [Bd.top]; omega) (by simp only [Bd.top]; omega)
theorem depth_any {w : World} {B g : Nat} {r : River} {sides : List (List Bd)} {v u vf : Value} {vs fs : List Value} (h : StreamOk w B g r sides v u vf vs fs) (hB : B ≤ w.heap.size) (i t : Nat) (hi : i < r.reaches.length) (ht : t < (sides.getD 0 []).length)
    (A1 : Option Addr) (n1 c1 : Nat) (A : Option Addr) (c : Nat) (l : List Shoal) (hl : Rd w B 6 (.slice A l.length c) l.length (shoalsC l)) (hs : ∀ j, j < l.length → shoalB (placesOf r.reaches) (l.getD j shoal0) = true) (hll : l.length ≤ 40) :
    Calls Try.prog 75 #[.pointer (some ⟨g, 0, none⟩), .agg (placeV (r.reaches.getD i reach0) (.slice A1 n1 c1) (i : Nat) (.slice A l.length c)), .int .i64 t] w fun e w' =>
      e = .returned (.agg #[.int .i64 (max 0 ((levelAt (r.reaches.getD i reach0) (flowIn r.reaches sides i t)).lo - (topOf t (r.reaches.getD i reach0).bottom l).hi)), .int .i64 (max 0 ((levelAt (r.reaches.getD i reach0) (flowIn r.reaches sides i t)).hi - (topOf t (r.reaches.getD i reach0).bottom l).lo))]) ∧ Below w.heap.size w w' := by
  have hreach := h.ok.river.reach i hi
  have hh := h.ok.hours
  have hlb := levelAt_bd hreach (flowIn r.reaches sides i t)
  have htb := topOf_bd (t := (t : Int)) (l := l) (N := placesOf r.reaches) (b := (r.reaches.getD i reach0).bottom) hs (by omega) (by omega) (by have := hreach.bottom; omega) (by have := hreach.bottom; omega)
  have hlev := fun W (hb : Below w.heap.size w W) => slevel_any (h.below (hb.mono hB)) (Nat.le_trans hB hb.size) i t hi (by omega)
  have hbed := fun W (hb : Below w.heap.size w W) => bed_any (r.reaches.getD i reach0) (.slice A1 n1 c1) (i : Nat) A c B l (t : Int) (placesOf r.reaches) W (hl.below (hb.mono hB)) (Nat.le_trans hB hb.size) ⟨_, _, _, rfl⟩ hs (by omega) (by omega) (by have := hreach.bottom; omega)
  obtain ⟨x, ex⟩ : ∃ x, x = r.reaches.getD i reach0 := ⟨_, rfl⟩
  rw [← ex] at hbed htb hlev hlb ⊢
  obtain ⟨⟨ll, lh⟩, e1⟩ : ∃ y, y = levelAt x (flowIn r.reaches sides i t) := ⟨_, rfl⟩
  rw [← e1] at hlev hlb ⊢
  obtain ⟨⟨bl, bh⟩, e2⟩ : ∃ y, y = topOf t x.bottom l := ⟨_, rfl⟩
  rw [← e2] at hbed htb ⊢
  simp only at hlb htb ⊢
  have hw1 : IntKind.i64.wrap (ll - bh) = ll - bh := IntWalk.i64_in _ ⟨by omega, by omega⟩
  have hw2 : IntKind.i64.wrap (lh - bl) = lh - bl := IntWalk.i64_in _ ⟨by omega, by omega⟩
  have hbw := Below.refl w.heap.size w
  refine EC.enter 30 Try.func75 rfl rfl rfl ?_
  -- body
  refine EC.seq ?_
  refine EC.region ?_
  refine EL.newP (bx_129 rfl) rfl ?_
  intro g1 w1 q1 hb1 hg1 hl1
  have bhbw_1 := Nat.le_trans hbw.size hg1
  replace hbw := Below.on hbw hb1 hbw.size
  clear hb1 hg1 hl1
  refine EL.newP al_23 rfl ?_
  intro g2 w2 q2 hb2 hg2 hl2
  have n1_2 : g1 ≠ g2 := Nat.ne_of_lt (Nat.lt_of_lt_of_le q1.lt hg2)
  have bhbw_2 := Nat.le_trans hbw.size hg2
  replace q1 := q1.below hb2 q1.lt
  replace hbw := Below.on hbw hb2 hbw.size
  clear hb2 hg2 hl2
  refine EL.nil ?_
  refine EX.seq ?_
  refine EC.seq ?_
  have lt_1 := q1.lt
  have lt_2 := q2.lt
  refine EC.regionP [[], [], [1], [], [0, 1, 2, 3], [], [], [0, 1, 2, 3, 4, 5, 6], [], [], [0, 1, 2, 3, 4, 5, 6, 7, 8, 9], [0, 1, 2, 3, 4, 5, 6, 7, 8, 9, 10]] 10 [8, 9] (phi (fun i_ r => match i_ with | 0 => r 0 = .pointer (some ⟨g, 0, none⟩) | 1 => r 1 = .pointer (some ⟨g1, 9, none⟩) | 2 => r 2 = .int .i64 (i : Nat) | 3 => r 3 = .int .i64 (t : Nat) | 4 => r 4 = .agg #[.int .i64 ll, .int .i64 lh] | 5 => r 5 = .agg (placeV x (.slice A1 n1 c1) (i : Nat) (.slice A l.length c)) | 6 => r 6 = .int .i64 (t : Nat) | 7 => r 7 = .agg #[.int .i64 bl, .int .i64 bh] | _ => True) [(8, fun r w_ => ∃ g_, r 8 = .pointer (some ⟨g_, 0, none⟩) ∧ Blk w_ g_ 23 #[.int .i64 0, .int .i64 0]), (9, fun r w_ => ∃ g_, r 9 = .pointer (some ⟨g_, 0, none⟩) ∧ Blk w_ g_ 23 #[.int .i64 0, .int .i64 0])]) (by kernel_rfl) rfl rfl (phi_cons mono_alloc (phi_cons mono_alloc (phi_nil))) (fun i_ hi_ => ?_) ?_
  · match i_, hi_ with
    | 0, _ =>
      intro val w1 a hb ha hd
      have ha := ha.sub (Sub.ins (d := 0) (Sub.nil _) rfl)
      exact hs_val ha rfl rfl (x_move rfl) rfl rfl
    | 1, _ =>
      intro val w1 a hb ha hd
      have ha := ha.sub (Sub.ins (d := 4) (Sub.nil _) rfl)
      exact hs_val ha rfl rfl (fa_129_1 rfl) rfl rfl
    | 2, _ =>
      intro val w1 a hb ha hd
      have e1 : val 1 = .pointer (some ⟨g1, 9, none⟩) := hd 1 (memB_mem.1 rfl)
      have ha := ha.sub (Sub.ins (d := 10) (Sub.nil _) (dep_get rfl e1))
      exact hs_val ha rfl rfl (ld_3 rfl ((q1.below hb q1.lt).at (j := 9) rfl)) rfl rfl
    | 3, _ =>
      intro val w1 a hb ha hd
      have ha := ha.sub (Sub.ins (d := 2) (Sub.nil _) rfl)
      exact hs_val ha rfl rfl (x_move rfl) rfl rfl
    | 4, _ =>
      intro val w1 a hb ha hd
      have e0 : val 0 = .pointer (some ⟨g, 0, none⟩) := hd 0 (memB_mem.1 rfl)
      have e2 : val 2 = .int .i64 (i : Nat) := hd 2 (memB_mem.1 rfl)
      have e3 : val 3 = .int .i64 (t : Nat) := hd 3 (memB_mem.1 rfl)
      have ha := ha.sub (Sub.ins (d := 12) (Sub.ins (d := 11) (Sub.ins (d := 9) (Sub.nil _) (dep_get rfl e0)) (dep_get rfl e2)) (dep_get rfl e3))
      refine hs_call ha rfl rfl (cl_78 rfl rfl rfl) (hlev _ (Below.on hbw hb hbw.size)) rfl ?_
      rintro e w' ⟨rfl, hb'⟩
      exact ⟨_, rfl, hb', rfl⟩
    | 5, _ =>
      intro val w1 a hb ha hd
      have ha := ha.sub (Sub.ins (d := 4) (Sub.nil _) rfl)
      exact hs_val ha rfl rfl (ld_129 rfl ((q1.below hb q1.lt).at (j := 0) rfl) ((q1.below hb q1.lt).at (j := 1) rfl) ((q1.below hb q1.lt).at (j := 2) rfl) ((q1.below hb q1.lt).at (j := 3) rfl) ((q1.below hb q1.lt).at (j := 4) rfl) ((q1.below hb q1.lt).at (j := 5) rfl) ((q1.below hb q1.lt).at (j := 6) rfl) ((q1.below hb q1.lt).at (j := 7) rfl) ((q1.below hb q1.lt).at (j := 8) rfl) ((q1.below hb q1.lt).at (j := 9) rfl) ((q1.below hb q1.lt).at (j := 10) rfl)) rfl rfl
    | 6, _ =>
      intro val w1 a hb ha hd
      have ha := ha.sub (Sub.ins (d := 2) (Sub.nil _) rfl)
      exact hs_val ha rfl rfl (x_move rfl) rfl rfl
    | 7, _ =>
      intro val w1 a hb ha hd
      have e5 : val 5 = .agg (placeV x (.slice A1 n1 c1) (i : Nat) (.slice A l.length c)) := hd 5 (memB_mem.1 rfl)
      have e6 : val 6 = .int .i64 (t : Nat) := hd 6 (memB_mem.1 rfl)
      have ha := ha.sub (Sub.ins (d := 15) (Sub.ins (d := 14) (Sub.nil _) (dep_get rfl e5)) (dep_get rfl e6))
      refine hs_call ha rfl rfl (cl_72 rfl rfl) (hbed _ (Below.on hbw hb hbw.size)) rfl ?_
      rintro e w' ⟨rfl, hb'⟩
      exact ⟨_, rfl, hb', rfl⟩
    | 8, _ =>
      intro val w1 a hb ha hd
      have ha := ha.sub (Sub.nil _)
      exact hs_newP ha rfl rfl al_23 (fun g w' hq _ _ => ⟨g, rfl, hq⟩)
    | 9, _ =>
      intro val w1 a hb ha hd
      have ha := ha.sub (Sub.nil _)
      exact hs_newP ha rfl rfl al_23 (fun g w' hq _ _ => ⟨g, rfl, hq⟩)
    | k + 10, h => exact absurd h (by omega)
  · intro val w' hb halc hd
    have e0 : val 0 = .pointer (some ⟨g, 0, none⟩) := hd 0 (by omega)
    have e1 : val 1 = .pointer (some ⟨g1, 9, none⟩) := hd 1 (by omega)
    have e2 : val 2 = .int .i64 (i : Nat) := hd 2 (by omega)
    have e3 : val 3 = .int .i64 (t : Nat) := hd 3 (by omega)
    have e4 : val 4 = .agg #[.int .i64 ll, .int .i64 lh] := hd 4 (by omega)
    have e5 : val 5 = .agg (placeV x (.slice A1 n1 c1) (i : Nat) (.slice A l.length c)) := hd 5 (by omega)
    have e6 : val 6 = .int .i64 (t : Nat) := hd 6 (by omega)
    have e7 : val 7 = .agg #[.int .i64 bl, .int .i64 bh] := hd 7 (by omega)
    obtain ⟨ga8, e8, qa8⟩ := hd 8 (by omega)
    obtain ⟨ga9, e9, qa9⟩ := hd 9 (by omega)
    refine EL.ends (cs := [.pointer (some ⟨g, 0, none⟩), .pointer (some ⟨g1, 9, none⟩), .int .i64 (i : Nat), .int .i64 (t : Nat), .agg #[.int .i64 ll, .int .i64 lh], .agg (placeV x (.slice A1 n1 c1) (i : Nat) (.slice A l.length c)), .int .i64 (t : Nat), .agg #[.int .i64 bl, .int .i64 bh], .pointer (some ⟨ga8, 0, none⟩), .pointer (some ⟨ga9, 0, none⟩)]) ⟨e0, e1, e2, e3, e4, e5, e6, e7, e8, e9, trivial⟩ rfl ?_
    replace q1 := q1.below hb q1.lt
    replace q2 := q2.below hb q2.lt
    have bge3 := alc_ge halc (i := 8) rfl rfl e8
    have n1_3 : g1 ≠ ga8 := Nat.ne_of_lt (Nat.lt_of_lt_of_le lt_1 bge3)
    have n2_3 : g2 ≠ ga8 := Nat.ne_of_lt (Nat.lt_of_lt_of_le lt_2 bge3)
    have bhbw_3 := Nat.le_trans hbw.size bge3
    have bge4 := alc_ge halc (i := 9) rfl rfl e9
    have n1_4 : g1 ≠ ga9 := Nat.ne_of_lt (Nat.lt_of_lt_of_le lt_1 bge4)
    have n2_4 : g2 ≠ ga9 := Nat.ne_of_lt (Nat.lt_of_lt_of_le lt_2 bge4)
    have n3_4 : ga8 ≠ ga9 := alc_ne halc (i := 8) (j := 9) rfl rfl rfl rfl rfl e8 e9
    have bhbw_4 := Nat.le_trans hbw.size bge4
    replace hbw := Below.on hbw hb hbw.size
    clear hb
    refine EL.store rfl rfl qa8 sz_23 rfl rfl rfl rfl ?_
    intro w5 hq5 hg5
    replace q1 := q1.grown hg5 (fun h => n1_3 (Option.some.inj h))
    replace q2 := q2.grown hg5 (fun h => n2_3 (Option.some.inj h))
    replace qa9 := qa9.grown hg5 (fun h => n3_4.symm (Option.some.inj h))
    replace hbw := below_store hbw hg5 bhbw_3
    replace qa8 := hq5
    clear hg5 hq5
    refine EL.store rfl rfl qa9 sz_23 rfl rfl rfl rfl ?_
    intro w6 hq6 hg6
    replace q1 := q1.grown hg6 (fun h => n1_4 (Option.some.inj h))
    replace q2 := q2.grown hg6 (fun h => n2_4 (Option.some.inj h))
    replace qa8 := qa8.grown hg6 (fun h => n3_4 (Option.some.inj h))
    replace hbw := below_store hbw hg6 bhbw_4
    replace qa9 := hq6
    clear hg6 hq6
    refine EL.nil ?_
    refine EX.seq ?_
    refine EC.seq ?_
    refine EC.region ?_
    refine EL.val (fa_23_0 rfl) rfl ?_
    refine EL.val (ld_3 rfl (qa8.at (j := 0) rfl)) rfl ?_
    refine EL.val (fa_23_1 rfl) rfl ?_
    refine EL.val (ld_3 rfl (qa9.at (j := 1) rfl)) rfl ?_
    refine EL.val (x_sub rfl rfl hw1) rfl ?_
    refine EL.val (mm_max rfl rfl rfl) rfl ?_
    refine EL.val (fa_23_1 rfl) rfl ?_
    refine EL.val (ld_3 rfl (qa8.at (j := 1) rfl)) rfl ?_
    refine EL.val (fa_23_0 rfl) rfl ?_
    refine EL.val (ld_3 rfl (qa9.at (j := 0) rfl)) rfl ?_
    refine EL.val (x_sub rfl rfl hw2) rfl ?_
    refine EL.val (mm_max rfl rfl rfl) rfl ?_
    refine EL.val (bd_23_0_1 rfl rfl) rfl ?_
    refine EL.store rfl rfl q2 sz_23 rfl rfl rfl rfl ?_
    intro w7 hq7 hg7
    replace q1 := q1.grown hg7 (fun h => n1_2 (Option.some.inj h))
    replace qa8 := qa8.grown hg7 (fun h => n2_3.symm (Option.some.inj h))
    replace qa9 := qa9.grown hg7 (fun h => n2_4.symm (Option.some.inj h))
    replace hbw := below_store hbw hg7 bhbw_2
    replace q2 := hq7
    clear hg7 hq7
    refine EL.nil ?_
    refine EX.seq ?_
    refine EC.ret ?_
    exact EX.done (resc1 rfl rfl (lv_23 (q2.at rfl) (q2.at rfl))) ⟨rfl, hbw⟩
end Go.Proofs.Ytncnlhkmdljgpaa
namespace Go.Proofs.Ytncnlhkmdljgpaa
open Go Go.RowKit
theorem river_lens {r : River} (hok : riverB r = true) : lensB r.reaches := by
  have hR := riverB_ok hok
  have hs := hR.some
  simp only [riverB, Bool.and_eq_true] at hok
  exact lens_ok (by omega) fun x hx => by have := (reachB_ok (List.all_eq_true.1 hok.2.2.1 x hx)).len; omega
theorem withinB1 (p lo hi : Int) (b : Bool) (w : World) {g T : Nat} (hq : Blk w g T #[.int .i64 p]) (h : inB lo hi p = b) :
    Calls Try.prog 57 #[.int .i64 lo, .int .i64 hi, .slice (some ⟨g, 0, none⟩) 1 1] w fun e w' => e = .returned (.bool b) ∧ Below w.heap.size w w' := by
  have := within_any [p] lo hi _ 1 w w.heap.size (rd_one (l := [.int .i64 p]) hq rfl) (Nat.le_refl _) (by omega)
  have e : [p].all (inB lo hi) = b := by simp [h]
  rw [e] at this
  exact this
theorem withinB2 (p q lo hi : Int) (b : Bool) (w : World) {g T : Nat} (hq : Blk w g T #[.int .i64 p, .int .i64 q]) (h : (inB lo hi p && inB lo hi q) = b) :
    Calls Try.prog 57 #[.int .i64 lo, .int .i64 hi, .slice (some ⟨g, 0, none⟩) 2 2] w fun e w' => e = .returned (.bool b) ∧ Below w.heap.size w w' := by
  have := within_any [p, q] lo hi (.slice (some ⟨g, 0, none⟩) 2 2) 2 w w.heap.size ⟨rfl, _, _, rfl, Nat.le_refl _, fun _ => ⟨g, 0, rfl, hq.lt, fun j u hu => by rw [Nat.zero_add, hq.cell]; simpa [ints] using hu⟩⟩ (Nat.le_refl _) (by omega)
  have e : [p, q].all (inB lo hi) = b := by simp [h]
  rw [e] at this
  exact this
theorem find_bad (r : River) (v u : Value) (vs : List Value) (p : Int) (w : World) (B : Nat) (hr : RdRiver w B v u r vs) (hB : B ≤ w.heap.size) (hok : riverB r = true) (hp : inB 0 (placesOf r.reaches - 1) p = false) :
    Calls Try.prog 71 #[.agg #[v, u], .int .i64 p] w fun e w' => e = .returned (.tuple #[.agg (placeV reach0 (.slice none 0 0) 0 (.slice none 0 0)), .bool false]) ∧ Below w.heap.size w w' := by
  have hR := riverB_ok hok
  have hpl := hR.places
  have hl : r.reaches.length ≤ 1048576 := by have := hR.some; omega
  have hlb : lensB r.reaches := river_lens hok
  have hsub : IntKind.i64.wrap (placesOf r.reaches - 1) = placesOf r.reaches - 1 := IntWalk.i64_in _ ⟨by omega, by omega⟩
  obtain ⟨A, c, rfl, _⟩ := hr.reaches.shape
  obtain ⟨A', c', rfl, _⟩ := hr.shoals.shape
  have hbw := Below.refl w.heap.size w
  refine EC.enter 60 Try.func71 rfl rfl rfl ?_
  refine EC.seq ?_
  refine EC.region ?_
  refine EL.newP (bx_47 rfl) rfl ?_
  intro g1 w1 q1 hb1 hg1 hl1
  have bhbw_1 := Nat.le_trans hbw.size hg1
  replace hbw := Below.on hbw hb1 hbw.size
  clear hb1 hg1 hl1
  refine EL.newP al_129 rfl ?_
  intro g2 w2 q2 hb2 hg2 hl2
  have n1_2 : g1 ≠ g2 := Nat.ne_of_lt (Nat.lt_of_lt_of_le q1.lt hg2)
  have bhbw_2 := Nat.le_trans hbw.size hg2
  replace q1 := q1.below hb2 q1.lt
  replace hbw := Below.on hbw hb2 hbw.size
  clear hb2 hg2 hl2
  refine EL.val (x_assign rfl) rfl ?_
  refine EL.nil ?_
  refine EX.seq ?_
  refine EC.seq ?_
  refine EC.seq ?_
  refine EC.region ?_
  refine EL.val (ld_47 rfl (q1.at (j := 0) rfl) (q1.at (j := 1) rfl)) rfl ?_
  refine EL.call (cl_68 rfl) rfl (length_any r _ _ vs _ B (hr.below (hbw.mono hB)) (Nat.le_trans hB hbw.size) hl hlb) ?_
  rintro e w3 ⟨rfl, hc3⟩
  refine ⟨_, rfl, ?_⟩
  replace q1 := q1.below hc3 q1.lt
  replace q2 := q2.below hc3 q2.lt
  replace hbw := Below.on hbw hc3 hbw.size
  clear hc3
  refine EL.val (x_sub rfl rfl hsub) rfl ?_
  refine EL.val (x_move rfl) rfl ?_
  refine EL.newS (bs_121_1 rfl) rfl ?_
  intro g4 w4 q4 hb4 hg4 hl4
  have n1_4 : g1 ≠ g4 := Nat.ne_of_lt (Nat.lt_of_lt_of_le q1.lt hg4)
  have n2_4 : g2 ≠ g4 := Nat.ne_of_lt (Nat.lt_of_lt_of_le q2.lt hg4)
  have bhbw_4 := Nat.le_trans hbw.size hg4
  replace q1 := q1.below hb4 q1.lt
  replace q2 := q2.below hb4 q2.lt
  replace hbw := Below.on hbw hb4 hbw.size
  clear hb4 hg4 hl4
  refine EL.call (cl_57 rfl rfl rfl) rfl (withinB1 _ _ _ false _ q4 hp) ?_
  rintro e w5 ⟨rfl, hc5⟩
  refine ⟨_, rfl, ?_⟩
  replace q1 := q1.below hc5 q1.lt
  replace q2 := q2.below hc5 q2.lt
  replace q4 := q4.below hc5 q4.lt
  replace hbw := Below.on hbw hc5 hbw.size
  clear hc5
  refine EL.val (x_not rfl) rfl ?_
  refine EL.nil ?_
  refine EX.seq ?_
  refine EC.yes rfl ?_
  refine EC.seq ?_
  refine EC.region ?_
  refine EL.val (ld_129 rfl (q2.at (j := 0) rfl) (q2.at (j := 1) rfl) (q2.at (j := 2) rfl) (q2.at (j := 3) rfl) (q2.at (j := 4) rfl) (q2.at (j := 5) rfl) (q2.at (j := 6) rfl) (q2.at (j := 7) rfl) (q2.at (j := 8) rfl) (q2.at (j := 9) rfl) (q2.at (j := 10) rfl)) rfl ?_
  refine EL.store rfl rfl q2 sz_129 rfl rfl rfl rfl ?_
  intro w6 hq6 hg6
  replace q1 := q1.grown hg6 (fun h => n1_2 (Option.some.inj h))
  replace hbw := below_store hbw hg6 bhbw_2
  replace q2 := hq6
  clear hg6 hq6
  refine EL.val (x_assign rfl) rfl ?_
  refine EL.nil ?_
  refine EX.seq ?_
  refine EC.ret ?_
  refine EX.seq_ret ?_
  exact EX.done (resct rfl rfl rfl (lv_129 (q2.at rfl) (q2.at rfl) (q2.at rfl) (q2.at rfl) (q2.at rfl) (q2.at rfl) (q2.at rfl) (q2.at rfl) (q2.at rfl) (q2.at rfl) (q2.at rfl))) ⟨rfl, hbw⟩
theorem find_ok (r : River) (v u : Value) (vs : List Value) (p : Int) (w : World) (B : Nat) (hr : RdRiver w B v u r vs) (hB : B ≤ w.heap.size) (hok : riverB r = true) (hp : inB 0 (placesOf r.reaches - 1) p = true) :
    Calls Try.prog 71 #[.agg #[v, u], .int .i64 p] w fun e w' => (∃ A1 n1 c1 A n c, e = .returned (.tuple #[.agg (placeV (r.reaches.getD (reachOf r.reaches p) reach0) (.slice A1 n1 c1) (reachOf r.reaches p : Nat) (.slice A n c)), .bool true]) ∧ w'.ownsRow w.heap.size 97 6 (.slice A n c) (shoalsAt r.shoals p).length (shoalsC (shoalsAt r.shoals p))) ∧ Below w.heap.size w w' := by
  have hR := riverB_ok hok
  have hlt : reachOf r.reaches p < r.reaches.length := reachOf_lt _ _ (by have := inB_iff.1 hp; omega) (by have := inB_iff.1 hp; omega)
  obtain ⟨A1, c1, e1, _⟩ := (hr.reaches.curve _ hlt).shape
  refine (find_any r v u vs p w B hr hB hok).mono fun e w' h => ?_
  obtain ⟨h | ⟨_, A, n, c, h1, h2⟩, hb⟩ := h
  · rw [hp] at h; exact absurd h.1 (by simp)
  · rw [e1] at h1
    exact ⟨⟨_, _, _, _, _, _, h1, h2⟩, hb⟩
theorem open_bad (r : River) (sides : List (List Bd)) (v u s : Value) (vs ss : List Value) (w : World) (B : Nat) (hr : RdRiver w B v u r vs) (hs : RdSides w B s sides ss) (hB : B ≤ w.heap.size)
    (hl : r.reaches.length ≤ 1048576) (hl2 : r.shoals.length ≤ 1048576) (hcv : CurvesB r.reaches) (hl3 : sides.length ≤ 1048576) (hsb : SidesB sides) (he : startErr r sides ≠ 0) :
    Calls Try.prog 73 #[.agg #[v, u], s] w fun e w' => e = .returned (.tuple #[.pointer none, .int .i64 (startErr r sides)]) ∧ Below w.heap.size w w' := by
  refine (open_any r sides v u s vs ss w B hr hs hB hl hl2 hcv hl3 hsb).mono fun e w' h => ?_
  obtain ⟨⟨_, h1⟩ | ⟨h1, _⟩, hb⟩ := h
  · exact ⟨h1, hb⟩
  · exact absurd h1 he
theorem open_ok (r : River) (sides : List (List Bd)) (v u s : Value) (vs ss : List Value) (w : World) (B : Nat) (hr : RdRiver w B v u r vs) (hs : RdSides w B s sides ss) (hB : B ≤ w.heap.size)
    (hl : r.reaches.length ≤ 1048576) (hl2 : r.shoals.length ≤ 1048576) (hcv : CurvesB r.reaches) (hl3 : sides.length ≤ 1048576) (hsb : SidesB sides) (he : startErr r sides = 0) :
    Calls Try.prog 73 #[.agg #[v, u], s] w fun e w' => (∃ g vf fs, e = .returned (.tuple #[.pointer (some ⟨g, 0, none⟩), .int .i64 0]) ∧ w.heap.size ≤ g ∧ StreamOk w' w'.heap.size g r sides v u vf vs fs ∧ Stream w' (g + 1) g v u vf fs (flowsUp r.reaches sides sides.length)) ∧ Below w.heap.size w w' := by
  refine (open_any r sides v u s vs ss w B hr hs hB hl hl2 hcv hl3 hsb).mono fun e w' h => ?_
  obtain ⟨⟨h1, _⟩ | ⟨_, g, vf, fs, h1, h2, h3⟩, hb⟩ := h
  · exact absurd he h1
  · exact ⟨⟨g, vf, fs, h1, h2, ⟨(startErr_ok he).2, h3.blk, h3.blk.lt, (hr.below (hb.mono hB)).more (Nat.le_trans hB hb.size), h3.sides⟩, h3⟩, hb⟩
theorem loc_none {w : World} {B g : Nat} {r : River} {sides : List (List Bd)} {v u vf : Value} {vs fs : List Value} (h : StreamOk w B g r sides v u vf vs fs) (hB : B ≤ w.heap.size) (hok : riverB r = true) (p t : Int) (hp : inB 0 (placesOf r.reaches - 1) p = false) :
    Calls Try.prog 74 #[.pointer (some ⟨g, 0, none⟩), .int .i64 p, .int .i64 t] w fun e w' => e = .returned (.tuple #[.agg (placeV reach0 (.slice none 0 0) 0 (.slice none 0 0)), .int .i64 7]) ∧ Below w.heap.size w w' := by
  have hS := h.blk
  have hh := h.ok.hours
  have hsub : IntKind.i64.wrap ((((sides.getD 0 []).length : Nat) : Int) - 1) = (((sides.getD 0 []).length : Nat) : Int) - 1 := IntWalk.i64_in _ ⟨by omega, by omega⟩
  have hbw := Below.refl w.heap.size w
  refine EC.enter 32 Try.func74 rfl rfl rfl ?_
  refine EC.seq ?_
  refine EC.region ?_
  refine EL.newP al_129 rfl ?_
  intro g1 w1 q1 hb1 hg1 hl1
  have n0_1 : g ≠ g1 := Nat.ne_of_lt (Nat.lt_of_lt_of_le hS.lt hg1)
  have bhbw_1 := Nat.le_trans hbw.size hg1
  replace hS := hS.below hb1 hS.lt
  replace hbw := Below.on hbw hb1 hbw.size
  clear hb1 hg1 hl1
  refine EL.val (x_assign rfl) rfl ?_
  refine EL.nil ?_
  refine EX.seq ?_
  refine EC.seq ?_
  refine EC.region ?_
  refine EL.val (x_move rfl) rfl ?_
  refine EL.val (x_nilCheck rfl) rfl ?_
  refine EL.val (fa_141_0 rfl) rfl ?_
  refine EL.val (ld_47 rfl (hS.at (j := 0) rfl) (hS.at (j := 1) rfl)) rfl ?_
  refine EL.val (x_move rfl) rfl ?_
  refine EL.call (cl_71 rfl rfl) rfl (find_bad r _ _ vs p _ B (h.below (hbw.mono hB)).river (Nat.le_trans hB hbw.size) hok hp) ?_
  rintro e w2 ⟨rfl, hc2⟩
  refine ⟨_, rfl, ?_⟩
  replace hS := hS.below hc2 hS.lt
  replace q1 := q1.below hc2 q1.lt
  replace hbw := Below.on hbw hc2 hbw.size
  clear hc2
  refine EL.val (x_move rfl) rfl ?_
  refine EL.val (x_extract rfl rfl) rfl ?_
  refine EL.val (x_extract rfl rfl) rfl ?_
  refine EL.store rfl rfl q1 sz_129 rfl rfl rfl rfl ?_
  intro w3 hq3 hg3
  replace hS := hS.grown hg3 (fun h => n0_1 (Option.some.inj h))
  replace hbw := below_store hbw hg3 bhbw_1
  replace q1 := hq3
  clear hg3 hq3
  refine EL.val (x_assign rfl) rfl ?_
  refine EL.nil ?_
  refine EX.seq ?_
  refine EC.seq ?_
  refine EC.block ?_
  refine EC.seq ?_
  refine EC.region ?_
  refine EL.val (x_move rfl) rfl ?_
  refine EL.val (x_not rfl) rfl ?_
  refine EL.val (x_assign rfl) rfl ?_
  refine EL.nil ?_
  refine EX.seq ?_
  refine EC.yes rfl ?_
  refine EC.seq ?_
  refine EC.region ?_
  refine EL.val (ld_129 rfl (q1.at (j := 0) rfl) (q1.at (j := 1) rfl) (q1.at (j := 2) rfl) (q1.at (j := 3) rfl) (q1.at (j := 4) rfl) (q1.at (j := 5) rfl) (q1.at (j := 6) rfl) (q1.at (j := 7) rfl) (q1.at (j := 8) rfl) (q1.at (j := 9) rfl) (q1.at (j := 10) rfl)) rfl ?_
  refine EL.store rfl rfl q1 sz_129 rfl rfl rfl rfl ?_
  intro w4 hq4 hg4
  replace hS := hS.grown hg4 (fun h => n0_1 (Option.some.inj h))
  replace hbw := below_store hbw hg4 bhbw_1
  replace q1 := hq4
  clear hg4 hq4
  refine EL.val (x_assign rfl) rfl ?_
  refine EL.nil ?_
  refine EX.seq ?_
  refine EC.ret ?_
  refine EX.blk_ret ?_
  refine EX.seq_ret ?_
  exact EX.done (resct rfl rfl rfl (lv_129 (q1.at rfl) (q1.at rfl) (q1.at rfl) (q1.at rfl) (q1.at rfl) (q1.at rfl) (q1.at rfl) (q1.at rfl) (q1.at rfl) (q1.at rfl) (q1.at rfl))) ⟨rfl, hbw⟩
theorem loc_range {w : World} {B g : Nat} {r : River} {sides : List (List Bd)} {v u vf : Value} {vs fs : List Value} (h : StreamOk w B g r sides v u vf vs fs) (hB : B ≤ w.heap.size) (hok : riverB r = true) (p t : Int) (hp : inB 0 (placesOf r.reaches - 1) p = true) (ht : inB 0 (((sides.getD 0 []).length : Nat) - 1 : Int) t = false) :
    Calls Try.prog 74 #[.pointer (some ⟨g, 0, none⟩), .int .i64 p, .int .i64 t] w fun e w' => (∃ A1 n1 c1 A n c, e = .returned (.tuple #[.agg (placeV (r.reaches.getD (reachOf r.reaches p) reach0) (.slice A1 n1 c1) (reachOf r.reaches p : Nat) (.slice A n c)), .int .i64 3]) ∧ Rd w' w'.heap.size 6 (.slice A n c) (shoalsAt r.shoals p).length (shoalsC (shoalsAt r.shoals p))) ∧ Below w.heap.size w w' := by
  have hS := h.blk
  have hh := h.ok.hours
  have hsub : IntKind.i64.wrap ((((sides.getD 0 []).length : Nat) : Int) - 1) = (((sides.getD 0 []).length : Nat) : Int) - 1 := IntWalk.i64_in _ ⟨by omega, by omega⟩
  have hbw := Below.refl w.heap.size w
  refine EC.enter 32 Try.func74 rfl rfl rfl ?_
  refine EC.seq ?_
  refine EC.region ?_
  refine EL.newP al_129 rfl ?_
  intro g1 w1 q1 hb1 hg1 hl1
  have n0_1 : g ≠ g1 := Nat.ne_of_lt (Nat.lt_of_lt_of_le hS.lt hg1)
  have bhbw_1 := Nat.le_trans hbw.size hg1
  replace hS := hS.below hb1 hS.lt
  replace hbw := Below.on hbw hb1 hbw.size
  clear hb1 hg1 hl1
  refine EL.val (x_assign rfl) rfl ?_
  refine EL.nil ?_
  refine EX.seq ?_
  refine EC.seq ?_
  refine EC.region ?_
  refine EL.val (x_move rfl) rfl ?_
  refine EL.val (x_nilCheck rfl) rfl ?_
  refine EL.val (fa_141_0 rfl) rfl ?_
  refine EL.val (ld_47 rfl (hS.at (j := 0) rfl) (hS.at (j := 1) rfl)) rfl ?_
  refine EL.val (x_move rfl) rfl ?_
  have lo_0 := hS.lt
  have lo_1 := q1.lt
  refine EL.call (cl_71 rfl rfl) rfl (find_ok r _ _ vs p _ B (h.below (hbw.mono hB)).river (Nat.le_trans hB hbw.size) hok hp) ?_
  rintro e w2 ⟨⟨A1, n1, c1, A, n, c, rfl, ho⟩, hc2⟩
  refine ⟨_, rfl, ?_⟩
  replace hS := hS.below hc2 hS.lt
  replace q1 := q1.below hc2 q1.lt
  replace hbw := Below.on hbw hc2 hbw.size
  clear hc2
  refine EL.val (x_move rfl) rfl ?_
  refine EL.val (x_extract rfl rfl) rfl ?_
  refine EL.val (x_extract rfl rfl) rfl ?_
  refine EL.store rfl rfl q1 sz_129 rfl rfl rfl rfl ?_
  intro w3 hq3 hg3
  replace hS := hS.grown hg3 (fun h => n0_1 (Option.some.inj h))
  replace ho := own_far ho hg3 lo_1
  replace hbw := below_store hbw hg3 bhbw_1
  replace q1 := hq3
  clear hg3 hq3
  refine EL.val (x_assign rfl) rfl ?_
  refine EL.nil ?_
  refine EX.seq ?_
  refine EC.seq ?_
  refine EC.block ?_
  refine EC.seq ?_
  refine EC.region ?_
  refine EL.val (x_move rfl) rfl ?_
  refine EL.val (x_not rfl) rfl ?_
  refine EL.val (x_assign rfl) rfl ?_
  refine EL.nil ?_
  refine EX.seq ?_
  refine EC.no rfl ?_
  refine EC.seq ?_
  refine EC.region ?_
  refine EL.val (x_move rfl) rfl ?_
  refine EL.call (cl_77 rfl) rfl (hours_any (h.below (hbw.mono hB))) ?_
  rintro e _ ⟨rfl, rfl⟩
  refine ⟨_, rfl, ?_⟩
  refine EL.val (x_sub rfl rfl hsub) rfl ?_
  refine EL.val (x_move rfl) rfl ?_
  refine EL.newS (bs_121_1 rfl) rfl ?_
  intro g4 w4 q4 hb4 hg4 hl4
  have n0_4 : g ≠ g4 := Nat.ne_of_lt (Nat.lt_of_lt_of_le hS.lt hg4)
  have n1_4 : g1 ≠ g4 := Nat.ne_of_lt (Nat.lt_of_lt_of_le q1.lt hg4)
  have bhbw_4 := Nat.le_trans hbw.size hg4
  replace hS := hS.below hb4 hS.lt
  replace q1 := q1.below hb4 q1.lt
  replace ho := own_below ho hb4 (Nat.le_refl _)
  replace hbw := Below.on hbw hb4 hbw.size
  clear hb4 hg4 hl4
  refine EL.call (cl_57 rfl rfl rfl) rfl (withinB1 _ _ _ false _ q4 ht) ?_
  rintro e w5 ⟨rfl, hc5⟩
  refine ⟨_, rfl, ?_⟩
  replace hS := hS.below hc5 hS.lt
  replace q1 := q1.below hc5 q1.lt
  replace q4 := q4.below hc5 q4.lt
  replace ho := own_below ho hc5 (Nat.le_refl _)
  replace hbw := Below.on hbw hc5 hbw.size
  clear hc5
  refine EL.val (x_not rfl) rfl ?_
  refine EL.val (x_assign rfl) rfl ?_
  refine EL.nil ?_
  refine EX.seq ?_
  refine EC.yes rfl ?_
  refine EC.seq ?_
  refine EC.region ?_
  refine EL.val (ld_129 rfl (q1.at (j := 0) rfl) (q1.at (j := 1) rfl) (q1.at (j := 2) rfl) (q1.at (j := 3) rfl) (q1.at (j := 4) rfl) (q1.at (j := 5) rfl) (q1.at (j := 6) rfl) (q1.at (j := 7) rfl) (q1.at (j := 8) rfl) (q1.at (j := 9) rfl) (q1.at (j := 10) rfl)) rfl ?_
  refine EL.store rfl rfl q1 sz_129 rfl rfl rfl rfl ?_
  intro w6 hq6 hg6
  replace hS := hS.grown hg6 (fun h => n0_1 (Option.some.inj h))
  replace ho := own_far ho hg6 lo_1
  replace hbw := below_store hbw hg6 bhbw_1
  replace q1 := hq6
  clear hg6 hq6
  refine EL.val (x_assign rfl) rfl ?_
  refine EL.nil ?_
  refine EX.seq ?_
  refine EC.ret ?_
  refine EX.blk_ret ?_
  refine EX.seq_ret ?_
  exact EX.done (resct rfl rfl rfl (lv_129 (q1.at rfl) (q1.at rfl) (q1.at rfl) (q1.at rfl) (q1.at rfl) (q1.at rfl) (q1.at rfl) (q1.at rfl) (q1.at rfl) (q1.at rfl) (q1.at rfl))) ⟨⟨_, _, _, _, _, _, rfl, Rd.of_own ho⟩, hbw⟩
theorem loc_ok {w : World} {B g : Nat} {r : River} {sides : List (List Bd)} {v u vf : Value} {vs fs : List Value} (h : StreamOk w B g r sides v u vf vs fs) (hB : B ≤ w.heap.size) (hok : riverB r = true) (p t : Int) (hp : inB 0 (placesOf r.reaches - 1) p = true) (ht : inB 0 (((sides.getD 0 []).length : Nat) - 1 : Int) t = true) :
    Calls Try.prog 74 #[.pointer (some ⟨g, 0, none⟩), .int .i64 p, .int .i64 t] w fun e w' => (∃ A1 n1 c1 A n c, e = .returned (.tuple #[.agg (placeV (r.reaches.getD (reachOf r.reaches p) reach0) (.slice A1 n1 c1) (reachOf r.reaches p : Nat) (.slice A n c)), .int .i64 0]) ∧ Rd w' w'.heap.size 6 (.slice A n c) (shoalsAt r.shoals p).length (shoalsC (shoalsAt r.shoals p))) ∧ Below w.heap.size w w' := by
  have hS := h.blk
  have hh := h.ok.hours
  have hsub : IntKind.i64.wrap ((((sides.getD 0 []).length : Nat) : Int) - 1) = (((sides.getD 0 []).length : Nat) : Int) - 1 := IntWalk.i64_in _ ⟨by omega, by omega⟩
  have hbw := Below.refl w.heap.size w
  refine EC.enter 32 Try.func74 rfl rfl rfl ?_
  refine EC.seq ?_
  refine EC.region ?_
  refine EL.newP al_129 rfl ?_
  intro g1 w1 q1 hb1 hg1 hl1
  have n0_1 : g ≠ g1 := Nat.ne_of_lt (Nat.lt_of_lt_of_le hS.lt hg1)
  have bhbw_1 := Nat.le_trans hbw.size hg1
  replace hS := hS.below hb1 hS.lt
  replace hbw := Below.on hbw hb1 hbw.size
  clear hb1 hg1 hl1
  refine EL.val (x_assign rfl) rfl ?_
  refine EL.nil ?_
  refine EX.seq ?_
  refine EC.seq ?_
  refine EC.region ?_
  refine EL.val (x_move rfl) rfl ?_
  refine EL.val (x_nilCheck rfl) rfl ?_
  refine EL.val (fa_141_0 rfl) rfl ?_
  refine EL.val (ld_47 rfl (hS.at (j := 0) rfl) (hS.at (j := 1) rfl)) rfl ?_
  refine EL.val (x_move rfl) rfl ?_
  have lo_0 := hS.lt
  have lo_1 := q1.lt
  refine EL.call (cl_71 rfl rfl) rfl (find_ok r _ _ vs p _ B (h.below (hbw.mono hB)).river (Nat.le_trans hB hbw.size) hok hp) ?_
  rintro e w2 ⟨⟨A1, n1, c1, A, n, c, rfl, ho⟩, hc2⟩
  refine ⟨_, rfl, ?_⟩
  replace hS := hS.below hc2 hS.lt
  replace q1 := q1.below hc2 q1.lt
  replace hbw := Below.on hbw hc2 hbw.size
  clear hc2
  refine EL.val (x_move rfl) rfl ?_
  refine EL.val (x_extract rfl rfl) rfl ?_
  refine EL.val (x_extract rfl rfl) rfl ?_
  refine EL.store rfl rfl q1 sz_129 rfl rfl rfl rfl ?_
  intro w3 hq3 hg3
  replace hS := hS.grown hg3 (fun h => n0_1 (Option.some.inj h))
  replace ho := own_far ho hg3 lo_1
  replace hbw := below_store hbw hg3 bhbw_1
  replace q1 := hq3
  clear hg3 hq3
  refine EL.val (x_assign rfl) rfl ?_
  refine EL.nil ?_
  refine EX.seq ?_
  refine EC.seq ?_
  refine EC.block ?_
  refine EC.seq ?_
  refine EC.region ?_
  refine EL.val (x_move rfl) rfl ?_
  refine EL.val (x_not rfl) rfl ?_
  refine EL.val (x_assign rfl) rfl ?_
  refine EL.nil ?_
  refine EX.seq ?_
  refine EC.no rfl ?_
  refine EC.seq ?_
  refine EC.region ?_
  refine EL.val (x_move rfl) rfl ?_
  refine EL.call (cl_77 rfl) rfl (hours_any (h.below (hbw.mono hB))) ?_
  rintro e _ ⟨rfl, rfl⟩
  refine ⟨_, rfl, ?_⟩
  refine EL.val (x_sub rfl rfl hsub) rfl ?_
  refine EL.val (x_move rfl) rfl ?_
  refine EL.newS (bs_121_1 rfl) rfl ?_
  intro g4 w4 q4 hb4 hg4 hl4
  have n0_4 : g ≠ g4 := Nat.ne_of_lt (Nat.lt_of_lt_of_le hS.lt hg4)
  have n1_4 : g1 ≠ g4 := Nat.ne_of_lt (Nat.lt_of_lt_of_le q1.lt hg4)
  have bhbw_4 := Nat.le_trans hbw.size hg4
  replace hS := hS.below hb4 hS.lt
  replace q1 := q1.below hb4 q1.lt
  replace ho := own_below ho hb4 (Nat.le_refl _)
  replace hbw := Below.on hbw hb4 hbw.size
  clear hb4 hg4 hl4
  refine EL.call (cl_57 rfl rfl rfl) rfl (withinB1 _ _ _ true _ q4 ht) ?_
  rintro e w5 ⟨rfl, hc5⟩
  refine ⟨_, rfl, ?_⟩
  replace hS := hS.below hc5 hS.lt
  replace q1 := q1.below hc5 q1.lt
  replace q4 := q4.below hc5 q4.lt
  replace ho := own_below ho hc5 (Nat.le_refl _)
  replace hbw := Below.on hbw hc5 hbw.size
  clear hc5
  refine EL.val (x_not rfl) rfl ?_
  refine EL.val (x_assign rfl) rfl ?_
  refine EL.nil ?_
  refine EX.seq ?_
  refine EC.no rfl ?_
  refine EC.skip ?_
  refine EX.blk ?_
  refine EX.seq ?_
  refine EC.seq ?_
  refine EC.region ?_
  refine EL.val (ld_129 rfl (q1.at (j := 0) rfl) (q1.at (j := 1) rfl) (q1.at (j := 2) rfl) (q1.at (j := 3) rfl) (q1.at (j := 4) rfl) (q1.at (j := 5) rfl) (q1.at (j := 6) rfl) (q1.at (j := 7) rfl) (q1.at (j := 8) rfl) (q1.at (j := 9) rfl) (q1.at (j := 10) rfl)) rfl ?_
  refine EL.store rfl rfl q1 sz_129 rfl rfl rfl rfl ?_
  intro w6 hq6 hg6
  replace hS := hS.grown hg6 (fun h => n0_1 (Option.some.inj h))
  replace ho := own_far ho hg6 lo_1
  replace hbw := below_store hbw hg6 bhbw_1
  replace q1 := hq6
  clear hg6 hq6
  refine EL.val (x_assign rfl) rfl ?_
  refine EL.nil ?_
  refine EX.seq ?_
  refine EC.ret ?_
  exact EX.done (resct rfl rfl rfl (lv_129 (q1.at rfl) (q1.at rfl) (q1.at rfl) (q1.at rfl) (q1.at rfl) (q1.at rfl) (q1.at rfl) (q1.at rfl) (q1.at rfl) (q1.at rfl) (q1.at rfl))) ⟨⟨_, _, _, _, _, _, rfl, Rd.of_own ho⟩, hbw⟩
theorem depth_fit {w : World} {B C g : Nat} {r : River} {sides : List (List Bd)} {v u vf : Value} {vs fs : List Value} (h : StreamOk w B g r sides v u vf vs fs) (hB : B ≤ w.heap.size) {p t : Int} {A1 A : Option Addr} {n1 c1 n c : Nat} (hl : Rd w C 6 (.slice A n c) (shoalsAt r.shoals p).length (shoalsC (shoalsAt r.shoals p))) (hC : C ≤ w.heap.size) (hok : riverB r = true) (hp : inB 0 (placesOf r.reaches - 1) p = true) (ht : inB 0 (((sides.getD 0 []).length : Nat) - 1 : Int) t = true) :
    Calls Try.prog 75 #[.pointer (some ⟨g, 0, none⟩), .agg (placeV (r.reaches.getD (reachOf r.reaches p) reach0) (.slice A1 n1 c1) (reachOf r.reaches p : Nat) (.slice A n c)), .int .i64 t] w fun e w' =>
      e = .returned (.agg #[.int .i64 (depthAt r sides p t).lo, .int .i64 (depthAt r sides p t).hi]) ∧ Below w.heap.size w w' := by
  have hR := riverB_ok hok
  have hp' := inB_iff.1 hp
  have ht' := inB_iff.1 ht
  have hlt : reachOf r.reaches p < r.reaches.length := reachOf_lt _ _ (by omega) (by omega)
  have et : t = (t.toNat : Int) := by omega
  have en : n = (shoalsAt r.shoals p).length := by obtain ⟨_, _, _, e, _⟩ := hl; injection e
  subst en
  rw [et]
  have hB' : max B C ≤ w.heap.size := by omega
  exact depth_any (B := max B C) ⟨h.ok, h.blk, Nat.lt_of_lt_of_le h.gB (by omega), h.river.more (by omega), ⟨h.flows.len, h.flows.rd.more (by omega), fun i hi => (h.flows.side i hi).more (by omega)⟩⟩ hB' _ t.toNat hlt (by omega) A1 n1 c1 A c _ (hl.more (by omega)) (fun j hj => by
    have hm : (shoalsAt r.shoals p).getD j shoal0 ∈ r.shoals := (List.mem_filter.1 (show _ ∈ r.shoals.filter _ from getD_mem hj)).1
    simp only [riverB, Bool.and_eq_true] at hok
    exact List.all_eq_true.1 hok.2.2.2 _ hm) (Nat.le_trans (List.length_filter_le _ _) hR.few)
theorem dep_ok (r : River) (sides : List (List Bd)) (v u s : Value) (vs ss : List Value) (w : World) (B : Nat) (hr : RdRiver w B v u r vs) (hs : RdSides w B s sides ss) (hB : B ≤ w.heap.size) (hl : r.reaches.length ≤ 1048576) (hl2 : r.shoals.length ≤ 1048576) (hcv : CurvesB r.reaches) (hl3 : sides.length ≤ 1048576) (hsb : SidesB sides) (p t : Int) (he : startErr r sides = 0) (hp : inB 0 (placesOf r.reaches - 1) p = true) (ht : inB 0 (((sides.getD 0 []).length : Nat) - 1 : Int) t = true) :
    Calls Try.prog 33 #[.agg #[v, u], s, .int .i64 p, .int .i64 t] w fun e w' => e = .returned (.tuple #[.agg #[.int .i64 (depthAt r sides p t).lo, .int .i64 (depthAt r sides p t).hi], .int .i64 0]) ∧ Below w.heap.size w w' := by
  obtain ⟨A_, c_, rfl, _⟩ := hr.reaches.shape
  obtain ⟨A_', c_', rfl, _⟩ := hr.shoals.shape
  have hok := (startErr_ok he).1
  have hbw := Below.refl w.heap.size w
  refine EC.enter 38 Try.func33 rfl rfl rfl ?_
  refine EC.seq ?_
  refine EC.region ?_
  refine EL.newP (bx_47 rfl) rfl ?_
  intro g1 w1 q1 hb1 hg1 hl1
  have bhbw_1 := Nat.le_trans hbw.size hg1
  replace hbw := Below.on hbw hb1 hbw.size
  clear hb1 hg1 hl1
  refine EL.newP al_23 rfl ?_
  intro g2 w2 q2 hb2 hg2 hl2
  have n1_2 : g1 ≠ g2 := Nat.ne_of_lt (Nat.lt_of_lt_of_le q1.lt hg2)
  have bhbw_2 := Nat.le_trans hbw.size hg2
  replace q1 := q1.below hb2 q1.lt
  replace hbw := Below.on hbw hb2 hbw.size
  clear hb2 hg2 hl2
  refine EL.val (x_assign rfl) rfl ?_
  refine EL.nil ?_
  refine EX.seq ?_
  refine EC.seq ?_
  refine EC.region ?_
  refine EL.val (ld_47 rfl (q1.at (j := 0) rfl) (q1.at (j := 1) rfl)) rfl ?_
  refine EL.val (x_move rfl) rfl ?_
  have lo_1 := q1.lt
  have lo_2 := q2.lt
  refine EL.call (cl_73 rfl rfl) rfl (open_ok r sides _ _ _ vs ss _ B (hr.below (hbw.mono hB)) (hs.below (hbw.mono hB)) (Nat.le_trans hB hbw.size) hl hl2 hcv hl3 hsb he) ?_
  rintro e w3 ⟨⟨g, vf, fs, rfl, hge, hst, hrow⟩, hc3⟩
  refine ⟨_, rfl, ?_⟩
  replace q1 := q1.below hc3 q1.lt
  replace q2 := q2.below hc3 q2.lt
  replace hbw := Below.on hbw hc3 hbw.size
  have hso := Below.refl w3.heap.size w3
  clear hc3
  refine EL.val (x_move rfl) rfl ?_
  refine EL.val (x_extract rfl rfl) rfl ?_
  refine EL.val (x_extract rfl rfl) rfl ?_
  refine EL.val (x_assign rfl) rfl ?_
  refine EL.val (x_assign rfl) rfl ?_
  refine EL.nil ?_
  refine EX.seq ?_
  refine EC.seq ?_
  refine EC.seq ?_
  refine EC.region ?_
  refine EL.val (x_move rfl) rfl ?_
  refine EL.val (x_neq rfl rfl (by first | assumption | exact decide_eq_false (by omega))) rfl ?_
  refine EL.nil ?_
  refine EX.seq ?_
  refine EC.no rfl ?_
  refine EC.skip ?_
  refine EX.seq ?_
  refine EC.seq ?_
  refine EC.region ?_
  refine EL.val (x_move rfl) rfl ?_
  refine EL.val (x_move rfl) rfl ?_
  refine EL.val (x_move rfl) rfl ?_
  have lp_1 := q1.lt
  have lp_2 := q2.lt
  refine EL.call (cl_74 rfl rfl rfl) rfl (loc_ok (hst.below hso) hso.size hok _ _ hp ht) ?_
  rintro e w4 ⟨⟨A1, n1, c1, A, n, c, rfl, ho⟩, hc4⟩
  refine ⟨_, rfl, ?_⟩
  replace q1 := q1.below hc4 q1.lt
  replace q2 := q2.below hc4 q2.lt
  replace hbw := Below.on hbw hc4 hbw.size
  replace hso := Below.on hso hc4 hso.size
  clear hc4
  have hlo := Below.refl w4.heap.size w4
  refine EL.val (x_move rfl) rfl ?_
  refine EL.val (x_extract rfl rfl) rfl ?_
  refine EL.val (x_extract rfl rfl) rfl ?_
  refine EL.newP al_129 rfl ?_
  intro g5 w5 q5 hb5 hg5 hl5
  have n1_5 : g1 ≠ g5 := Nat.ne_of_lt (Nat.lt_of_lt_of_le q1.lt hg5)
  have n2_5 : g2 ≠ g5 := Nat.ne_of_lt (Nat.lt_of_lt_of_le q2.lt hg5)
  have bhbw_5 := Nat.le_trans hbw.size hg5
  have bhso_5 := Nat.le_trans hso.size hg5
  have bhlo_5 := Nat.le_trans hlo.size hg5
  replace q1 := q1.below hb5 q1.lt
  replace q2 := q2.below hb5 q2.lt
  replace hbw := Below.on hbw hb5 hbw.size
  replace hso := Below.on hso hb5 hso.size
  replace hlo := Below.on hlo hb5 hlo.size
  clear hb5 hg5 hl5
  refine EL.store rfl rfl q5 sz_129 rfl rfl rfl rfl ?_
  intro w6 hq6 hg6
  replace q1 := q1.grown hg6 (fun h => n1_5 (Option.some.inj h))
  replace q2 := q2.grown hg6 (fun h => n2_5 (Option.some.inj h))
  replace hbw := below_store hbw hg6 bhbw_5
  replace hso := below_store hso hg6 bhso_5
  replace hlo := below_store hlo hg6 bhlo_5
  replace q5 := hq6
  clear hg6 hq6
  refine EL.val (x_assign rfl) rfl ?_
  refine EL.nil ?_
  refine EX.seq ?_
  refine EC.seq ?_
  refine EC.seq ?_
  refine EC.region ?_
  refine EL.val (x_move rfl) rfl ?_
  refine EL.val (x_neq rfl rfl (by first | assumption | exact decide_eq_false (by omega))) rfl ?_
  refine EL.nil ?_
  refine EX.seq ?_
  refine EC.no rfl ?_
  refine EC.skip ?_
  refine EX.seq ?_
  refine EC.seq ?_
  refine EC.region ?_
  refine EL.val (x_move rfl) rfl ?_
  refine EL.val (ld_129 rfl (q5.at (j := 0) rfl) (q5.at (j := 1) rfl) (q5.at (j := 2) rfl) (q5.at (j := 3) rfl) (q5.at (j := 4) rfl) (q5.at (j := 5) rfl) (q5.at (j := 6) rfl) (q5.at (j := 7) rfl) (q5.at (j := 8) rfl) (q5.at (j := 9) rfl) (q5.at (j := 10) rfl)) rfl ?_
  refine EL.val (x_move rfl) rfl ?_
  refine EL.call (cl_75 rfl rfl rfl) rfl (depth_fit (hst.below hso) hso.size (ho.below hlo) hlo.size hok hp ht) ?_
  rintro e w7 ⟨rfl, hc7⟩
  refine ⟨_, rfl, ?_⟩
  replace q1 := q1.below hc7 q1.lt
  replace q2 := q2.below hc7 q2.lt
  replace q5 := q5.below hc7 q5.lt
  replace hbw := Below.on hbw hc7 hbw.size
  replace hso := Below.on hso hc7 hso.size
  replace hlo := Below.on hlo hc7 hlo.size
  clear hc7
  refine EL.store rfl rfl q2 sz_23 rfl rfl rfl rfl ?_
  intro w8 hq8 hg8
  replace q1 := q1.grown hg8 (fun h => n1_2 (Option.some.inj h))
  replace q5 := q5.grown hg8 (fun h => n2_5.symm (Option.some.inj h))
  replace hbw := below_store hbw hg8 bhbw_2
  clear hso
  clear hlo
  replace q2 := hq8
  clear hg8 hq8
  refine EL.val (x_assign rfl) rfl ?_
  refine EL.nil ?_
  refine EX.seq ?_
  refine EC.ret ?_
  exact EX.done (resct rfl rfl rfl (lv_23 (q2.at rfl) (q2.at rfl))) ⟨rfl, hbw⟩
end Go.Proofs.Ytncnlhkmdljgpaa
set_option linter.unusedVariables false
namespace Go.Proofs.Ytncnlhkmdljgpaa
open Go Go.RowKit
section
variable {rv : River} {sides : List (List Bd)}
theorem all_getD {α : Type} {l : List α} {d : α} {p : α → Bool} (h : ∀ i, i < l.length → p (l.getD i d) = true) : l.all p = true := List.all_eq_true.2 fun x hx => by
  obtain ⟨k, hk, e⟩ := List.getElem_of_mem hx
  have := h k hk
  rwa [show l.getD k d = x by simp [hk, e]] at this
theorem start0 (h : riverB rv = true) (h1 : ¬(sides.length ≠ rv.reaches.length ∨ (sides.getD 0 []).length = 0)) (h2 : ∀ i, i < sides.length → (sides.getD i []).length = (sides.getD 0 []).length) (h3 : ¬400 < (sides.getD 0 []).length) (h4 : ∀ i, i < sides.length → ∀ k, k < (sides.getD i []).length → bdOk 0 10000000000 ((sides.getD i []).getD k bd0) = true) : startErr rv sides = 0 := by
  have e : (sides.all fun l => decide (l.length = (sides.getD 0 []).length)) = true := all_getD (d := []) fun i hi => decide_eq_true (h2 i hi)
  have e2 : (sides.all fun l => l.all (bdOk 0 10000000000)) = true := all_getD (d := []) fun i hi => all_getD (d := bd0) (h4 i hi)
  rw [side_err h, if_neg h1, if_neg (by rw [e]; simp), if_neg h3, if_neg (by rw [e2]; simp)]
end
end Go.Proofs.Ytncnlhkmdljgpaa
