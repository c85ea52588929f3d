/- That the text's order serves every order of a drawn region: by masks, which the kernel reckons fast. -/
import Derived.Deep.Quiet
namespace Go.Proofs.Ytncnlhkmdljgpaa
open Go

def opM : List Operand → Nat
  | [] => 0
  | .tmp t :: l => Nat.lor (Nat.pow 2 t) (opM l)
  | _ :: l => opM l
def optM : Option Tmp → Nat
  | some d => Nat.pow 2 d
  | none => 0
/-- the dst of operation j -/
def dstOf : List Oper → Nat → Option Tmp
  | [], _ => none
  | o :: _, 0 => o.dst
  | _ :: l, j + 1 => dstOf l j
def grdM (L : List Oper) : Option (Nat × Bool) → Nat
  | some (g, _) => optM (dstOf L g)
  | none => 0
def nthO : List Oper → Nat → Option Oper
  | [], _ => none
  | o :: _, 0 => some o
  | _ :: l, j + 1 => nthO l j
def rdM (L : List Oper) (o : Oper) : Nat := Nat.lor (opM o.op.operands.toList) (grdM L o.guard)
def afM : List Edge → Nat
  | [] => 0
  | e :: l => bif Region.binds .any e then Nat.lor (Nat.pow 2 e.on) (afM l) else afM l
def noSel : Op → Bool
  | .select _ _ => false
  | _ => true
/-- p, which stands behind o (number k), waits for it or is apart from it -/
def pairQ (L : List Oper) (k : Nat) (o p : Oper) : Bool :=
  bif Nat.beq (Nat.land (afM p.after.toList) (Nat.pow 2 k)) 0 then
    bif Nat.beq (Nat.land (optM o.dst) (Nat.lor (rdM L p) (optM p.dst))) 0 then Nat.beq (Nat.land (optM p.dst) (rdM L o)) 0 else false
  else true
def prsQ (L : List Oper) (k : Nat) (o : Oper) : List Oper → Bool
  | [] => true
  | p :: l => bif pairQ L k o p then prsQ L k o l else false
/-- all that binds lies before k -/
def backQ (k : Nat) : List Edge → Bool
  | [] => true
  | e :: l => bif Region.binds .any e then (bif Nat.blt e.on k then backQ k l else false) else backQ k l
def lexQ (L : List Oper) : Nat → List Oper → Bool
  | _, [] => true
  | k, o :: l => bif noSel o.op then (bif backQ k o.after.toList then (bif prsQ L k o l then lexQ L (k + 1) l else false) else false) else false

theorem opM_mem : ∀ (l : List Operand) (t : Nat), Operand.tmp t ∈ l → (opM l).testBit t = true
  | [], _, h => by cases h
  | x :: l, t, h => by
    rcases List.mem_cons.1 h with rfl | h
    · show (2 ^ t ||| opM l).testBit t = true
      simp
    · have ih := opM_mem l t h
      cases x with
      | tmp s =>
        show (2 ^ s ||| opM l).testBit t = true
        simp [ih]
      | _ => exact ih
theorem optM_mem {x : Option Tmp} {t : Nat} (h : x = some t) : (optM x).testBit t = true := by
  subst h
  show (2 ^ t).testBit t = true
  simp
theorem dstOf_eq : ∀ (l : List Oper) (j : Nat), (l.toArray[j]?).bind (·.dst) = dstOf l j
  | [], j => by simp [dstOf]
  | o :: l, 0 => by simp [dstOf]
  | o :: l, j + 1 => by
    have := dstOf_eq l j
    simpa [dstOf] using this
theorem rdM_mem {L : List Oper} {o : Oper} {t : Nat} (h : t ∈ o.looksAt L.toArray) : (rdM L o).testBit t = true := by
  show (opM o.op.operands.toList ||| grdM L o.guard).testBit t = true
  rw [Nat.testBit_or, Bool.or_eq_true]
  unfold Oper.looksAt at h
  rcases List.mem_append.1 h with h | h
  · left
    obtain ⟨x, hx, he⟩ := List.mem_filterMap.1 h
    cases x <;> simp at he
    subst he
    exact opM_mem _ _ hx
  · right
    cases hg : o.guard with
    | none => simp [hg] at h
    | some gw =>
      obtain ⟨g, b⟩ := gw
      simp only [hg] at h
      rw [dstOf_eq] at h
      exact optM_mem (by simpa using h)
theorem land_zero {a b t : Nat} (h : Nat.beq (Nat.land a b) 0 = true) (ha : a.testBit t = true) (hb : b.testBit t = true) : False := by
  have h1 : a &&& b = 0 := Nat.eq_of_beq_eq_true h
  have h2 : (a &&& b).testBit t = true := by rw [Nat.testBit_and, ha, hb]; rfl
  rw [h1] at h2
  simp at h2
theorem apart_of {L : List Oper} {o p : Oper} (h1 : Nat.beq (Nat.land (optM o.dst) (Nat.lor (rdM L p) (optM p.dst))) 0 = true) (h2 : Nat.beq (Nat.land (optM p.dst) (rdM L o)) 0 = true) : o.apart L.toArray p = true := by
  have hor : ∀ (a b t : Nat), a.testBit t = true ∨ b.testBit t = true → (Nat.lor a b).testBit t = true := fun a b t h => by
    show (a ||| b).testBit t = true
    rw [Nat.testBit_or, Bool.or_eq_true]
    exact h
  unfold Oper.apart
  rw [Bool.and_eq_true]
  refine ⟨?_, ?_⟩
  · cases hd : o.dst with
    | none => rfl
    | some d =>
      rw [hd] at h1
      simp only [Bool.and_eq_true, Bool.not_eq_true', bne_iff_ne, ne_eq]
      refine ⟨?_, fun e => land_zero h1 (optM_mem rfl) (hor _ _ d (.inr (optM_mem e)))⟩
      rw [← Bool.not_eq_true]
      intro hc
      exact land_zero h1 (optM_mem rfl) (hor _ _ d (.inl (rdM_mem (by simpa using hc))))
  · cases hd : p.dst with
    | none => rfl
    | some d =>
      rw [hd] at h2
      simp only [Bool.not_eq_true']
      rw [← Bool.not_eq_true]
      intro hc
      exact land_zero h2 (optM_mem rfl) (rdM_mem (by simpa using hc))
theorem afM_bit : ∀ (l : List Edge) (k : Nat), (afM l).testBit k = true → ∃ e ∈ l, Region.binds .any e = true ∧ e.on = k
  | [], k, h => by simp [afM] at h
  | e :: l, k, h => by
    unfold afM at h
    cases hb : Region.binds .any e with
    | true =>
      rw [hb] at h
      have h' : (2 ^ e.on ||| afM l).testBit k = true := h
      rw [Nat.testBit_or, Bool.or_eq_true] at h'
      rcases h' with h' | h'
      · exact ⟨e, by simp, hb, by simpa [Nat.testBit_two_pow] using h'⟩
      · obtain ⟨e', h1, h2⟩ := afM_bit l k h'
        exact ⟨e', by simp [h1], h2⟩
    | false =>
      rw [hb] at h
      obtain ⟨e', h1, h2⟩ := afM_bit l k h
      exact ⟨e', by simp [h1], h2⟩
theorem pair_of {L : List Oper} {k : Nat} {o p : Oper} (h : pairQ L k o p = true) (hno : ∀ e ∈ p.after, Region.binds .any e = true → e.on ≠ k) : o.apart L.toArray p = true := by
  unfold pairQ at h
  cases h1 : Nat.beq (Nat.land (afM p.after.toList) (Nat.pow 2 k)) 0 with
  | false =>
    exfalso
    have h2 : (afM p.after.toList) &&& 2 ^ k ≠ 0 := Nat.ne_of_beq_eq_false h1
    have h3 : (afM p.after.toList).testBit k = true := by
      rw [← Bool.not_eq_false]
      intro hf
      refine h2 (Nat.eq_of_testBit_eq fun i => ?_)
      rw [Nat.testBit_and, Nat.testBit_two_pow]
      by_cases hi : k = i
      · subst hi; simp [hf]
      · simp [hi]
    obtain ⟨e, he, hb, hk⟩ := afM_bit _ _ h3
    exact hno e (by simpa using he) hb hk
  | true =>
    rw [h1] at h
    cases h2 : Nat.beq (Nat.land (optM o.dst) (Nat.lor (rdM L p) (optM p.dst))) 0 with
    | false => rw [h2] at h; cases h
    | true => rw [h2] at h; exact apart_of h2 h
theorem prs_of {L : List Oper} {k : Nat} {o : Oper} : ∀ {l : List Oper}, prsQ L k o l = true → ∀ p ∈ l, pairQ L k o p = true
  | [], _, _, h => by cases h
  | q :: l, h, p, hp => by
    unfold prsQ at h
    cases h1 : pairQ L k o q with
    | false => rw [h1] at h; cases h
    | true =>
      rw [h1] at h
      rcases List.mem_cons.1 hp with rfl | hp
      · exact h1
      · exact prs_of h p hp
theorem back_of {k : Nat} : ∀ {l : List Edge}, backQ k l = true → ∀ e ∈ l, Region.binds .any e = true → e.on < k
  | [], _, _, h, _ => by cases h
  | x :: l, h, e, he, hb => by
    unfold backQ at h
    cases h1 : Region.binds .any x with
    | true =>
      rw [h1] at h
      cases h2 : Nat.blt x.on k with
      | false => rw [h2] at h; cases h
      | true =>
        rw [h2] at h
        rcases List.mem_cons.1 he with rfl | he
        · simpa [Nat.blt_eq] using h2
        · exact back_of h e he hb
    | false =>
      rw [h1] at h
      rcases List.mem_cons.1 he with rfl | he
      · rw [h1] at hb; cases hb
      · exact back_of h e he hb
theorem lex_cons {L : List Oper} {k : Nat} {o : Oper} {l : List Oper} (h : lexQ L k (o :: l) = true) : noSel o.op = true ∧ backQ k o.after.toList = true ∧ prsQ L k o l = true ∧ lexQ L (k + 1) l = true := by
  unfold lexQ at h
  cases h1 : noSel o.op with
  | false => rw [h1] at h; cases h
  | true =>
    rw [h1] at h
    cases h2 : backQ k o.after.toList with
    | false => rw [h2] at h; cases h
    | true =>
      rw [h2] at h
      cases h3 : prsQ L k o l with
      | false => rw [h3] at h; cases h
      | true => rw [h3] at h; exact ⟨rfl, rfl, rfl, h⟩
theorem lex_sel {L : List Oper} : ∀ {l : List Oper} {k : Nat}, lexQ L k l = true → ∀ o ∈ l, ∀ cs b, o.op ≠ .select cs b
  | [], _, _, _, h => by cases h
  | x :: l, k, h, o, ho => by
    obtain ⟨h1, _, _, h4⟩ := lex_cons h
    rcases List.mem_cons.1 ho with rfl | ho
    · intro cs b e
      rw [e] at h1
      cases h1
    · exact lex_sel h4 o ho

section
variable {P : Program} {C : World → Prop} {L : List Oper}
theorem wpAnyQ_lexQ {Z : Act → Prop} (hsel : ∀ (j : Nat) (o : Oper) cs b, L.toArray[j]? = some o → o.op ≠ .select cs b) : ∀ (l : List Oper) (k : Nat) (listed : Array Bool) (a : Act), (∀ j, l[j]? = L[k + j]?) → listed.size = L.length → (∀ j, j < k → listed.getD j false = true) → (∀ j, k ≤ j → j < L.length → listed.getD j true = false) →
    lexQ L k l = true → wpQuiet P L.toArray C Z l a → wpAnyQ P .any L.toArray C Z l.length listed a
  | [], k, listed, a, hl, hs, hlo, _, _, h => by
    refine ⟨List.eq_nil_iff_forall_not_mem.2 fun i hi => ?_, h⟩
    obtain ⟨h1, o, ho, _⟩ := mem_ready.1 hi
    have hlt : i < L.length := by simpa using (Array.getElem?_eq_some_iff.1 ho).1
    have hk : L.length ≤ k := by
      have := hl 0
      simp at this
      omega
    have := hlo i (by omega)
    simp [Array.getD, hs, hlt] at h1 this
    rw [h1] at this
    cases this
  | o :: l, k, listed, a, hl, hs, hlo, hhi, hq, h => by
    have h0' : L[k]? = some o := by simpa using (hl 0).symm
    have h0 : L.toArray[k]? = some o := by simpa using h0'
    have hk : k < L.length := (List.getElem?_eq_some_iff.1 h0').1
    obtain ⟨q1, q2, q3, q4⟩ := lex_cons hq
    have hst : qOp P L.toArray C k (wpQuiet P L.toArray C Z l) a := by unfold qOp; simp only [h0]; exact h
    obtain ⟨v, hy, hK⟩ := yieldsIn_of_qOp h0 hst
    refine wpAnyQ_first h0 hsel l.length listed a (fun j oj hj hjk hun hno => ?_) (mem_ready.2 ⟨hhi k (Nat.le_refl _) hk, o, h0, fun e he hb => hlo _ (back_of q2 e (by simpa using he) hb)⟩) hy
      (wpAnyQ_lexQ hsel l (k + 1) _ _ (fun j => by have := hl (j + 1); simpa [Nat.add_assoc, Nat.add_comm 1 j] using this) (by simpa using hs) (fun j hj => ?_) (fun j hj hj2 => ?_) q4 hK)
    · have hj' : L[j]? = some oj := by simpa using hj
      have hjL : j < L.length := (List.getElem?_eq_some_iff.1 hj').1
      have hgt : k < j := by
        rcases Nat.lt_or_ge j k with h' | h'
        · have := hlo j h'
          simp [Array.getD, hs, hjL] at hun this
          rw [hun] at this
          cases this
        · omega
      have hm : l[j - (k + 1)]? = some oj := by
        have := hl (j - (k + 1) + 1)
        rw [show k + (j - (k + 1) + 1) = j by omega, hj'] at this
        simpa using this
      exact pair_of (prs_of q3 oj (List.mem_of_getElem? hm)) hno
    · by_cases e : j = k
      · subst e; simp [Array.getD, hs, hk]
      · rw [show (listed.setIfInBounds k true).getD j false = listed.getD j false by
          by_cases hjs : j < listed.size
          · simp [Array.getD, hjs, Ne.symm e]
          · simp [Array.getD, hjs]]
        exact hlo j (by omega)
    · have e : k ≠ j := by omega
      have := hhi j (by omega) hj2
      simp [Array.getD, hs, hj2, e] at this ⊢
      exact this
theorem wp_region_lexQ {id : Nat} {Q : Exit → Act → World → Prop} {a : Act} {w : World} (hm : P.follows .mixedOrders = true) (hB : lexQ L 0 L = true) (hC : C { w with drawn := w.drawn + 1 })
    (h : wpQuiet P L.toArray C (fun a' => ∀ w', C w' → Q .normal a' w') L a) : (Code.region id L.toArray true).wp P Q a w := by
  refine wp_region_any hm (wpAny_of_quiet (Q := fun a' => ∀ w', C w' → Q .normal a' w') (fun _ w' hw' h => h w' hw') _ _ _ _ hC ?_)
  have := wpAnyQ_lexQ (C := C) (P := P) (Z := fun a' => ∀ w', C w' → Q .normal a' w') (fun j o cs b hj => lex_sel hB o (List.mem_of_getElem? (by simpa using hj)) cs b) L 0 (Array.replicate L.toArray.size false) a (by simp) (by simp) (fun j hj => by omega) (fun j _ hj => by simp [Array.getD, hj]) hB h
  simpa using this
end
end Go.Proofs.Ytncnlhkmdljgpaa
