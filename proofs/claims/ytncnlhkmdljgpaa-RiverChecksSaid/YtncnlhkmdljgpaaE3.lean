/- A region that draws its order: a head whose operations may come in any order the edges allow (each tells what it yields, and what it tells stays true while memory grows), and a tail that comes last, one by one. -/
import Derived.Test.YtncnlhkmdljgpaaE1
import Derived.Test.YtncnlhkmdljgpaaInv
namespace Go.Proofs.Ytncnlhkmdljgpaa
open Go Go.RowKit

def clsAt : List (List Nat) → Nat → List Nat
  | [], _ => []
  | c :: _, 0 => c
  | _ :: l, i + 1 => clsAt l i
def res (val : Nat → Value) (i : Nat) (l : List Nat) : Nat → Value := fun j => bif Nat.beq j i then val j else bif memB l j then val j else undef
def findW (L : List Oper) (t : Nat) : List Nat → Option Nat
  | [] => none
  | j :: l => match dstOf L j with
    | some d => bif Nat.beq d t then some j else findW L t l
    | none => findW L t l
/-- whoever writes slot t comes behind operation i -/
def oldB (L : List Oper) (cls : List (List Nat)) (i t : Nat) : Nat → Bool
  | 0 => true
  | k + 1 => bif (match dstOf L k with
      | some d => bif Nat.beq d t then (bif Nat.beq k i then true else memB (clsAt cls k) i) else true
      | none => true) then oldB L cls i t k else false
def sgAt (L : List Oper) (cls : List (List Nat)) (m : Nat) (σ : Sg) (val : Nat → Value) (i : Nat) : Sg := fun t => match findW L t (clsAt cls i) with
  | some j => some (val j)
  | none => bif oldB L cls i t m then σ t else none
def sgEnd (L : List Oper) (σ : Sg) (val : Nat → Value) : Nat → Sg
  | 0 => σ
  | k + 1 => match dstOf L k with
    | some d => ins (sgEnd L σ val k) d (val k)
    | none => sgEnd L σ val k
/-! ### What is reckoned -/
def inCls (cls : List (List Nat)) (j : Nat) : List Edge → Bool
  | [] => false
  | e :: l => bif Region.binds .any e then (bif Nat.beq e.on j then true else bif memB (clsAt cls e.on) j then true else inCls cls j l) else inCls cls j l
def allIn (cls : List (List Nat)) (af : List Edge) : List Nat → Bool
  | [] => true
  | j :: l => bif inCls cls j af then allIn cls af l else false
def allBelow (l : List Nat) : Nat → Bool
  | 0 => true
  | k + 1 => bif memB l k then allBelow l k else false
/-- from number i on -/
def headQ (n : Nat) (cls : List (List Nat)) (m : Nat) : Nat → List Oper → Bool
  | _, [] => true
  | i, o :: l => bif backQ i o.after.toList then (bif allIn cls o.after.toList (clsAt cls i) then
      (bif Nat.blt i m then (bif (match o.dst with
        | some d => bif Nat.blt d n then noDst d l (m - (i + 1)) else false
        | none => true) then headQ n cls m (i + 1) l else false)
      else (bif allBelow (clsAt cls i) i then headQ n cls m (i + 1) l else false)) else false) else false
where
  noDst (d : Nat) : List Oper → Nat → Bool
    | [], _ => true
    | _, 0 => true
    | o :: l, k + 1 => match o.dst with
      | some e => bif Nat.beq d e then false else noDst d l k
      | none => noDst d l k

theorem memB_mem : ∀ {l : List Nat} {j : Nat}, memB l j = true ↔ j ∈ l
  | [], j => by simp [memB]
  | d :: l, j => by
    unfold memB
    cases e : Nat.beq j d with
    | true => have := Nat.eq_of_beq_eq_true e; simp [this]
    | false =>
      have := Nat.ne_of_beq_eq_false e
      simp [this, memB_mem (l := l)]
theorem dstOf_at {L : List Oper} {i : Nat} {o : Oper} (h : L[i]? = some o) : dstOf L i = o.dst := by
  rw [← dstOf_eq]
  simp [h]
theorem findW_spec {L : List Oper} {t : Nat} : ∀ {l : List Nat} {j : Nat}, findW L t l = some j → j ∈ l ∧ dstOf L j = some t
  | [], j, h => by cases h
  | k :: l, j, h => by
    unfold findW at h
    cases hd : dstOf L k with
    | none => simp only [hd] at h; obtain ⟨h1, h2⟩ := findW_spec h; exact ⟨by simp [h1], h2⟩
    | some d =>
      simp only [hd] at h
      cases e : Nat.beq d t with
      | true =>
        rw [e] at h
        injection h with h
        subst h
        exact ⟨by simp, by rw [hd, Nat.eq_of_beq_eq_true e]⟩
      | false =>
        rw [e] at h
        obtain ⟨h1, h2⟩ := findW_spec h
        exact ⟨by simp [h1], h2⟩
theorem oldB_spec {L : List Oper} {cls : List (List Nat)} {i t : Nat} : ∀ {m : Nat}, oldB L cls i t m = true → ∀ k, k < m → dstOf L k = some t → k = i ∨ i ∈ clsAt cls k
  | 0, _, k, hk, _ => by omega
  | m + 1, h, k, hk, hd => by
    unfold oldB at h
    by_cases e : k = m
    · subst e
      simp only [hd, Nat.beq_refl, cond_true] at h
      cases e1 : Nat.beq k i with
      | true => exact .inl (Nat.eq_of_beq_eq_true e1)
      | false =>
        rw [e1] at h
        cases e2 : memB (clsAt cls k) i with
        | true => exact .inr (memB_mem.1 e2)
        | false => rw [e2] at h; cases h
    · refine oldB_spec (m := m) ?_ k (by omega) hd
      revert h
      generalize (match dstOf L m with
      | some d => bif Nat.beq d t then (bif Nat.beq m i then true else memB (clsAt cls m) i) else true
      | none => true) = b
      cases b <;> simp
theorem inCls_spec {cls : List (List Nat)} {j : Nat} : ∀ {l : List Edge}, inCls cls j l = true → ∃ e ∈ l, Region.binds .any e = true ∧ (e.on = j ∨ j ∈ clsAt cls e.on)
  | [], h => by cases h
  | e :: l, h => by
    unfold inCls at h
    cases hb : Region.binds .any e with
    | false => rw [hb] at h; obtain ⟨e', h1, h2⟩ := inCls_spec h; exact ⟨e', by simp [h1], h2⟩
    | true =>
      rw [hb] at h
      cases h1 : Nat.beq e.on j with
      | true => exact ⟨e, by simp, hb, .inl (Nat.eq_of_beq_eq_true h1)⟩
      | false =>
        rw [h1] at h
        cases h2 : memB (clsAt cls e.on) j with
        | true => exact ⟨e, by simp, hb, .inr (memB_mem.1 h2)⟩
        | false => rw [h2] at h; obtain ⟨e', h3, h4⟩ := inCls_spec h; exact ⟨e', by simp [h3], h4⟩
theorem allIn_spec {cls : List (List Nat)} {af : List Edge} : ∀ {l : List Nat}, allIn cls af l = true → ∀ j ∈ l, inCls cls j af = true
  | [], _, j, h => by cases h
  | k :: l, h, j, hj => by
    unfold allIn at h
    cases h1 : inCls cls k af with
    | false => rw [h1] at h; cases h
    | true =>
      rw [h1] at h
      rcases List.mem_cons.1 hj with rfl | hj
      · exact h1
      · exact allIn_spec h j hj
theorem allBelow_spec {l : List Nat} : ∀ {k : Nat}, allBelow l k = true → ∀ j, j < k → j ∈ l
  | 0, _, j, h => by omega
  | k + 1, h, j, hj => by
    unfold allBelow at h
    cases h1 : memB l k with
    | false => rw [h1] at h; cases h
    | true =>
      rw [h1] at h
      by_cases e : j = k
      · subst e; exact memB_mem.1 h1
      · exact allBelow_spec h j (by omega)
theorem noDst_spec {d : Nat} : ∀ {l : List Oper} {k : Nat}, headQ.noDst d l k = true → ∀ j o, l[j]? = some o → j < k → o.dst ≠ some d
  | [], _, _, j, o, h, _ => by simp at h
  | x :: l, 0, _, j, o, h, hj => by omega
  | x :: l, k + 1, h, j, o, ho, hj => by
    unfold headQ.noDst at h
    have hx : x.dst ≠ some d ∧ headQ.noDst d l k = true := by
      cases hd : x.dst with
      | none => rw [hd] at h; exact ⟨by simp, h⟩
      | some e =>
        rw [hd] at h
        simp only at h
        cases h1 : Nat.beq d e with
        | true => rw [h1] at h; cases h
        | false =>
          rw [h1] at h
          refine ⟨fun e' => ?_, h⟩
          injection e' with e'
          exact Nat.ne_of_beq_eq_false h1 e'.symm
    cases j with
    | zero => simp at ho; subst ho; exact hx.1
    | succ j => exact noDst_spec hx.2 j o (by simpa using ho) (by omega)
structure HeadOk (n : Nat) (cls : List (List Nat)) (m : Nat) (L : List Oper) : Prop where
  dep : ∀ i o, L[i]? = some o → ∀ j ∈ clsAt cls i, ∃ e ∈ o.after, Region.binds .any e = true ∧ (e.on = j ∨ j ∈ clsAt cls e.on)
  back : ∀ i o, L[i]? = some o → ∀ e ∈ o.after, Region.binds .any e = true → e.on < i
  small : ∀ i o d, L[i]? = some o → i < m → o.dst = some d → d < n
  dist : ∀ i j o p d, L[i]? = some o → L[j]? = some p → i < j → j < m → o.dst = some d → p.dst ≠ some d
  tail : ∀ i o, L[i]? = some o → m ≤ i → ∀ j, j < i → j ∈ clsAt cls i
theorem headQ_step {n : Nat} {cls : List (List Nat)} {m : Nat} : ∀ {l : List Oper} {k : Nat}, headQ n cls m k l = true →
    (∀ i o, l[i]? = some o → ∀ j ∈ clsAt cls (k + i), ∃ e ∈ o.after, Region.binds .any e = true ∧ (e.on = j ∨ j ∈ clsAt cls e.on)) ∧
    (∀ i o, l[i]? = some o → ∀ e ∈ o.after, Region.binds .any e = true → e.on < k + i) ∧
    (∀ i o d, l[i]? = some o → k + i < m → o.dst = some d → d < n) ∧
    (∀ i j o p d, l[i]? = some o → l[j]? = some p → i < j → k + j < m → o.dst = some d → p.dst ≠ some d) ∧
    (∀ i o, l[i]? = some o → m ≤ k + i → ∀ j, j < k + i → j ∈ clsAt cls (k + i))
  | [], k, _ => ⟨by simp, by simp, by simp, by simp, by simp⟩
  | o :: l, k, h => by
    unfold headQ at h
    cases h1 : backQ k o.after.toList with
    | false => rw [h1] at h; cases h
    | true =>
    rw [h1] at h
    cases h2 : allIn cls o.after.toList (clsAt cls k) with
    | false => rw [h2] at h; cases h
    | true =>
    rw [h2] at h
    simp only [cond_true] at h
    have hrec : headQ n cls m (k + 1) l = true := by
      revert h
      cases Nat.blt k m
      · cases allBelow (clsAt cls k) k <;> simp
      · simp only [cond_true]
        generalize (match o.dst with
        | some d => bif Nat.blt d n then headQ.noDst d l (m - (k + 1)) else false
        | none => true) = b
        cases b <;> simp
    obtain ⟨a1, a2, a3, a4, a5⟩ := headQ_step hrec
    refine ⟨?_, ?_, ?_, ?_, ?_⟩
    · intro i p hp j hj
      cases i with
      | zero =>
        simp at hp; subst hp
        obtain ⟨e, he, hb⟩ := inCls_spec (allIn_spec h2 j hj)
        exact ⟨e, by simpa using he, hb⟩
      | succ i => exact a1 i p (by simpa using hp) j (by rwa [show k + (i + 1) = k + 1 + i by omega] at hj)
    · intro i p hp e he hb
      cases i with
      | zero => simp at hp; subst hp; exact back_of h1 e (by simpa using he) hb
      | succ i => have := a2 i p (by simpa using hp) e he hb; omega
    · intro i p d hp hlt hd
      cases i with
      | zero =>
        simp at hp; subst hp
        have hb : Nat.blt k m = true := by simpa [Nat.blt_eq] using hlt
        rw [hb, hd] at h
        simp only [cond_true] at h
        cases h3 : Nat.blt d n with
        | true => simpa [Nat.blt_eq] using h3
        | false => rw [h3] at h; cases h
      | succ i => exact a3 i p d (by simpa using hp) (by omega) hd
    · intro i j p q d hp hq hij hlt hd
      cases i with
      | zero =>
        simp at hp; subst hp
        have hb : Nat.blt k m = true := by have : k < m := by omega
                                           simpa [Nat.blt_eq] using this
        rw [hb, hd] at h
        simp only [cond_true] at h
        cases h3 : Nat.blt d n with
        | false => rw [h3] at h; cases h
        | true =>
        rw [h3] at h
        simp only [cond_true] at h
        cases h4 : headQ.noDst d l (m - (k + 1)) with
        | false => rw [h4] at h; cases h
        | true =>
        cases j with
        | zero => omega
        | succ j => exact noDst_spec h4 j q (by simpa using hq) (by omega)
      | succ i =>
        cases j with
        | zero => omega
        | succ j => exact a4 i j p q d (by simpa using hp) (by simpa using hq) (by omega) (by omega) hd
    · intro i p hp hm j hj
      cases i with
      | zero =>
        have hb : Nat.blt k m = false := by
          rw [← Bool.not_eq_true, Nat.blt_eq]; omega
        rw [hb] at h
        simp only [cond_false] at h
        cases h4 : allBelow (clsAt cls k) k with
        | false => rw [h4] at h; cases h
        | true => exact allBelow_spec h4 j hj
      | succ i =>
        rw [show k + (i + 1) = k + 1 + i by omega]
        exact a5 i p (by simpa using hp) (by omega) j (by omega)
theorem headQ_ok {n : Nat} {cls : List (List Nat)} {m : Nat} {L : List Oper} (h : headQ n cls m 0 L = true) : HeadOk n cls m L := by
  obtain ⟨a1, a2, a3, a4, a5⟩ := headQ_step h
  simp only [Nat.zero_add] at a1 a2 a3 a4 a5
  exact ⟨a1, a2, a3, a4, a5⟩

section
variable {P : Program} {n : Nat} {σ : Sg} {w : World} {Q : Exit → Act → World → Prop} {L : List Oper}
/-- what stands in the way of operation i of the head -/
def HStep (P : Program) (n : Nat) (L : List Oper) (Q : Exit → Act → World → Prop) (cls : List (List Nat)) (m : Nat) (alc : List Nat) (σ : Sg) (w : World) (Φ : Nat → (Nat → Value) → World → Prop) (i : Nat) : Prop :=
  ∀ (val : Nat → Value) (w1 : World) (a : Act), Below w.heap.size w w1 → Env n (sgAt L cls m σ val i) a → (∀ j, j ∈ clsAt cls i → Φ j (res val j (clsAt cls j)) w1) →
    wpOp P L.toArray Q i (fun a' w' => ∃ v, a' = a.put (dstOf L i) v ∧ Below w1.heap.size w1 w' ∧ Φ i (res (upd val i v) i (clsAt cls i)) w' ∧ (i ∈ alc → v = .pointer (some ⟨w1.heap.size, 0, none⟩) ∧ w1.heap.size < w'.heap.size)) a w1
/-- the blocks that were made here are apart -/
def Alc (alc : List Nat) (m : Nat) (val : Nat → Value) (w w' : World) : Prop :=
  (∀ i ∈ alc, i < m → ∃ g, val i = .pointer (some ⟨g, 0, none⟩) ∧ w.heap.size ≤ g ∧ g < w'.heap.size) ∧ ∀ i ∈ alc, ∀ j ∈ alc, i < m → j < m → i ≠ j → val i ≠ val j
/-- when some of the head have come up -/
structure HInv (n : Nat) (L : List Oper) (cls : List (List Nat)) (m : Nat) (alc : List Nat) (σ : Sg) (w : World) (Φ : Nat → (Nat → Value) → World → Prop) (D : Array Bool) (val : Nat → Value) (a : Act) (w' : World) : Prop where
  below : Below w.heap.size w w'
  size : a.tmps.size = n
  defers : a.defers = []
  new : ∀ i d, i < m → D.getD i false = true → dstOf L i = some d → a.tmps[d]? = some (val i)
  old : ∀ t v, σ t = some v → (∀ k, k < m → D.getD k false = true → dstOf L k ≠ some t) → a.tmps[t]? = some v
  says : ∀ i, i < m → D.getD i false = true → Φ i (res val i (clsAt cls i)) w'
  down : ∀ i, D.getD i false = true → ∀ j ∈ clsAt cls i, D.getD j false = true
  alc1 : ∀ i ∈ alc, i < m → D.getD i false = true → ∃ g, val i = .pointer (some ⟨g, 0, none⟩) ∧ w.heap.size ≤ g ∧ g < w'.heap.size
  alc2 : ∀ i ∈ alc, ∀ j ∈ alc, i < m → j < m → D.getD i false = true → D.getD j false = true → i ≠ j → val i ≠ val j
  high : ∀ i, m ≤ i → D.getD i false = false
theorem res_upd {val : Nat → Value} {i j : Nat} {v : Value} {l : List Nat} (hj : j ≠ i) (hl : i ∉ l) : res (upd val i v) j l = res val j l := by
  funext k
  unfold res
  cases e : Nat.beq k j with
  | true => have := Nat.eq_of_beq_eq_true e; subst this; simp [upd, hj]
  | false =>
    cases e2 : memB l k with
    | true =>
      have : k ≠ i := fun h => hl (h ▸ memB_mem.1 e2)
      simp [upd, this]
    | false => rfl
theorem getD_false_of {D : Array Bool} {i : Nat} (hi : i < D.size) (h : D.getD i true = false) : D.getD i false = false := by
  simp [Array.getD, hi] at h ⊢
  exact h
theorem set_get {D : Array Bool} {i : Nat} (hi : i < D.size) (k : Nat) : (D.setIfInBounds i true).getD k false = if k = i then true else D.getD k false := by
  by_cases e : k = i
  · subst e; simp [Array.getD, hi]
  · rw [if_neg e]
    by_cases hk : k < D.size
    · simp [Array.getD, hk, Ne.symm e]
    · simp [Array.getD, hk]
theorem EC.regionP {id : Nat} (cls : List (List Nat)) (m : Nat) (alc : List Nat) (Φ : Nat → (Nat → Value) → World → Prop) (hf : P.follows .mixedOrders = true) (hq : headQ n cls m 0 L = true) (hml : Nat.ble m L.length = true)
    (hmono : ∀ i r w1 w2, Below w1.heap.size w1 w2 → Φ i r w1 → Φ i r w2)
    (hstep : ∀ i, i < m → HStep P n L Q cls m alc σ w Φ i)
    (hend : ∀ val w', Below w.heap.size w w' → Alc alc m val w w' → (∀ i, i < m → Φ i (res val i (clsAt cls i)) w') → EL P n L Q (L.drop m) (sgEnd L σ val m) w') : EC P n (.region id L.toArray true) Q σ w := by
  have hm : m ≤ L.length := by simpa [Nat.ble_eq] using hml
  have H := headQ_ok hq
  have hback : backB L.toArray = true := by
    refine List.all_eq_true.2 fun i hi => ?_
    have hi' : i < L.length := by simpa using hi
    have ho : L.toArray[i]? = some L[i] := by simp [hi']
    rw [ho]
    refine Array.all_eq_true_iff_forall_mem.2 fun e he => ?_
    cases hb : Region.binds .any e with
    | false => rfl
    | true => simpa using H.back i L[i] (by simp [hi']) e he hb
  intro a ha
  -- the tail's part
  have tailDone : ∀ (D : Array Bool) (i : Nat) (o : Oper), (∀ i, D.getD i false = true → ∀ j ∈ clsAt cls i, D.getD j false = true) → L[i]? = some o → (∀ e ∈ o.after, Region.binds .any e = true → D.getD e.on false = true) → ∀ j ∈ clsAt cls i, D.getD j false = true := by
    intro D i o hdown ho hdep j hj
    obtain ⟨e, he, hb, h⟩ := H.dep i o ho j hj
    rcases h with rfl | h
    · exact hdep e he hb
    · exact hdown _ (hdep e he hb) j h
  have hEnd : ∀ (D : Array Bool) (val : Nat → Value) (a : Act) (w' : World), HInv n L cls m alc σ w Φ D val a w' → (∀ i, i < m → D.getD i false = true) → wpList P L.toArray Q (L.drop m) a w' := by
    intro D val a w' I hall
    refine hend val w' I.below ⟨fun i hi hlt => I.alc1 i hi hlt (hall i hlt), fun i hi j hj h1 h2 hne => I.alc2 i hi j hj h1 h2 (hall i h1) (hall j h2) hne⟩ (fun i hi => I.says i hi (hall i hi)) a ⟨I.size, I.defers, ?_⟩
    have : ∀ k, k ≤ m → ∀ t v, sgEnd L σ val k t = some v → (∀ j, k ≤ j → j < m → dstOf L j ≠ some t) → a.tmps[t]? = some v := by
      intro k
      induction k with
      | zero => intro _ t v ht hn; exact I.old t v ht fun j hj _ => hn j (Nat.zero_le _) hj
      | succ k ih =>
        intro hk t v ht hn
        unfold sgEnd at ht
        cases hd : dstOf L k with
        | none =>
          simp only [hd] at ht
          exact ih (by omega) t v ht fun j h1 h2 => by
            rcases Nat.lt_or_ge k j with h | h
            · exact hn j h h2
            · obtain rfl : j = k := by omega
              rw [hd]; simp
        | some d =>
          simp only [hd] at ht
          unfold ins at ht
          cases e : Nat.beq t d with
          | true =>
            rw [e] at ht
            have e' := Nat.eq_of_beq_eq_true e
            subst e'
            rw [I.new k t (by omega) (hall k (by omega)) hd]
            exact ht
          | false =>
            rw [e] at ht
            exact ih (by omega) t v ht fun j h1 h2 => by
              rcases Nat.lt_or_ge k j with h | h
              · exact hn j h h2
              · obtain rfl : j = k := by omega
                rw [hd]
                intro e2
                injection e2 with e2
                exact Nat.ne_of_beq_eq_false e e2.symm
    exact fun t v ht => this m (Nat.le_refl _) t v ht fun j h1 h2 => by omega
  refine wp_region_inv hf hback (fun D a w' => (∃ val, HInv n L cls m alc σ w Φ D val a w') ∨ ∃ k, m < k ∧ k ≤ L.length ∧ (∀ i, D.getD i false = decide (i < k)) ∧ wpList P L.toArray Q (L.drop k) a w') ?_ ?_ ?_
  · left
    have hno : ∀ i, (Array.replicate L.toArray.size false).getD i false = false := fun i => by
      by_cases h : i < L.toArray.size
      · simp [Array.getD]
      · simp [Array.getD]
    refine ⟨fun _ => undef, ⟨⟨rfl, rfl, rfl, Nat.le_refl _, fun _ _ => rfl⟩, ha.size, ha.defers, ?_, fun t v ht _ => ha.get t v ht, ?_, ?_, ?_, ?_, fun i _ => hno i⟩⟩
    · intro i d _ h; rw [hno] at h; cases h
    · intro i _ h; rw [hno] at h; cases h
    · intro i h; rw [hno] at h; cases h
    · intro i _ _ h; rw [hno] at h; cases h
    · intro i _ j _ _ _ h; rw [hno] at h; cases h
  · intro D a w1 i o hs hI hni ho hdep
    have hs' : D.size = L.length := by simpa using hs
    have ho' : L[i]? = some o := by simpa using ho
    have hil : i < L.length := (List.getElem?_eq_some_iff.1 ho').1
    have hnd : D.getD i false = false := getD_false_of (by omega) hni
    have takeTail : ∀ (k : Nat), k = i → m ≤ k → (∀ j, D.getD j false = decide (j < k)) → wpList P L.toArray Q (L.drop k) a w1 →
        wpOp P L.toArray Q i (fun a w' => (∃ val, HInv n L cls m alc σ w Φ (D.setIfInBounds i true) val a w') ∨ ∃ k, m < k ∧ k ≤ L.length ∧ (∀ j, (D.setIfInBounds i true).getD j false = decide (j < k)) ∧ wpList P L.toArray Q (L.drop k) a w') a w1 := by
      intro k hk hmk hD hw
      subst hk
      rw [List.drop_eq_getElem_cons hil] at hw
      have e : L[k] = o := by rw [List.getElem?_eq_getElem hil] at ho'; injection ho'
      rw [e] at hw
      unfold wpList at hw
      have hnext : ∀ a w', wpList P L.toArray Q (L.drop (k + 1)) a w' → (∃ val, HInv n L cls m alc σ w Φ (D.setIfInBounds k true) val a w') ∨ ∃ k', m < k' ∧ k' ≤ L.length ∧ (∀ j, (D.setIfInBounds k true).getD j false = decide (j < k')) ∧ wpList P L.toArray Q (L.drop k') a w' := fun a w' h => .inr ⟨k + 1, by omega, by omega, fun j => by
        rw [set_get (by omega)]
        by_cases e : j = k
        · subst e; simp
        · rw [if_neg e, hD]
          by_cases h : j < k
          · simp [h]; omega
          · simp [h]; omega, h⟩
      unfold wpOp
      simp only [ho]
      split
      · rename_i hw'
        rw [if_pos hw'] at hw
        rcases hw with h | h
        · exact .inl (Oper.wp_mono hnext h)
        · exact .inr h
      · rename_i hw'
        rw [if_neg hw'] at hw
        exact hnext _ _ hw
    rcases hI with ⟨val, I⟩ | ⟨k, hmk, hkl, hD, hw⟩
    · have hcd := tailDone D i o I.down ho' hdep
      rcases Nat.lt_or_ge i m with him | him
      · have henv : Env n (sgAt L cls m σ val i) a := by
          refine ⟨I.size, I.defers, fun t v ht => ?_⟩
          unfold sgAt at ht
          cases hfw : findW L t (clsAt cls i) with
          | some j =>
            simp only [hfw] at ht
            obtain ⟨h1, h2⟩ := findW_spec hfw
            injection ht with ht
            have hj := hcd j h1
            have hjm : j < m := by
              rcases Nat.lt_or_ge j m with h | h
              · exact h
              · rw [I.high j h] at hj; cases hj
            rw [I.new j t hjm hj h2, ht]
          | none =>
            simp only [hfw] at ht
            cases hob : oldB L cls i t m with
            | false => rw [hob] at ht; cases ht
            | true =>
              rw [hob] at ht
              refine I.old t v ht fun k hk hdk hd => ?_
              rcases oldB_spec hob k hk hd with rfl | h
              · rw [hnd] at hdk; cases hdk
              · have := I.down k hdk i h
                rw [hnd] at this; cases this
        have hjm : ∀ j, D.getD j false = true → j < m := fun j hj => by
          rcases Nat.lt_or_ge j m with h | h
          · exact h
          · rw [I.high j h] at hj; cases hj
        refine wpOp_mono ?_ (hstep i him val w1 a I.below henv fun j hj => I.says j (hjm j (hcd j hj)) (hcd j hj))
        rintro a' w' ⟨v, rfl, hb, hphi, halc⟩
        left
        have hgrow : Below w.heap.size w w' := I.below.trans (hb.mono I.below.size)
        have hdi : dstOf L i = o.dst := dstOf_at ho'
        refine ⟨upd val i v, ⟨hgrow, ?_, ?_, ?_, ?_, ?_, ?_, ?_, ?_, ?_⟩⟩
        · rw [put_size]; exact I.size
        · cases dstOf L i <;> exact I.defers
        · intro k d hk hdk hd
          rw [set_get (by omega)] at hdk
          by_cases e : k = i
          · subst e
            have hdn : d < n := H.small k o d ho' hk (by rw [← hdi]; exact hd)
            rw [hd]
            simp only [Act.put, upd, if_true]
            rw [Array.getElem?_setIfInBounds_self_of_lt (by rw [I.size]; exact hdn)]
          · rw [if_neg e] at hdk
            have hok : ∃ p, L[k]? = some p := ⟨L[k]'(by omega), by simp [show k < L.length by omega]⟩
            obtain ⟨p, hp⟩ := hok
            have hne : dstOf L i ≠ some d := by
              intro h'
              rcases Nat.lt_or_gt_of_ne e with hlt | hgt
              · exact H.dist k i p o d hp ho' hlt him (by rw [← dstOf_at hp]; exact hd) (by rw [← hdi]; exact h')
              · exact H.dist i k o p d ho' hp hgt hk (by rw [← hdi]; exact h') (by rw [← dstOf_at hp]; exact hd)
            have := I.new k d hk hdk hd
            simp only [upd, if_neg e]
            cases hdi' : dstOf L i with
            | none => exact this
            | some d' =>
              have : d' ≠ d := fun h => hne (by rw [hdi', h])
              simp only [Act.put, Array.getElem?_setIfInBounds_ne this]
              assumption
        · intro t u ht hno
          have h1 : a.tmps[t]? = some u := I.old t u ht fun k hk hdk => hno k hk (by rw [set_get (by omega)]; split <;> simp [hdk])
          have h2 : dstOf L i ≠ some t := hno i him (by rw [set_get (by omega), if_pos rfl])
          cases hdi' : dstOf L i with
          | none => exact h1
          | some d' =>
            have : d' ≠ t := fun h => h2 (by rw [hdi', h])
            simp only [Act.put, Array.getElem?_setIfInBounds_ne this]
            exact h1
        · intro k hk hdk
          rw [set_get (by omega)] at hdk
          by_cases e : k = i
          · subst e; exact hphi
          · rw [if_neg e] at hdk
            have hni' : i ∉ clsAt cls k := fun h => by
              have := I.down k hdk i h
              rw [hnd] at this; cases this
            rw [res_upd e hni']
            exact hmono k _ w1 w' hb (I.says k hk hdk)
        · intro k hdk j hj
          rw [set_get (by omega)] at hdk ⊢
          by_cases e : k = i
          · subst e
            rw [hcd j hj]; simp
          · rw [if_neg e] at hdk
            rw [I.down k hdk j hj]; simp
        · intro k hk hkm hdk
          rw [set_get (by omega)] at hdk
          by_cases e : k = i
          · subst e
            obtain ⟨h1, h2⟩ := halc hk
            exact ⟨w1.heap.size, by simp [upd, h1], I.below.size, h2⟩
          · rw [if_neg e] at hdk
            obtain ⟨g, h1, h2, h3⟩ := I.alc1 k hk hkm hdk
            exact ⟨g, by simp [upd, e, h1], h2, Nat.lt_of_lt_of_le h3 hb.size⟩
        · intro k hk j hj hkm hjm' hdk hdj hne
          rw [set_get (by omega)] at hdk hdj
          by_cases e : k = i
          · subst e
            have e2 : j ≠ k := Ne.symm hne
            rw [if_neg e2] at hdj
            obtain ⟨h1, _⟩ := halc hk
            obtain ⟨g, h3, _, h5⟩ := I.alc1 j hj hjm' hdj
            simp only [upd, if_true, if_neg e2, h1, h3]
            intro h
            injection h with h
            injection h with h
            injection h with h
            omega
          · rw [if_neg e] at hdk
            by_cases e2 : j = i
            · subst e2
              obtain ⟨h1, _⟩ := halc hj
              obtain ⟨g, h3, _, h5⟩ := I.alc1 k hk hkm hdk
              simp only [upd, if_true, if_neg e, h1, h3]
              intro h
              injection h with h
              injection h with h
              injection h with h
              omega
            · rw [if_neg e2] at hdj
              simp only [upd, if_neg e, if_neg e2]
              exact I.alc2 k hk j hj hkm hjm' hdk hdj hne
        · intro k hk
          rw [set_get (by omega), if_neg (by omega)]
          exact I.high k hk
      · have hall : ∀ j, j < i → D.getD j false = true := fun j hj => hcd j (H.tail i o ho' him j hj)
        have him' : i = m := by
          rcases Nat.lt_or_ge m i with h | h
          · have := hall m h
            rw [I.high m (Nat.le_refl _)] at this; cases this
          · omega
        subst him'
        exact takeTail i rfl (Nat.le_refl _) (fun j => by
          by_cases h : j < i
          · rw [hall j h]; simp [h]
          · rw [I.high j (by omega)]; simp [h]) (hEnd D val a w1 I hall)
    · have hcd : ∀ j, j < i → D.getD j false = true := fun j hj => by
        have hmi : m ≤ i := by
          have := hD i
          rw [hnd] at this
          have : ¬ i < k := by simpa using this.symm
          omega
        have hdn : ∀ i, D.getD i false = true → ∀ j ∈ clsAt cls i, D.getD j false = true := by
          intro x hx y hy
          rw [hD] at hx ⊢
          have hx' : x < k := by simpa using hx
          obtain ⟨p, hp⟩ : ∃ p, L[x]? = some p := ⟨L[x]'(by omega), by simp [show x < L.length by omega]⟩
          have : ∀ (x : Nat) (p : Oper), L[x]? = some p → ∀ y ∈ clsAt cls x, y < x := by
            intro x
            induction x using Nat.strongRecOn with
            | ind x ih =>
              intro p hp y hy
              obtain ⟨e, he, hb, h⟩ := H.dep x p hp y hy
              have h1 := H.back x p hp e he hb
              rcases h with rfl | h
              · exact h1
              · obtain ⟨q, hq⟩ : ∃ q, L[e.on]? = some q := by
                  have : x < L.length := (List.getElem?_eq_some_iff.1 hp).1
                  exact ⟨L[e.on]'(by omega), by simp [show e.on < L.length by omega]⟩
                have := ih e.on h1 q hq y h
                omega
          have := this x p hp y hy
          simp
          omega
        exact tailDone D i o hdn ho' hdep j (H.tail i o ho' hmi j hj)
      have hik : k = i := by
        have h1 := hD i
        rw [hnd] at h1
        have h2 : ¬ i < k := by simpa using h1.symm
        rcases Nat.lt_or_ge k i with h | h
        · have := hcd k h
          rw [hD] at this
          simp at this
        · omega
      exact takeTail k hik (by omega) hD hw
  · intro D a w1 hs hI hall
    have hs' : D.size = L.length := by simpa using hs
    rcases hI with ⟨val, I⟩ | ⟨k, hmk, hkl, hD, hw⟩
    · have hmL : m = L.length := by
        rcases Nat.lt_or_ge m L.length with h | h
        · have := hall m (by simpa using h)
          rw [I.high m (Nat.le_refl _)] at this; cases this
        · omega
      have := hEnd D val a w1 I fun i hi => hall i (by simp; omega)
      rw [hmL, List.drop_length] at this
      exact this
    · have hk : k = L.length := by
        rcases Nat.lt_or_ge k L.length with h | h
        · have := hall k (by simpa using h)
          rw [hD] at this
          simp at this
        · omega
      rw [hk, List.drop_length] at hw
      exact hw
end
end Go.Proofs.Ytncnlhkmdljgpaa
