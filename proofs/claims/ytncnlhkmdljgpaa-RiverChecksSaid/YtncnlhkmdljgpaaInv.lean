/- A region that draws its order, by an invariant: whichever operations have come up, one more that may come keeps it. -/
import Derived.Orders
namespace Go.Proofs.Ytncnlhkmdljgpaa
open Go

section
variable {P : Program} {ops : Array Oper} {Q : Exit → Act → World → Prop}

/-- every operation waits for earlier ones alone: by reckoning -/
def backB (ops : Array Oper) : Bool := (List.range ops.size).all fun i => match ops[i]? with
  | some o => o.after.all fun e => !Region.binds .any e || decide (e.on < i)
  | none => true
theorem backB_spec (h : backB ops = true) {i : Nat} {o : Oper} (ho : ops[i]? = some o) {e} (he : e ∈ o.after) (hb : Region.binds .any e = true) : e.on < i := by
  have hi := (Array.getElem?_eq_some_iff.1 ho).1
  have h1 := List.all_eq_true.1 h i (List.mem_range.2 hi)
  rw [ho] at h1
  have h2 := Array.all_eq_true_iff_forall_mem.1 h1 e he
  rw [hb] at h2
  simpa using h2
def openN (n : Nat) (listed : Array Bool) : Nat := ((List.range n).filter fun j => !listed.getD j true).length
theorem openN_lt {n i : Nat} {listed : Array Bool} (hi : i < n) (hs : listed.size = n) (hl : listed.getD i true = false) : openN n (listed.setIfInBounds i true) < openN n listed := by
  unfold openN
  have e : (List.range n).filter (fun j => !(listed.setIfInBounds i true).getD j true) = ((List.range n).filter fun j => !listed.getD j true).filter fun j => !(listed.setIfInBounds i true).getD j true := by
    rw [List.filter_filter]
    refine List.filter_congr fun j hj => ?_
    have hj' : j < n := List.mem_range.1 hj
    by_cases h : i = j
    · subst h
      simp [Array.getD, hs, hi]
    · simp [Array.getD, hs, hj', h]
  rw [e]
  refine List.length_filter_lt_length_iff_exists.2 ⟨i, ?_, ?_⟩
  · rw [List.mem_filter]
    exact ⟨List.mem_range.2 hi, by rw [hl]; rfl⟩
  · simp [Array.getD, hs, hi]

theorem wpAny_inv (hback : backB ops = true) (I : Array Bool → Act → World → Prop)
    (hstep : ∀ (L : Array Bool) (a : Act) (w : World) (i : Nat) (o : Oper), L.size = ops.size → I L a w → L.getD i true = false → ops[i]? = some o → (∀ e ∈ o.after, Region.binds .any e = true → L.getD e.on false = true) →
      wpOp P ops Q i (I (L.setIfInBounds i true)) a w)
    (hend : ∀ (L : Array Bool) (a : Act) (w : World), L.size = ops.size → I L a w → (∀ i, i < ops.size → L.getD i false = true) → Q .normal a w) :
    ∀ (fuel : Nat) (L : Array Bool) (a : Act) (w : World), L.size = ops.size → openN ops.size L ≤ fuel → I L a w → wpAny P .any ops Q fuel L a w := by
  have hall : ∀ (L : Array Bool), L.size = ops.size → Region.ready .any ops L = [] → ∀ i, i < ops.size → L.getD i false = true := by
    intro L hs hr i
    induction i using Nat.strongRecOn with
    | ind i ih =>
      intro hi
      rcases Bool.eq_false_or_eq_true (L.getD i false) with h | h
      · exact h
      · exfalso
        have hm : i ∈ Region.ready .any ops L := by
          refine mem_ready.2 ⟨?_, ops[i], Array.getElem?_eq_getElem hi, fun e he hb => ?_⟩
          · simp [Array.getD, hs, hi] at h ⊢
            exact h
          · have := backB_spec hback (Array.getElem?_eq_getElem hi) he hb
            exact ih e.on this (by omega)
        rw [hr] at hm
        cases hm
  intro fuel
  induction fuel with
  | zero =>
    intro L a w hs hf hI
    have hr : Region.ready .any ops L = [] := by
      refine List.eq_nil_iff_forall_not_mem.2 fun i hi => ?_
      obtain ⟨h1, o, ho, _⟩ := mem_ready.1 hi
      have := openN_lt (Array.getElem?_eq_some_iff.1 ho).1 hs h1
      omega
    exact ⟨hr, hend L a w hs hI (hall L hs hr)⟩
  | succ fuel ih =>
    intro L a w hs hf hI
    refine ⟨fun hr => hend L a w hs hI (hall L hs hr), fun i hi => ?_⟩
    obtain ⟨h1, o, ho, h2⟩ := mem_ready.1 hi
    have hlt := openN_lt (Array.getElem?_eq_some_iff.1 ho).1 hs h1
    exact wpOp_mono (fun a' w' h => ih _ a' w' (by simpa using hs) (by omega) h) (hstep L a w i o hs hI h1 ho h2)

theorem wp_region_inv {id : Nat} {a : Act} {w : World} (hm : P.follows .mixedOrders = true) (hback : backB ops = true) (I : Array Bool → Act → World → Prop)
    (h0 : I (Array.replicate ops.size false) a { w with drawn := w.drawn + 1 })
    (hstep : ∀ (L : Array Bool) (a : Act) (w : World) (i : Nat) (o : Oper), L.size = ops.size → I L a w → L.getD i true = false → ops[i]? = some o → (∀ e ∈ o.after, Region.binds .any e = true → L.getD e.on false = true) →
      wpOp P ops Q i (I (L.setIfInBounds i true)) a w)
    (hend : ∀ (L : Array Bool) (a : Act) (w : World), L.size = ops.size → I L a w → (∀ i, i < ops.size → L.getD i false = true) → Q .normal a w) : (Code.region id ops true).wp P Q a w := by
  refine wp_region_any hm (wpAny_inv hback I hstep hend _ _ _ _ (by simp) ?_ h0)
  unfold openN
  exact Nat.le_trans (List.length_filter_le _ _) (by simp)
end

/-! ### The frame as the frame before with what has come up laid over it -/
def dstN (ops : Array Oper) (i : Nat) : Option Tmp := (ops[i]?).bind (·.dst)
def lay (ops : Array Oper) (val : Nat → Value) (L : Array Bool) : List Nat → Act → Act
  | [], a => a
  | i :: l, a => lay ops val L l (if L.getD i false then a.put (dstN ops i) (val i) else a)
def upd (val : Nat → Value) (i : Nat) (v : Value) : Nat → Value := fun j => if j = i then v else val j
/-- no two operations write one slot: by reckoning -/
def distB (ops : Array Oper) : Bool := (List.range ops.size).all fun i => (List.range ops.size).all fun j => i == j || match dstN ops i, dstN ops j with
  | some x, some y => x != y
  | _, _ => true
section
variable {ops : Array Oper} {val : Nat → Value} {L : Array Bool}
theorem dist_spec (h : distB ops = true) {i j : Nat} {d : Tmp} (hi : dstN ops i = some d) (hj : dstN ops j = some d) : i = j := by
  have hlt : ∀ {k : Nat}, dstN ops k = some d → k < ops.size := by
    intro k hk
    unfold dstN at hk
    cases ho : ops[k]? with
    | none => rw [ho] at hk; cases hk
    | some o => exact (Array.getElem?_eq_some_iff.1 ho).1
  have h1 := List.all_eq_true.1 (List.all_eq_true.1 h i (List.mem_range.2 (hlt hi))) j (List.mem_range.2 (hlt hj))
  rw [hi, hj] at h1
  simpa using h1
theorem lay_other (i : Nat) (v : Value) : ∀ (l : List Nat) (a : Act), i ∉ l → lay ops (upd val i v) (L.setIfInBounds i true) l a = lay ops val L l a
  | [], _, _ => rfl
  | j :: l, a, h => by
    have hj : j ≠ i := fun e => h (by rw [e]; exact List.mem_cons_self)
    have e1 : (L.setIfInBounds i true).getD j false = L.getD j false := by
      by_cases hs : j < L.size
      · simp [Array.getD, hs, Ne.symm hj]
      · simp [Array.getD, hs]
    rw [lay, lay, e1, lay_other i v l _ (fun hm => h (List.mem_cons_of_mem _ hm))]
    simp [upd, hj]
theorem lay_put (hd : distB ops = true) {i : Nat} (v : Value) : ∀ (l : List Nat) (a : Act), i ∉ l → lay ops val L l (a.put (dstN ops i) v) = (lay ops val L l a).put (dstN ops i) v
  | [], _, _ => rfl
  | j :: l, a, h => by
    have hj : j ≠ i := fun e => h (by rw [e]; exact List.mem_cons_self)
    have hl : i ∉ l := fun hm => h (List.mem_cons_of_mem _ hm)
    rw [lay, lay]
    by_cases hL : L.getD j false = true
    · rw [if_pos hL, if_pos hL, Act.put_comm a v (val j) (fun d h1 h2 => hj (dist_spec hd h2 h1)), lay_put hd v l _ hl]
    · rw [if_neg hL, if_neg hL, lay_put hd v l _ hl]
/-- one more has come up -/
theorem lay_step (hd : distB ops = true) {i : Nat} (v : Value) (hi : i < L.size) (hL : L.getD i true = false) : ∀ (l : List Nat) (a : Act), l.Nodup → i ∈ l → lay ops (upd val i v) (L.setIfInBounds i true) l a = (lay ops val L l a).put (dstN ops i) v
  | [], _, _, h => by cases h
  | j :: l, a, hn, h => by
    obtain ⟨hjl, hn'⟩ := List.nodup_cons.1 hn
    have hL' : L.getD i false = false := by
      simp [Array.getD, hi] at hL ⊢
      exact hL
    by_cases hj : j = i
    · subst hj
      have e1 : (L.setIfInBounds j true).getD j false = true := by simp [Array.getD, hi]
      rw [lay, lay, if_pos e1, if_neg (by rw [hL']; simp), lay_other j v l _ hjl, ← lay_put hd v l a hjl]
      simp [upd]
    · have e1 : (L.setIfInBounds i true).getD j false = L.getD j false := by
        by_cases hs : j < L.size
        · simp [Array.getD, hs, Ne.symm hj]
        · simp [Array.getD, hs]
      rw [lay, lay, e1, lay_step hd v hi hL l _ hn' (by rcases List.mem_cons.1 h with e | e; exact absurd e.symm hj; exact e)]
      simp [upd, hj]
theorem put_eval_ne (a : Act) (d : Option Tmp) (v : Value) (s : Tmp) (h : d ≠ some s) : (a.put d v).eval (.tmp s) = a.eval (.tmp s) := by
  cases d with
  | none => rfl
  | some d =>
    have hne : d ≠ s := fun e => h (by rw [e])
    simp only [Act.put, Act.eval, Array.getD_eq_getD_getElem?, Array.getElem?_setIfInBounds_ne hne]
theorem put_eval_eq (a : Act) (v : Value) (s : Tmp) (h : s < a.tmps.size) : (a.put (some s) v).eval (.tmp s) = v := by
  simp [Act.put, Act.eval, Array.getD, h]
theorem put_size (a : Act) (d : Option Tmp) (v : Value) : (a.put d v).tmps.size = a.tmps.size := by cases d <;> simp [Act.put]
/-- a slot that nothing that has come up writes -/
theorem lay_eval_old (s : Tmp) (h : ∀ i, L.getD i false = true → dstN ops i ≠ some s) : ∀ (l : List Nat) (a : Act), (lay ops val L l a).eval (.tmp s) = a.eval (.tmp s)
  | [], _ => rfl
  | j :: l, a => by
    rw [lay, lay_eval_old s h l]
    by_cases hL : L.getD j false = true
    · rw [if_pos hL, put_eval_ne _ _ _ _ (h j hL)]
    · rw [if_neg hL]
/-- the slot of one that has come up -/
theorem lay_eval_new (hd : distB ops = true) {i : Nat} {s : Tmp} (hs : dstN ops i = some s) (hL : L.getD i false = true) : ∀ (l : List Nat) (a : Act), i ∈ l → s < a.tmps.size → (lay ops val L l a).eval (.tmp s) = val i
  | [], _, h, _ => by cases h
  | j :: l, a, h, hlt => by
    rw [lay]
    by_cases hil : i ∈ l
    · refine lay_eval_new hd hs hL l _ hil ?_
      split
      · rw [put_size]; exact hlt
      · exact hlt
    · obtain rfl : i = j := by
        rcases List.mem_cons.1 h with e | e
        · exact e
        · exact absurd e hil
      rw [if_pos hL, lay_put hd (val i) l a hil, hs, put_eval_eq]
      have : ∀ (l : List Nat) (a : Act), (lay ops val L l a).tmps.size = a.tmps.size := by
        intro l
        induction l with
        | nil => intro a; rfl
        | cons j l ih => intro a; rw [lay, ih]; split <;> simp [put_size]
      rw [this]
      exact hlt
theorem lay_all (h : ∀ i, i < ops.size → L.getD i false = true) (val : Nat → Value) : ∀ (l : List Nat) (a : Act), (∀ i ∈ l, i < ops.size) → lay ops val L l a = l.foldl (fun a i => a.put (dstN ops i) (val i)) a
  | [], _, _ => rfl
  | j :: l, a, hl => by rw [lay, if_pos (h j (hl j List.mem_cons_self)), lay_all h val l _ (fun i hi => hl i (List.mem_cons_of_mem _ hi)), List.foldl_cons]
theorem lay_none (h : ∀ i, L.getD i false = false) (val : Nat → Value) : ∀ (l : List Nat) (a : Act), lay ops val L l a = a
  | [], _ => rfl
  | j :: l, a => by rw [lay, if_neg (by rw [h j]; simp), lay_none h val l]
end
end Go.Proofs.Ytncnlhkmdljgpaa
