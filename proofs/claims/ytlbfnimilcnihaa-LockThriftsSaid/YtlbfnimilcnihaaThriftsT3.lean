/- E24, E16, E17, E25, E23, E27, E29, LkPile, ExX6, ExX7, ExX8, X8, LkSearch, LkNext, E30, ExX9: what LockThriftsProof needs of them (merged by trimpack.py). -/
import Derived.Test.YtlbfnimilcnihaaThriftsT2
set_option linter.unusedVariables false
set_option linter.unusedSimpArgs false
namespace Go.Proofs.Ytlbfnimilcnihaa
open Go Go.RowKit
/-- what is no row, from block b on, is as it was -/
def ZU (b : Nat) (W W' : World) : Prop := ∀ (j : Nat) (o : Obj), b ≤ j → W.heap[j]? = some o → o.isCells = false → W'.heap[j]? = some o
theorem ZU.of {b : Nat} {W W' : World} (h : KeepsOthers W W') : ZU b W W' := fun j o _ hj hc => h.same j o hj hc
theorem ZU.trans {b : Nat} {A B C : World} (h : ZU b A B) (k : ZU b B C) : ZU b A C := fun j o hb hj hc => k j o hb (h j o hb hj hc) hc
theorem ZU.mono {b c : Nat} {A B : World} (h : ZU b A B) (hc : b ≤ c) : ZU c A B := fun j o hb hj h2 => h j o (Nat.le_trans hc hb) hj h2
theorem ZU.refl (b : Nat) (A : World) : ZU b A A := fun _ _ _ h _ => h
theorem ZU.below {b : Nat} {A B : World} (h : Below A.heap.size A B) : ZU b A B := .of (QDg h)
/-- abides what is new, and what turns in blocks of the types U from block b on -/
def QA8 (b : Nat) (U : List Nat) (A B : World) : Prop := ∃ row, A.grownBy B row ∧ ∀ g, row = some g → b ≤ g ∧ ∃ T cs, memB U T = true ∧ Blk A g T cs
def QNX (b : Nat) (U : List Nat) (J : List It → World → Prop) : Prop := ∀ s A B, J s A → QA8 b U A B → J s B
section
variable {b : Nat} {U : List Nat} {A B : World}
theorem QA8.of_below (h : Below A.heap.size A B) : QA8 b U A B := ⟨none, ⟨h.os, h.tape, h.output, h.size, fun k hk _ => h.block k hk⟩, fun _ h => by cases h⟩
theorem QA8.blk {g T : Nat} {cs : Array Value} (h : QA8 b U A B) (hq : Blk A g T cs) (hT : memB U T = false) : Blk B g T cs := by
 obtain ⟨row, hg, hr⟩ := h;refine hq.grown hg fun e => ?_
 obtain ⟨_, T', cs', h1, h2⟩ := hr g e.symm
 unfold Blk at hq h2
 rw [hq] at h2
 injection h2 with h2
 injection h2 with _ h3
 rw [← h3, hT] at h1
 cases h1
theorem QA8.row {base e size n : Nat} {v : Value} {xs : List Value} (h : QA8 b U A B) (ho : A.ownsRow base e size v n xs) (hT : memB U e = false) : B.ownsRow base e size v n xs := by
 obtain ⟨hl, h0 | ⟨g, cap, cur, hv, hb, hk, h1⟩⟩ := ho
 ·exact ⟨hl, .inl h0⟩
 ·exact ⟨hl, .inr ⟨g, cap, cur, hv, hb, h.blk (cs := cur) hk hT, h1⟩⟩
theorem QA8.other {k : Nat} {o : Obj} (h : QA8 b U A B) (hk : A.heap[k]? = some o) (hc : o.isCells = false) : B.heap[k]? = some o := by
 obtain ⟨row, hg, hr⟩ := h;refine (hg.block k (Array.getElem?_eq_some_iff.1 hk).1 fun e => ?_).trans hk
 obtain ⟨_, T', cs', h1, h2⟩ := hr k e.symm
 unfold Blk at h2
 rw [hk] at h2
 injection h2 with h2
 subst h2
 cases hc
theorem QA8.size (h : QA8 b U A B) : A.heap.size ≤ B.heap.size := by
 obtain ⟨row, hg, _⟩ := h
 exact hg.size
theorem QA8.below {w0 : World} (h : QA8 b U A B) (hb : Below b w0 A) (hs : b ≤ A.heap.size) : Below b w0 B := by
 obtain ⟨row, hg, hr⟩ := h
 exact hb.grown hg hs fun g hgr => (hr g hgr).1
theorem Kp.turn {n0 : Nat} {S : List Nat} {w0 : World} {g : Nat} (h : Kp n0 S w0 A) (hg : A.grownBy B (some g)) (h1 : w0.heap.size ≤ g) (h2 : n0 ≤ w0.heap.size) : Kp n0 S w0 B :=
 ⟨hg.os.trans h.os, hg.tape.trans h.tape, hg.output.trans h.output, Nat.le_trans h.size hg.size, fun k hk => (hg.block k (by have := h.size; omega) (fun e => by injection e; omega)).trans (h.low k hk),
  fun k T cs hq hT => (h.blk k T cs hq hT).grown hg fun e => by injection e with e; have := hq.lt; omega⟩
end
/-- abides what is new, what turns in blocks of the types U from block b on, and what is no row from block m on -/
def Soft (b m : Nat) (U : List Nat) (A B : World) : Prop := ∃ row, A.grownBy B row ∧ ∀ g, row = some g → (b ≤ g ∧ ∃ T cs, memB U T = true ∧ Blk A g T cs) ∨ (m ≤ g ∧ ∃ o : Obj, A.heap[g]? = some o ∧ o.isCells = false)
def QAE (b m : Nat) (U : List Nat) (J : List It → World → Prop) : Prop := ∀ s A B, J s A → Soft b m U A B → J s B
section
variable {b m : Nat} {U : List Nat} {A B : World}
theorem Soft.of_turns (h : QA8 b U A B) : Soft b m U A B := let ⟨row, hg, hr⟩ := h; ⟨row, hg, fun g e => .inl (hr g e)⟩
theorem Soft.of_below (h : Below A.heap.size A B) : Soft b m U A B := .of_turns (.of_below h)
theorem Soft.mono {m' : Nat} (h : Soft b m U A B) (hm : m' ≤ m) : Soft b m' U A B := let ⟨row, hg, hr⟩ := h; ⟨row, hg, fun g e => by
 rcases hr g e with h1 | ⟨h1, h2⟩
 ·exact .inl h1
 ·exact .inr ⟨Nat.le_trans hm h1, h2⟩⟩
theorem Soft.blk {g T : Nat} {cs : Array Value} (h : Soft b m U A B) (hq : Blk A g T cs) (hT : memB U T = false) : Blk B g T cs := by
 obtain ⟨row, hg, hr⟩ := h;refine hq.grown hg fun e => ?_
 rcases hr g e.symm with ⟨_, T', cs', h1, h2⟩ | ⟨_, o, h1, h2⟩
 ·unfold Blk at hq h2
  rw [hq] at h2
  injection h2 with h2
  injection h2 with _ h3
  rw [← h3, hT] at h1
  cases h1
 ·unfold Blk at hq
  rw [hq] at h1
  injection h1 with h1
  subst h1
  cases h2
theorem Soft.row {base e size n : Nat} {v : Value} {xs : List Value} (h : Soft b m U A B) (ho : A.ownsRow base e size v n xs) (hT : memB U e = false) : B.ownsRow base e size v n xs := by
 obtain ⟨hl, h0 | ⟨g, cap, cur, hv, hb, hk, h1⟩⟩ := ho
 ·exact ⟨hl, .inl h0⟩
 ·exact ⟨hl, .inr ⟨g, cap, cur, hv, hb, h.blk (cs := cur) hk hT, h1⟩⟩
theorem Soft.below {w0 : World} (h : Soft b m U A B) (hb : Below b w0 A) (hs : b ≤ A.heap.size) (hm : b ≤ m) : Below b w0 B := by
 obtain ⟨row, hg, hr⟩ := h
 exact hb.grown hg hs fun g hgr => by rcases hr g hgr with h1 | h1 <;> omega
theorem Soft.other {k : Nat} {o : Obj} (h : Soft b m U A B) (hk : A.heap[k]? = some o) (hc : o.isCells = false) (hkm : k < m) : B.heap[k]? = some o := by
 obtain ⟨row, hg, hr⟩ := h;refine (hg.block k (Array.getElem?_eq_some_iff.1 hk).1 fun e => ?_).trans hk
 rcases hr k e.symm with ⟨_, T', cs', h1, h2⟩ | ⟨h1, _⟩
 ·unfold Blk at h2
  rw [hk] at h2
  injection h2 with h2
  subst h2
  cases hc
 ·omega
theorem Soft.size (h : Soft b m U A B) : A.heap.size ≤ B.heap.size := by
 obtain ⟨row, hg, _⟩ := h
 exact hg.size
theorem QAE.own {J : List It → World → Prop} (h : QAE b m U J) : OwnFrom m J := fun s W W' row hs hg hr => h s W W' hs ⟨row, hg, fun g e => .inr (hr g e)⟩
theorem QAE.stays {J : List It → World → Prop} (h : QAE b m U J) : QNX b U J := fun s A B hs ht => h s A B hs (.of_turns ht)
theorem QEP : QAE b m U fun _ _ => False := fun _ _ _ h _ => h
end
section
variable {P : Program} {n : Nat} {ds : List Deferred} {σ : Sg} {w : World} {Q : Exit → Act → World → Prop}
end
section
variable {P : Program} {ops : Array Oper} {Q : Exit → Act → World → Prop} {n l : Nat}
theorem QEd {o : Oper} {a : Act} {w : World} {K : Act → World → Prop} (hnd : ∀ c, o.op ≠ .defer c) (h : o.wp P a w K Q) : o.wpIn (Fence.wide.inRound l) n P a w K Q := by
 refine ⟨fun _ _ => trivial, ?_⟩
 rw [Oper.semAt_eq _ _ _ hnd]
 unfold Oper.wp at h
 generalize (execOp a.eval o).run P w = r at h ⊢
 have hd : ((Fence.wide.inRound l).depth.isSome = true → 1 ≤ n) := fun h => by simp [Fence.wide] at h
 cases r with
 | ok x w' =>
  cases x
  case value => exact h
  case skip => exact h
  case defer => exact h
  case enter f args => exact ⟨hd, ((callsIn_wide.2 h).inRound l).mono fun e w'' he => by cases e <;> exact he⟩
  case row row args =>
   refine ⟨hd, fun c cs _ => ?_⟩
   obtain ⟨v, w'', hv, hs⟩ := h c cs
   exact ⟨v, w'', hv, stepsIn_wide.2 hs⟩
  all_goals exact h.elim
 | halt x w' => cases x <;> exact h
theorem QCB (hnd : ∀ (i : Nat) (o : Oper), ops[i]? = some o → ∀ c, o.op ≠ .defer c) (hQ : ¬ LetsOut Q) : ∀ (is : List Nat) (a : Act) (w : World), wpOps P ops Q is a w → wpOpsIn (Fence.wide.inRound l) n P ops Q is a w
 | [], _, _, h => h
 | i :: rest, a, w, h => by
  unfold wpOpsIn
  unfold wpOps at h
  cases ho : ops[i]? with
  | none =>
   simp only [ho] at h ⊢
   exact QCB hnd hQ rest a w h
  | some o =>
   simp only [ho] at h ⊢
   by_cases hw : Region.wanted o (yielded ops a.tmps) = true
   ·simp only [hw, if_true] at h ⊢
    rcases h with h | h
    ·exact Oper.wpIn_mono (fun a' w' h' => QCB hnd hQ rest a' w' h') (QEd (hnd i o ho) h)
    ·exact absurd h.2 hQ
   ·simp only [hw, if_false, Bool.false_eq_true] at h ⊢
    exact ⟨fun _ _ => trivial, QCB hnd hQ rest _ _ h⟩
/-- no operation is a defer statement: by reckoning -/
def QCv (ops : Array Oper) : Bool := ops.all fun o => match o.op with | .defer _ => false | _ => true
theorem QBW (h : QCv ops = true) (i : Nat) (o : Oper) (ho : ops[i]? = some o) (c) : o.op ≠ .defer c := by
 intro e;obtain ⟨hi, rfl⟩ := Array.getElem?_eq_some_iff.1 ho;have := Array.all_eq_true.1 h i hi;rw [e] at this
 cases this
end
section
variable {P : Program} {n : Nat} {σ : Sg} {w : World} {Q : Exit → Act → World → Prop} {L : List Oper}
theorem ECI.regionO {id l : Nat} (hQ : ¬LetsOut Q) (hnd : QCv L.toArray = true) (h : ∀ a, Env n σ a → RO P L.toArray Q a w) : ECI (some l) 0 P n [] (.region id L.toArray true) Q σ w := fun a ha =>
 wpIn_region_draw fun t => QCB (QBW hnd) hQ _ _ _ (h a ha.e t)
/-! ### With deferred calls, outside of a round -/
def addD (ds : List Deferred) (a : Act) : Act := ⟨a.tmps, a.defers ++ ds⟩
theorem QHu (ds : List Deferred) (a : Act) (d : Option Tmp) (v : Value) : (addD ds a).put d v = addD ds (a.put d v) := by cases d <;> rfl
theorem QGJ (ds : List Deferred) (a : Act) : (addD ds a).eval = a.eval := by
 funext x
 cases x <;> rfl
theorem QGB {ds : List Deferred} (h : LetsOut (fun e a' w' => Q e (addD ds a') w')) : LetsOut Q := by
 obtain ⟨a, w, h⟩ := h
 exact ⟨_, w, h⟩
theorem QIY {ds : List Deferred} {o : Oper} {a : Act} {w : World} {K : Act → World → Prop} (h : o.wp P a w (fun a' w' => K (addD ds a') w') (fun e a' w' => Q e (addD ds a') w')) : o.wp P (addD ds a) w K Q := by
 unfold Oper.wp at h ⊢
 rw [QGJ]
 generalize (execOp a.eval o).run P w = r at h ⊢
 have pd := fun d v => QHu ds a d v
 cases r with
 | ok x w' =>
  cases x
  case value v => rw [Oper.upon_value] at h ⊢; rw [pd]; exact h
  case skip => rw [Oper.upon_skip] at h ⊢; rw [pd]; exact h
  case defer d =>
   rw [Oper.upon_defer] at h ⊢;have e : ({ addD ds a with defers := d :: (addD ds a).defers } : Act).put o.dst undef = addD ds (({ a with defers := d :: a.defers } : Act).put o.dst undef) := by cases o.dst <;> rfl
   rw [e]
   exact h
  case enter f args =>
   rw [Oper.upon_enter] at h ⊢;refine h.mono fun e w'' he => ?_
   cases e with
   | returned v => show K ((addD ds a).put o.dst v) w''; rw [pd]; exact he
   | panicked c => exact he
   | outgrown => exact QGB he
  case row row args =>
   intro c cs;obtain ⟨v, w'', hv, hs⟩ := h c cs
   exact ⟨v, w'', by show K ((addD ds a).put o.dst v) w''; rw [pd]; exact hv, hs⟩
  all_goals exact h.elim
 | halt x w' => cases x <;> exact h
theorem QF4 {ds : List Deferred} : ∀ (is : List Nat) (a : Act) (w : World), wpOps P L.toArray (fun e a' w' => Q e (addD ds a') w') is a w → wpOps P L.toArray Q is (addD ds a) w
 | [], _, _, h => h
 | i :: rest, a, w, h => by
  unfold wpOps at h ⊢
  cases ho : L.toArray[i]? with
  | none =>
   simp only [ho] at h ⊢
   exact QF4 rest a w h
  | some o =>
   simp only [ho] at h ⊢
   by_cases hw : Region.wanted o (yielded L.toArray a.tmps) = true
   ·rw [if_pos hw] at h
    rw [if_pos (show Region.wanted o (yielded L.toArray (addD ds a).tmps) = true from hw)]
    rcases h with h | h
    ·exact .inl (QIY (Oper.wp_mono (fun a' w' h' => QF4 rest a' w' h') h))
    ·refine .inr ⟨?_, QGB h.2⟩
     unfold Oper.asks
     rw [QGJ]
     exact h.1
   ·rw [if_neg hw] at h
    rw [if_neg (show ¬Region.wanted o (yielded L.toArray (addD ds a).tmps) = true from hw), QHu]
    exact QF4 rest _ w h
theorem ECI.regionD {id : Nat} {k : Nat} {ds : List Deferred} (h : ∀ a, Env n σ a → RO P L.toArray (fun e a' w' => Q e (addD ds a') w') a w) : ECI none k P n ds (.region id L.toArray true) Q σ w := fun a ha => by
 refine wpIn_wide.2 (wp_region_draw fun t => ?_)
 have h1 := QF4 _ _ _ (h ⟨a.tmps, []⟩ ha.env t);have e : addD ds ⟨a.tmps, []⟩ = a := by
  obtain ⟨tm, df⟩ := a;have : df = ds := ha.ds;subst this
  rfl
 rw [e] at h1
 exact h1
theorem EX.ofD {ds : List Deferred} (h : EXI n ds Q .normal σ w) : EX n (fun e a' w' => Q e (addD ds a') w') .normal σ w := fun a ha => h _ ⟨⟨ha.size, rfl, ha.get⟩, by show a.defers ++ ds = ds; rw [ha.defers]; rfl⟩
/-- a drawn region that only reads -/
theorem EO.regionQ (hm : P.follows .mixedOrders = true) (hB : lexQ L 0 L = true) (h : EQ P n L (fun w' => Below w.heap.size w w') (fun a' => ∀ w', Below w.heap.size w w' → Q .normal a' w') L σ) : ∀ a, Env n σ a → RO P L.toArray Q a w := fun a ha => by
 refine QKI hm (wpAny_of_quiet (C := fun w' => Below w.heap.size w w') (Q := fun a' => ∀ w', Below w.heap.size w w' → Q .normal a' w') (fun _ w' hw' h => h w' hw') _ _ _ _ ⟨rfl, rfl, rfl, Nat.le_refl _, fun _ _ => rfl⟩ ?_)
 have := QBh (C := fun w' => Below w.heap.size w w') (P := P) (Z := fun a' => ∀ w', Below w.heap.size w w' → Q .normal a' w') (fun j o cs b hj => lex_sel hB o (List.mem_of_getElem? (by simpa using hj)) cs b) L 0 (Array.replicate L.toArray.size false) a (by simp) (by simp) (fun j hj => by omega) (fun j _ hj => by simp [Array.getD, hj]) hB (h a ha)
 simpa using this
end
theorem Z8.below {n0 : Nat} {ds : List Deferred} {W W' : World} (h : Z8 n0 ds W) (hb : Below W.heap.size W W') : Z8 n0 ds W' := fun d hd => by
 obtain ⟨D, h1, h2, h3⟩ := h d hd
 exact ⟨D, h1, h2, (hb.block D (Array.getElem?_eq_some_iff.1 h3).1).trans h3⟩
theorem Z8.keeps {n0 : Nat} {ds : List Deferred} {W W' : World} (h : Z8 n0 ds W) (hk : KeepsOthers W W') : Z8 n0 ds W' := fun d hd => by
 obtain ⟨D, h1, h2, h3⟩ := h d hd
 exact ⟨D, h1, h2, hk.same _ _ h3 rfl⟩
theorem Z8.cons {n0 D : Nat} {ds : List Deferred} {W : World} (h : Z8 n0 ds W) (hD : n0 ≤ D) (hd : W.heap[D]? = some (.deferred (some []))) : Z8 n0 ({ target := .collected D, args := #[] } :: ds) W := fun d hm => by
 rcases List.mem_cons.1 hm with rfl | h1
 ·exact ⟨D, hD, rfl, hd⟩
 ·exact h d h1
/-- the marks of a world that has been, still there -/
structure MarksIn (n0 : Nat) (ds : List Deferred) (W0 W : World) : Prop where
 marks : Z8 n0 ds W
 old : Z8 n0 ds W0
theorem Z8.refl {n0 : Nat} {ds : List Deferred} {W : World} (h : Z8 n0 ds W) : MarksIn n0 ds W W := ⟨h, h⟩
theorem MarksIn.below {n0 : Nat} {ds : List Deferred} {W0 W W' : World} (h : MarksIn n0 ds W0 W) (hb : Below W.heap.size W W') : MarksIn n0 ds W0 W' := ⟨h.marks.below hb, h.old⟩
theorem MarksIn.keeps {n0 : Nat} {ds : List Deferred} {W0 W W' : World} (h : MarksIn n0 ds W0 W) (hk : KeepsOthers W W') : MarksIn n0 ds W0 W' := ⟨h.marks.keeps hk, h.old⟩
theorem MarksIn.fresh {n0 D : Nat} {ds : List Deferred} {W0 W : World} (h : MarksIn n0 ds W0 W) (hD : W0.heap.size ≤ D) (hm : ({ target := .collected D, args := #[] } : Deferred) ∈ ds) : False := by
 obtain ⟨D', _, h2, h3⟩ := h.old _ hm;have := (Array.getElem?_eq_some_iff.1 h3).1
 injection h2 with h2 _
 injection h2 with h2
 omega
theorem MarksIn.grown {n0 B : Nat} {ds : List Deferred} {W0 W W' : World} {row : Option Nat} (h : MarksIn n0 ds W0 W) (h3 : W0.heap.size ≤ B) (hg : W.grownBy W' row) (hr : ∀ r, row = some r → B ≤ r) : MarksIn n0 ds W0 W' := ⟨fun d hd => by
 obtain ⟨D, k1, k2, k3⟩ := h.marks d hd;obtain ⟨D', _, k5, k6⟩ := h.old d hd;have e : D' = D := by rw [k2] at k5; injection k5 with k5 _; injection k5 with k5; exact k5.symm
 subst e;have hlt := (Array.getElem?_eq_some_iff.1 k6).1
 exact ⟨D', k1, k2, (hg.block D' (Array.getElem?_eq_some_iff.1 k3).1 (fun e => by have := hr D' e.symm; omega)).trans k3⟩, h.old⟩
/-- a store into a block of cells leaves what is no cells -/
theorem YO {w w' : World} {g T : Nat} {cs : Array Value} (h : Blk w g T cs) (hg : w.grownBy w' (some g)) : KeepsOthers w w' := ⟨hg.size, fun j o ho hc => by
 refine (hg.block j (Array.getElem?_eq_some_iff.1 ho).1 fun e => ?_).trans ho
 injection e with e
 subst e
 unfold Blk at h
 rw [h] at ho
 injection ho with ho
 subst ho
 cases hc⟩
theorem QBK {n0 : Nat} {w w' : World} {base e size n : Nat} {v : Value} {xs : List Value} (h : w.ownsRow base e size v n xs) (ht : Took n0 w w') : w'.ownsRow base e size v n xs := by
 obtain ⟨hl, h0 | ⟨g, cap, cur, hv, hb, hk, h1⟩⟩ := h
 ·exact ⟨hl, .inl h0⟩
 ·exact ⟨hl, .inr ⟨g, cap, cur, hv, hb, ht.blk g e cur hk, h1⟩⟩
section
variable {P : Program} {ops : Array Oper} {Q : Exit → Act → World → Prop} {n l : Nat}
theorem QCW (hQ : ¬ LetsOut Q) : ∀ (L : List Oper) (a : Act) (w : World), (∀ o ∈ L, ∀ c, o.op ≠ .defer c) → wpList P ops Q L a w → wpListIn (Fence.wide.inRound l) n P ops Q L a w
 | [], _, _, _, h => h
 | o :: rest, a, w, hnd, h => by
  unfold wpListIn
  unfold wpList at h
  have hr : ∀ o ∈ rest, ∀ c, o.op ≠ .defer c := fun o ho => hnd o (List.mem_cons_of_mem _ ho)
  by_cases hw : Region.wanted o (yielded ops a.tmps) = true
  ·simp only [hw, if_true] at h ⊢
   rcases h with h | h
   ·exact Oper.wpIn_mono (fun a' w' h' => QCW hQ rest a' w' hr h') (QEd (hnd o (List.mem_cons_self ..)) h)
   ·exact absurd h.2 hQ
  ·simp only [hw, if_false, Bool.false_eq_true] at h ⊢
   exact ⟨fun _ _ => trivial, QCW hQ rest _ _ hr h⟩
theorem QGA {ds : List Deferred} : ∀ (L : List Oper) (a : Act) (w : World), wpList P ops (fun e a' w' => Q e (addD ds a') w') L a w → wpList P ops Q L (addD ds a) w
 | [], _, _, h => h
 | o :: rest, a, w, h => by
  unfold wpList at h ⊢
  by_cases hw : Region.wanted o (yielded ops a.tmps) = true
  ·rw [if_pos hw] at h
   rw [if_pos (show Region.wanted o (yielded ops (addD ds a).tmps) = true from hw)]
   rcases h with h | h
   ·exact .inl (QIY (Oper.wp_mono (fun a' w' h' => QGA rest a' w' h') h))
   ·refine .inr ⟨?_, QGB h.2⟩
    unfold Oper.asks
    rw [QGJ]
    exact h.1
  ·rw [if_neg hw] at h
   rw [if_neg (show ¬Region.wanted o (yielded ops (addD ds a).tmps) = true from hw), QHu]
   exact QGA rest _ w h
end
theorem QGw {L : List Oper} (h : QCv L.toArray = true) : ∀ o ∈ L, ∀ c, o.op ≠ .defer c := fun o ho => by
 obtain ⟨i, hi, rfl⟩ := List.getElem_of_mem ho
 exact QBW h i _ (by simp [hi])
theorem YX {id : Nat} {Q : Exit → Act → World → Prop} (h : ¬LetsOut Q) : ¬LetsOut (Exit.inBlock id Q) := h
theorem Zu {K : Act → World → Prop} {Q : Exit → Act → World → Prop} (h : ¬LetsOut Q) : ¬LetsOut (Exit.then K Q) := h
theorem Ye : ¬LetsOut (fun (_ : Exit) (_ : Act) (_ : World) => False) := fun ⟨_, _, h⟩ => h
section
variable {P : Program} {n : Nat} {σ : Sg} {w : World} {Q : Exit → Act → World → Prop} {L : List Oper}
theorem ECI.regionL {id l : Nat} (hQ : ¬LetsOut Q) (hnd : QCv L.toArray = true) (h : EL P n L Q L σ w) : ECI (some l) 0 P n [] (.region id L.toArray false) Q σ w := fun a ha =>
 wpIn_region_lit (QCW hQ L a w (QGw hnd) (h a ha.e))
theorem ECI.regionLD {id : Nat} {k : Nat} {ds : List Deferred} (h : EL P n L (fun e a' w' => Q e (addD ds a') w') L σ w) : ECI none k P n ds (.region id L.toArray false) Q σ w := fun a ha => by
 refine wpIn_wide.2 (wp_region_lit ?_);have h1 := QGA (ds := ds) L ⟨a.tmps, []⟩ w (h ⟨a.tmps, []⟩ ha.env);have e : addD ds ⟨a.tmps, []⟩ = a := by
  obtain ⟨tm, df⟩ := a;have : df = ds := ha.ds;subst this
  rfl
 rw [e] at h1
 exact h1
theorem EX.toI {e : Exit} (h : EXI n [] Q e σ w) : EX n Q e σ w := fun a ha => h a ha.g
theorem EX.doneM {fn : Func} {R : Ending → World → Prop} {v : Value} (hr : ∀ a, Env n σ a → (results fn a.tmps).run P w = .ok v w) (h : R (.returned v) w) : EX n (bodyPostM Fence.wide 0 P fn R) .ret σ w := fun a ha => by
 show LeavesInM Fence.wide 0 P fn a.tmps R a.defers .returning w
 rw [ha.defers]
 exact ⟨v, hr a ha, h⟩
end
section
variable {ro : Option Nat} {k : Nat} {P : Program} {n : Nat} {ds : List Deferred} {σ : Sg} {w : World} {Q : Exit → Act → World → Prop} {L : List Oper} {rest : List Oper}
theorem ELI.skip {d ty j t : Nat} {b : Bool} {op : Op} {pos : String} {af : Array Edge} {u : Value} (hj : ZV L j = some t) (ht : σ t = some u) (hb : QB6 b u = false) (hd : Nat.blt d n = true) (next : ELI ro k P n ds L Q rest (ins σ d undef) w) : ELI ro k P n ds L Q (⟨some d, op, ty, pos, af, some (j, b)⟩ :: rest) σ w := fun a ha => by
 have hw : Region.wanted (⟨some d, op, ty, pos, af, some (j, b)⟩ : Oper) (yielded L.toArray a.tmps) = false := by
  simp only [Region.wanted, QDS ha hj ht]
  cases u <;> first | rfl | (simp only [QB6] at hb; simpa using hb)
 unfold wpListIn
 rw [hw, if_neg (by simp)]
 exact ⟨fun _ _ => trivial, next _ (ha.put hd undef)⟩
theorem ELI.yieldg {d ty l j t : Nat} {b : Bool} {x y : Operand} {at' : Array TypeId} {pos : String} {af : Array Edge} {v : Value} {R : Ending → World → Prop} {fn : FuncId} {tmps : Array Value} {assign body : Code} (hj : ZV L j = some t) (ht : σ t = some (.bool b)) (hx : evS σ x = some (.func (.yield l) #[] #[])) (hy : evS σ y = some v) (hd : Nat.blt d n = true) (hi : (Instr.yield l #[v]).run P w = .ok (.round l fn tmps assign body) w) (hR : RoundIn Fence.wide 0 P l fn tmps assign body w R)
  (next : ∀ e w', R e w' → ∃ v, e = .returned v ∧ ELI ro k P n ds L Q rest (ins σ d v) w') : ELI ro k P n ds L Q (⟨some d, .call { callee := .value x, args := #[y], argTypes := at' }, ty, pos, af, some (j, b)⟩ :: rest) σ w := fun a ha => by
 have hr' : (execOp a.eval ⟨some d, .call { callee := .value x, args := #[y], argTypes := at' }, ty, pos, af, some (j, b)⟩).run P w = .ok (.round l fn tmps assign body) w := by
  simp only [execOp, resolve, List.map_toArray, List.map_cons, List.map_nil, ha.eval hx, ha.eval hy]
  simp [go_sem, Deferred.ofValue, hi]
 unfold wpListIn
 rw [if_pos (by simp [Region.wanted, QDS ha hj ht])]
 refine ⟨fun _ _ => trivial, ?_⟩
 rw [QBp (QCu hr' (fun d h => by cases h)), hr']
 refine ⟨QBz _ _, RoundIn.mono (QEU hR) fun e w' he => ?_⟩
 obtain ⟨v, rfl, hv⟩ := next e w' he
 exact hv _ (ha.put hd v)
end
section
variable {P : Program} {n : Nat} {σ : Sg} {w : World}
end
theorem QGj {b m : Nat} {U : List Nat} {A : World} {D : Nat} {o : Obj} (o' : Obj) (hm : m ≤ D) (hd : A.heap[D]? = some o) (hc : o.isCells = false) : Soft b m U A (A.putObj D o') :=
 ⟨some D, grownBy_putObj' A D o', fun g e => by injection e with e; subst e; exact .inr ⟨hm, o, hd, hc⟩⟩
end Go.Proofs.Ytlbfnimilcnihaa
namespace Go.Proofs.Ytlbfnimilcnihaa
open Go Go.RowKit Go.Maps Go.ChangeMaps Go.MapKept Go.WideElems
def R0 : Value → Option (DataW Unit × List MemPlace) := fun _ => some (.lit (.bool true), [])
/-- block b is a map of at most n entries; l: its entries -/
def MapV (P : Program) (k : TypeId) (w : World) (b n : Nat) (l : List (Value × Value)) : Prop :=
 ∃ es clock, w.heap[b]? = some (.map es clock) ∧ Fit P k R0 es clock ∧ es.size ≤ n ∧ es.toList.map (fun e => (e.key, e.val)) = l
section
variable {P : Program} {k : TypeId} {w w' : World} {b n r c : Nat} {l d : List (Value × Value)}
theorem MapV.lt (h : MapV P k w b n l) : b < w.heap.size := by
 obtain ⟨es, clock, hb, _⟩ := h
 exact (Array.getElem?_eq_some_iff.1 hb).1
theorem MapV.map (h : MapV P k w b n l) : ∃ es clock, w.heap[b]? = some (.map es clock) := by
 obtain ⟨es, clock, hb, _⟩ := h
 exact ⟨es, clock, hb⟩
theorem MapV.kept {row : Option Nat} (h : MapV P k w b n l) (hg : w.grownBy w' row) (hne : some b ≠ row) : MapV P k w' b n l := by
 have hlt := h.lt;obtain ⟨es, clock, hb, r⟩ := h
 exact ⟨es, clock, (hg.block b hlt hne).trans hb, r⟩
theorem MapV.below (h : MapV P k w b n l) (hb : Below w.heap.size w w') : MapV P k w' b n l :=
 h.kept (row := none) ⟨hb.os, hb.tape, hb.output, hb.size, fun k hk _ => hb.block k hk⟩ (by simp)
theorem MapV.len (h : MapV P k w b n l) : l.length ≤ n := by
 obtain ⟨es, clock, _, _, hs, rfl⟩ := h
 simpa using hs
theorem MapV.mono {m : Nat} (h : MapV P k w b n l) (hm : n ≤ m) : MapV P k w b m l := by
 obtain ⟨es, clock, h1, h2, hs, h3⟩ := h
 exact ⟨es, clock, h1, h2, by omega, h3⟩
theorem MapV.keys (h : MapV P k w b n l) : l.Pairwise fun p q => p.1 ≠ q.1 := by
 obtain ⟨es, clock, _, F, _, rfl⟩ := h;rw [List.pairwise_map]
 exact ((stamped_iff es clock).1 F.stamped).2.2
theorem MapV.store {t e : TypeId} {key val : Value} {kl : Lit} (h : MapV P k w b n l) (K : Keyed P k) (ht : P.underlying t = some (.map k e)) (hn : n < maxLen) (hkey : keyOf P k key = some kl) :
  ∃ w' l', (Instr.mapUpdate t (.map (some b)) key val).run P w = .ok () w' ∧ MapV P k w' b (n + 1) l' ∧ w.grownBy w' (some b) ∧ (key, val) ∈ l' ∧ (∀ x ∈ l', x = (key, val) ∨ (x ∈ l ∧ x.1 ≠ key)) ∧ ∀ x ∈ l, x ∈ l' ∨ x.1 = key := by
 obtain ⟨es, clock, hb, F, hs, rfl⟩ := h;have hgrow : ∀ o, w.grownBy (setBlock w b o) (some b) := fun o => ⟨rfl, rfl, rfl, by simp [setBlock], fun i _ hi => heap_setBlock_other hb _ (fun e => hi (by rw [e]))⟩
 obtain ⟨es', clock', hrun, F', _, _, _, _⟩ := fit_store (R' := R0) K ht hb F (Nat.lt_of_le_of_lt hs hn) (fun _ _ _ _ hz => hz) (val := val) hkey (yv := (.lit (.bool true), [])) rfl
 have huniq : ∀ es2 clock2, (Instr.mapUpdate t (.map (some b)) key val).run P w = .ok () (setBlock w b (.map es2 clock2)) → es' = es2 ∧ clock' = clock2 := fun es2 clock2 h2 => by
  rw [hrun] at h2
  injection h2 with _ e2
  have e3 := heap_setBlock_same hb (.map es' clock');rw [e2, heap_setBlock_same hb] at e3
  injection e3 with e3
  injection e3 with e4 e5
  exact ⟨e4.symm, e5.symm⟩
 rcases K.find w hkey es.toList F.keys with ⟨h1, h2⟩ | ⟨j, e0, h1, h2, h3⟩
 ·obtain ⟨rfl, rfl⟩ := huniq (es.push ⟨key, val, clock⟩) (clock + 1) (by simp [Instr.mapUpdate, run_underlying ht, MapKept.run_getObj_map hb, K.check w false hkey, h1, MapKept.run_setObj_map _ hb, Result.andThen, setBlock])
  refine ⟨_, _, hrun, ⟨_, _, heap_setBlock_same hb _, F', by simp; omega, rfl⟩, hgrow _, ?_, fun x hx => ?_, fun x hx => .inl ?_⟩
  ·simp
  ·simp only [Array.toList_push, List.map_append, List.map_cons, List.map_nil, List.mem_append, List.mem_singleton] at hx
   rcases hx with hx | hx
   ·refine .inr ⟨hx, ?_⟩
    obtain ⟨e1, he1, rfl⟩ := List.mem_map.1 hx
    exact h2 e1 he1
   ·exact .inl hx
  ·simp only [Array.toList_push, List.map_append, List.map_cons, List.map_nil, List.mem_append, List.mem_singleton]
   exact .inl hx
 ·have hj : es[j]? = some e0 := by simpa using h2
  obtain ⟨rfl, rfl⟩ := huniq (es.modify j (fun e' => { e' with key := key, val := val })) clock (by simp [Instr.mapUpdate, run_underlying ht, MapKept.run_getObj_map hb, K.check w false hkey, h1, hj, h3, K.stays w hkey, MapKept.run_setObj_map _ hb, Result.andThen, setBlock])
  have hlist : (es.modify j (fun e' => { e' with key := key, val := val })).toList = es.toList.set j { e0 with key := key, val := val } := by rw [Array.toList_modify, modify_eq_set _ _ _ _ h2]
  have hjl : j < es.toList.length := (List.getElem?_eq_some_iff.1 h2).1;refine ⟨_, _, hrun, ⟨_, _, heap_setBlock_same hb _, F', by simp; omega, rfl⟩, hgrow _, ?_, fun x hx => ?_, fun x hx => ?_⟩
  ·rw [hlist]
   exact List.mem_map.2 ⟨{ e0 with key := key, val := val }, List.mem_iff_getElem.2 ⟨j, by simpa using hjl, by simp⟩, rfl⟩
  ·rw [hlist] at hx
   obtain ⟨e1, he1, rfl⟩ := List.mem_map.1 hx;obtain ⟨i, hi, ex⟩ := List.getElem_of_mem he1;rw [List.getElem_set] at ex
   split at ex
   ·subst ex; exact .inl rfl
   ·rename_i hne
    have hi' : i < es.toList.length := by simpa using hi
    subst ex;refine .inr ⟨List.mem_map.2 ⟨_, List.getElem_mem hi', rfl⟩, ?_⟩;have h4 := other_key F h2 (List.getElem?_eq_getElem hi') (fun e1 => hne e1.symm)
    intro h5
    exact h4 (h5.trans h3.symm)
  ·rw [hlist]
   obtain ⟨e1, he1, rfl⟩ := List.mem_map.1 hx;obtain ⟨i, hi, ex⟩ := List.getElem_of_mem he1
   by_cases hij : i = j
   ·subst hij
    right
    rw [List.getElem?_eq_getElem hi, ex] at h2
    injection h2 with h2
    rw [h2]; exact h3
   ·left
    exact List.mem_map.2 ⟨e1, List.mem_iff_getElem.2 ⟨i, by simpa using hi, by rw [List.getElem_set, if_neg (fun e => hij e.symm)]; exact ex⟩, rfl⟩
/-- the map is ranged over by block r; d: what has come so far; c: how many are to come -/
def RangeV (P : Program) (k : TypeId) (w : World) (b r n : Nat) (l d : List (Value × Value)) (c : Nat) : Prop :=
 ∃ es clock since seen c0, w.heap[b]? = some (.map es clock) ∧ Fit P k R0 es clock ∧ es.size ≤ n ∧ es.toList.map (fun e => (e.key, e.val)) = l ∧
  w.heap[r]? = some (.mapIter (some b) since seen c0) ∧ (∀ x ∈ es.toList, x.born < since) ∧ (leftOf es seen).size = c ∧ since ≤ c0 ∧ since ≤ clock ∧
  (∀ x ∈ es.toList, seen.contains x.born = true → (x.key, x.val) ∈ d)
theorem RangeV.map (h : RangeV P k w b r n l d c) : MapV P k w b n l := by
 obtain ⟨es, clock, _, _, _, hb, F, hs, e, _⟩ := h
 exact ⟨es, clock, hb, F, hs, e⟩
theorem RangeV.lt (h : RangeV P k w b r n l d c) : r < w.heap.size := by
 obtain ⟨_, _, _, _, _, _, _, _, _, hr, _⟩ := h
 exact (Array.getElem?_eq_some_iff.1 hr).1
theorem RangeV.kept {row : Option Nat} (h : RangeV P k w b r n l d c) (hg : w.grownBy w' row) (h1 : some b ≠ row) (h2 : some r ≠ row) : RangeV P k w' b r n l d c := by
 have k1 := h.map.lt;have k2 := h.lt;obtain ⟨es, clock, since, seen, c0, hb, F, hs, e, hr, rest⟩ := h
 exact ⟨es, clock, since, seen, c0, (hg.block b k1 h1).trans hb, F, hs, e, (hg.block r k2 h2).trans hr, rest⟩
theorem RangeV.below (h : RangeV P k w b r n l d c) (hb : Below w.heap.size w w') : RangeV P k w' b r n l d c :=
 h.kept (row := none) ⟨hb.os, hb.tape, hb.output, hb.size, fun k hk _ => hb.block k hk⟩ (by simp) (by simp)
theorem MapV.range {t e : TypeId} (h : MapV P k w b n l) (ht : P.underlying t = some (.map k e)) :
  ∃ w', (Instr.range t (.map (some b))).run P w = .ok (.pointer (some ⟨w.heap.size, 0, none⟩)) w' ∧ RangeV P k w' b w.heap.size n l [] l.length ∧ Below w.heap.size w w' := by
 have hlt := h.lt;obtain ⟨es, clock, hb, F, hs, rfl⟩ := h;refine ⟨_, run_range_map w t k e b es clock ht hb, ⟨es, clock, clock, #[], clock, ((MapKept.heap_alloc w _).2 b hlt).trans hb, F, hs, rfl, (MapKept.heap_alloc w _).1, F.stamped.1, ?_, Nat.le_refl _, Nat.le_refl _, ?_⟩, (Below.refl _ _).alloc (Nat.le_refl _) _⟩
 ·simp [leftOf]
 ·intro x _ hx
  simp at hx
theorem RangeV.next (h : RangeV P k w b r n l d c) (ty : TypeId) :
  (c = 0 ∧ (∀ x ∈ l, x ∈ d) ∧ (Instr.next (.pointer (some ⟨r, 0, none⟩)) false ty).run P w = .ok (.tuple #[.bool false]) w) ∨
  ∃ key v w' c', (key, v) ∈ l ∧ (Instr.next (.pointer (some ⟨r, 0, none⟩)) false ty).run P w = .ok (.tuple #[.bool true, key, v]) w' ∧
   RangeV P k w' b r n l (d ++ [(key, v)]) c' ∧ c' < c ∧ w.grownBy w' (some r) ∧ w'.heap.size = w.heap.size ∧ (Instr.entry (.pointer (some ⟨r, 0, none⟩))).run P w' = .ok (.tuple #[key, v]) w' := by
 have hne : r ≠ b := fun e => by
  obtain ⟨es, clock, since, seen, c0, hb, _, _, _, hr, _⟩ := h;rw [e, hb] at hr
  cases hr
 obtain ⟨es, clock, since, seen, c0, hb, F, hs, rfl, hr, hold, rfl, hsc, hsk, hd⟩ := h
 rcases run_next_at (P := P) w ty r b since c0 seen es clock hr hb hold hsc with ⟨h0, hrun⟩ | ⟨e, he, w1, hal, hrun⟩
 ·refine .inl ⟨h0, fun x hx => ?_, hrun⟩
  obtain ⟨e1, he1, rfl⟩ := List.mem_map.1 hx
  exact hd e1 he1 (all_seen es seen h0 e1 he1)
 ·obtain ⟨hem, hes⟩ := mem_left he
  have hr1 : w1.heap[r]? = some (.mapIter (some b) since seen c0) := by rcases hal with rfl | rfl <;> exact hr
  have hb1 : w1.heap[b]? = some (.map es clock) := by rcases hal with rfl | rfl <;> exact hb
  have hset := heap_set (o' := .mapIter (some b) since (seen.push e.born) clock) hr1;have hb' : (setBlock w1 r (.mapIter (some b) since (seen.push e.born) clock)).heap[b]? = some (.map es clock) := (hset.2 b (fun e1 => hne e1.symm)).trans hb1
  have hst := (stamped_iff es clock).1 F.stamped;refine .inr ⟨e.key, e.val, _, _, List.mem_map.2 ⟨e, hem, rfl⟩, hrun, ⟨es, clock, since, seen.push e.born, clock, hb', F, hs, rfl, hset.1, hold, rfl, hsk, hsk, fun x hx hxs => ?_⟩, ?_, ?_, ?_, ?_⟩
  ·rw [Array.contains_iff_mem, Array.mem_push] at hxs
   rcases hxs with hxs | hxs
   ·exact List.mem_append.2 (.inl (hd x hx (Array.contains_iff_mem.2 hxs)))
   ·rw [born_inj hst.2.1 hx hem hxs]
    exact List.mem_append.2 (.inr (List.mem_singleton.2 rfl))
  ·exact left_shrinks es seen e he
  ·rcases hal with rfl | rfl <;> exact ⟨rfl, rfl, rfl, by simp [setBlock], fun i _ hi => hset.2 i (fun e1 => hi (by rw [e1]))⟩
  ·rcases hal with rfl | rfl <;> simp [setBlock]
  ·exact run_entry_at _ r b since seen es clock e hset.1 hb' hem hst.2.1
end
end Go.Proofs.Ytlbfnimilcnihaa
namespace Go.Proofs.Ytlbfnimilcnihaa
open Go Go.RowKit
/-- what taking the marks does, to all that is no mark -/
structure TookO (n0 : Nat) (w w' : World) : Prop where
 took : Took n0 w w'
 keep : ∀ (j : Nat) (o : Obj), w.heap[j]? = some o → (∀ x, o ≠ .deferred x) → w'.heap[j]? = some o
theorem QCM {P : Program} {fn : Func} {tmps : Array Value} {R : Ending → World → Prop} {n0 k : Nat} : ∀ (ds : List Deferred) (w : World), Z8 n0 ds w → ds.Nodup → (∀ w', TookO n0 w w' → ∃ v, (results fn tmps).run P w' = .ok v w' ∧ R (.returned v) w') → LeavesInM Fence.wide k P fn tmps R ds .returning w
 | [], w, _, _, h => h w ⟨⟨Below.refl _ _, rfl, fun _ _ _ h => h⟩, fun _ _ h _ => h⟩
 | d :: ds, w, hm, hd, h => by
  obtain ⟨D, hD, rfl, hw⟩ := hm d (List.mem_cons_self ..);have ho : ∀ j, j ≠ D → (w.putObj D (.deferred none)).heap[j]? = w.heap[j]? := fun j hj => World.putObj_heap_other hj
  refine ⟨by simp, .inl ⟨D, _, rfl, run_takeDeferred hw, QCM (n0 := n0) ds _ (fun d' hd' => ?_) (List.nodup_cons.1 hd).2 fun w' ht => h w' ?_⟩⟩
  ·obtain ⟨D', h1, rfl, h3⟩ := hm d' (List.mem_cons_of_mem _ hd')
   refine ⟨D', h1, rfl, (ho D' fun e => ?_).trans h3⟩
   subst e
   exact (List.nodup_cons.1 hd).1 hd'
  ·have hk : Kp n0 [] w (w.putObj D (.deferred none)) := Kp.putObj _ hD hw rfl
   refine ⟨⟨hk.below.trans ht.took.below, ht.took.size.trans (by simp), fun g T cs hg => ht.took.blk g T cs (hk.blk g T cs hg rfl)⟩, fun j o hj hn => ht.keep j o ((ho j fun e => ?_).trans hj) hn⟩
   subst e;rw [hw] at hj
   injection hj with hj
   exact hn _ hj.symm
section
variable {P : Program} {n : Nat} {ds : List Deferred} {σ : Sg} {w : World}
theorem EXI.doneO {fn : Func} {R : Ending → World → Prop} {n0 : Nat} {v : Value} (hm : Z8 n0 ds w) (hd : ds.Nodup) (hr : ∀ w', TookO n0 w w' → ∀ a, Env n σ a → (results fn a.tmps).run P w' = .ok v w') (h : ∀ w', TookO n0 w w' → R (.returned v) w') : EXI n ds (bodyPostM Fence.wide 0 P fn R) .ret σ w := fun a ha => by
 show LeavesInM Fence.wide 0 P fn a.tmps R a.defers .returning w
 rw [ha.ds]
 exact QCM ds w hm hd fun w' ht => ⟨v, hr w' ht ⟨a.tmps, []⟩ ha.env, h w' ht⟩
end
section
variable {A B : World} {n0 g : Nat} {S : List Nat} {o : Obj}
theorem Kp.other (hn : n0 ≤ g) (ho : A.heap[g]? = some o) (hc : o.isCells = false) (hg : A.grownBy B (some g)) : Kp n0 S A B :=
 ⟨hg.os, hg.tape, hg.output, hg.size, fun k hk => hg.block k (by have := (Array.getElem?_eq_some_iff.1 ho).1; omega) (fun e => by injection e; omega),
  fun k T cs hq _ => hq.grown hg fun e => by
   injection e with e
   subst e
   unfold Blk at hq
   rw [ho] at hq
   injection hq with hq
   subst hq
   cases hc⟩
theorem ZU.low {b : Nat} (hg : A.grownBy B (some g)) (h : g < b) : ZU b A B := fun j o hb hj _ => (hg.block j (Array.getElem?_eq_some_iff.1 hj).1 fun e => by injection e; omega).trans hj
theorem Z8.other {ds : List Deferred} (h : Z8 n0 ds A) (ho : A.heap[g]? = some o) (hn : ∀ x, o ≠ .deferred x) (hg : A.grownBy B (some g)) : Z8 n0 ds B := fun d hd => by
 obtain ⟨D, h1, h2, h3⟩ := h d hd;refine ⟨D, h1, h2, (hg.block D (Array.getElem?_eq_some_iff.1 h3).1 fun e => ?_).trans h3⟩
 injection e with e
 subst e;rw [h3] at ho
 injection ho with ho
 exact hn _ ho.symm
theorem Z8.keepsFrom {ds : List Deferred} {b : Nat} (h : Z8 n0 ds A) (hb : b ≤ n0) (hk : ZU b A B) : Z8 n0 ds B := fun d hd => by
 obtain ⟨D, h1, h2, h3⟩ := h d hd
 exact ⟨D, h1, h2, hk D _ (by omega) h3 rfl⟩
theorem MarksIn.other {ds : List Deferred} {W0 : World} (h : MarksIn n0 ds W0 A) (ho : A.heap[g]? = some o) (hn : ∀ x, o ≠ .deferred x) (hg : A.grownBy B (some g)) : MarksIn n0 ds W0 B := ⟨h.marks.other ho hn hg, h.old⟩
theorem MarksIn.soft {ds : List Deferred} {W0 : World} {b m : Nat} {U : List Nat} (h : MarksIn n0 ds W0 A) (hm : W0.heap.size ≤ m) (hs : Soft b m U A B) : MarksIn n0 ds W0 B := by
 obtain ⟨row, hg, hr⟩ := hs;refine ⟨fun d hd => ?_, h.old⟩
 obtain ⟨D, k1, k2, k3⟩ := h.marks d hd;obtain ⟨D', _, k5, k6⟩ := h.old d hd;have e : D' = D := by rw [k2] at k5; injection k5 with k5 _; injection k5 with k5; exact k5.symm
 subst e;have hlt := (Array.getElem?_eq_some_iff.1 k6).1;refine ⟨D', k1, k2, (hg.block D' (Array.getElem?_eq_some_iff.1 k3).1 (fun e => ?_)).trans k3⟩
 rcases hr D' e.symm with ⟨_, T, cs, _, h2⟩ | ⟨h1, _⟩
 ·unfold Blk at h2
  rw [k3] at h2
  cases h2
 ·omega
end
theorem MapV.at_ {P : Program} {k : TypeId} {w w' : World} {b n : Nat} {l : List (Value × Value)} (h : MapV P k w b n l) (hk : ∀ o, w.heap[b]? = some o → (∀ x, o ≠ .deferred x) → w'.heap[b]? = some o) : MapV P k w' b n l := by
 obtain ⟨es, clock, h1, h2⟩ := h
 exact ⟨es, clock, hk _ h1 (fun x e => by cases e), h2⟩
theorem Soft.mono2 {b m c : Nat} {U : List Nat} {A B : World} (h : Soft b m U A B) (hb : c ≤ b) (hm : c ≤ m := by omega) : Soft c c U A B := let ⟨row, hg, hr⟩ := h; ⟨row, hg, fun g e => by
 rcases hr g e with ⟨h1, h3⟩ | ⟨h1, h2⟩
 ·exact .inl ⟨Nat.le_trans hb h1, h3⟩
 ·exact .inr ⟨Nat.le_trans hm h1, h2⟩⟩
/-- what stays in a round: kept by what is new, and by turning the loop's own object l -/
structure FrOk (Fr : World → World → Prop) (l : Nat) : Prop where
 below : ∀ {A B : World}, Below A.heap.size A B → Fr A B
 put : ∀ {A : World} {o o' : Obj}, A.heap[l]? = some o → o.isCells = false → Fr A (A.putObj l o')
 trans : ∀ {A B C : World}, Fr A B → Fr B C → A.heap.size ≤ B.heap.size → Fr A C
/-- all blocks from b on, and below c, are as they were -/
def Same (b c : Nat) (A B : World) : Prop := ∀ j, b ≤ j → j < c → j < A.heap.size → B.heap[j]? = A.heap[j]?
theorem Same.below {b c : Nat} {A B : World} (h : Below A.heap.size A B) : Same b c A B := fun j _ _ h3 => h.block j h3
theorem Same.trans {b c : Nat} {A B C : World} (h : Same b c A B) (k : Same b c B C) (hs : A.heap.size ≤ B.heap.size) : Same b c A C := fun j h1 h2 h3 => (k j h1 h2 (Nat.lt_of_lt_of_le h3 hs)).trans (h j h1 h2 h3)
theorem Same.grown {b c : Nat} {A B : World} {row : Option Nat} (h : A.grownBy B row) (hr : ∀ g, row = some g → g < b ∨ c ≤ g) : Same b c A B := fun j h1 h2 h3 => h.block j h3 fun e => by rcases hr j e.symm with h4 | h4 <;> omega
theorem Same.refl {b c : Nat} (A : World) : Same b c A A := fun _ _ _ _ => rfl
theorem QIW {b c l : Nat} (h : l < b ∨ c ≤ l) : FrOk (Same b c) l := ⟨Same.below, fun ho _ j h1 h2 _ => World.putObj_heap_other (by rcases h with h | h <;> omega), Same.trans⟩
/-- all blocks from b on are as they were -/
def Zx (b : Nat) (A B : World) : Prop := ∀ j, b ≤ j → j < A.heap.size → B.heap[j]? = A.heap[j]?
theorem Zx.below {b : Nat} {A B : World} (h : Below A.heap.size A B) : Zx b A B := fun j _ h3 => h.block j h3
theorem Zx.trans {b : Nat} {A B C : World} (h : Zx b A B) (k : Zx b B C) (hs : A.heap.size ≤ B.heap.size) : Zx b A C := fun j h1 h3 => (k j h1 (Nat.lt_of_lt_of_le h3 hs)).trans (h j h1 h3)
theorem Zx.refl {b : Nat} (A : World) : Zx b A A := fun _ _ _ => rfl
theorem Zx.grown {b : Nat} {A B : World} {row : Option Nat} (h : A.grownBy B row) (hr : ∀ g, row = some g → g < b) : Zx b A B := fun j h1 h3 => h.block j h3 fun e => by have := hr j e.symm; omega
theorem QGm {b l : Nat} (h : l < b) : FrOk (Zx b) l := ⟨Zx.below, fun ho _ j h1 _ => World.putObj_heap_other (by omega), Zx.trans⟩
def QFo (Fr : Nat → World → World → Prop) (n0 : Nat) (S : List Nat) (l : Nat) (J Jx : List It → World → Prop) (pre : List It) (W : World) (e : Ending) (W' : World) : Prop :=
 Kp n0 S W W' ∧ ZU (l + 1) W W' ∧ Fr l W W' ∧ ((e = .returned (.bool true) ∧ J pre W') ∨ (e = .returned (.bool false) ∧ Jx pre W'))
def QEE (Fr : Nat → World → World → Prop) (U : List Nat) (P : Program) (gf : Nat) (caps : Array Value) (ok : It → World → Prop) (n0 : Nat) (S : List Nat) (all : List (List Int)) (w : World) : Prop :=
 ∀ (l : Nat) (J Jx : List It → World → Prop) (W : World), Below w.heap.size w W → w.heap.size ≤ l → l < W.heap.size → QAE (l + 1) (l + 1) U J → QAE (l + 1) (l + 1) U Jx →
  (∀ pre x W1, ok x W1 → J pre W1 → (pre ++ [x]).map (·.1) <+: all → QLR P l #[x.2] W1 (QFo Fr n0 S l J Jx (pre ++ [x]) W1)) →
  J [] W → Calls P gf (#[.func (.yield l) #[] #[]] ++ caps) W fun e W' => (∃ v, e = .returned v) ∧ Kp n0 S W W' ∧ ((∃ xs : List It, xs.map (·.1) = all ∧ J xs W') ∨ (∃ pre : List It, pre ≠ [] ∧ pre.map (·.1) <+: all ∧ Jx pre W'))
section
variable {P : Program} {n : Nat} {ds : List Deferred} {σ : Sg} {w : World} {Q : Exit → Act → World → Prop}
/-- a range over a function whose body answers for more (Fr); its variable is no box; the body may leave by ret (its exit: ret) -/
theorem QFz {U : List Nat} {Fr : Nat → World → World → Prop} {k : Nat} {g : Operand} {d : Nat} {assign body : Code} {gf : Nat} {caps : Array Value} (hg : evS σ g = some (.func (.func gf) #[] caps)) (eg : ∀ args w, (callFunc gf args).run P w = .ok (.enter gf args) w) (hd : Nat.blt d n = true)
  {ok : It → World → Prop} {n0 : Nat} {S : List Nat} {all : List (List Int)} (hit : QEE Fr U P gf caps ok n0 S all w) (hF : FrOk (Fr (w.heap.size + 1)) (w.heap.size + 1)) (hn0 : n0 ≤ w.heap.size)
  (I Ix : List It → World → Prop) (hIS : QAE w.heap.size w.heap.size U I) (hIxS : QAE w.heap.size w.heap.size U Ix) (h0 : I [] w) (hok : OwnFrom w.heap.size ok) (σ1 : It → Sg)
  (hassign : ∀ l x W K, (∀ a', EnvG n [] (σ1 x) a' → K a' W) → ECI (some l) 0 P n [] assign (Exit.then K (fun _ _ _ => False)) (ins σ d x.2) W)
  (hbody : ∀ l pre x W, (pre ++ [x]).map (·.1) <+: all → ok x W → I pre W → w.heap.size + 2 ≤ W.heap.size → ECI (some l) 0 P n [] body (fun e _ W' => ZU w.heap.size W W' ∧ Kp n0 S W W' ∧ Fr (w.heap.size + 1) W W' ∧ ((e = .normal ∧ I (pre ++ [x]) W') ∨ (e = .ret ∧ Ix (pre ++ [x]) W'))) (σ1 x) W)
  (hdone : ∀ D xs W, w.heap.size ≤ D → xs.map (·.1) = all → I xs W → Kp n0 S w W → W.heap[D]? = some (.deferred (some [])) → EXI n ({ target := .collected D, args := #[] } :: ds) Q .normal σ W)
  (hstop : ∀ D pre W, w.heap.size ≤ D → pre ≠ [] → pre.map (·.1) <+: all → Ix pre W → Kp n0 S w W → W.heap[D]? = some (.deferred (some [])) → EXI n ({ target := .collected D, args := #[] } :: ds) Q .ret σ W) :
  ECI none k P n ds (.rangeFunc g #[d] assign body) Q σ w := fun a ha => by
 have hI := hIS.own;have hIx := hIxS.own;refine wpIn_rangeFunc fun fn hfn => ?_
 obtain ⟨rec, hrec⟩ : ∃ rec : LoopState → Option Code → Loop, rec = fun st pe => { state := st, pending := pe, fn, tmps := a.tmps, params := #[d], assign, body, defers := w.heap.size } := ⟨_, rfl⟩
 obtain ⟨W1, eW1⟩ : ∃ W1, W1 = (w.alloc (.deferred (some []))).alloc (.loop (rec .ready none)) := ⟨_, rfl⟩;have hL := World.alloc_heap_new (w.alloc (.deferred (some []))) (.loop (rec .ready none));rw [World.size_alloc, ← eW1] at hL;have hD : W1.heap[w.heap.size]? = some (.deferred (some [])) := by rw [eW1]; exact (Below.heap_alloc _ _ _ (by simp)).trans (World.alloc_heap_new w _)
 have hs1 : W1.heap.size = w.heap.size + 2 := by rw [eW1]; simp
 have hI1 : I [] W1 := by rw [eW1]; exact hI.alloc _ (hI.alloc _ h0)
 have hB1 : Below w.heap.size w W1 := by rw [eW1]; exact ((Below.refl w.heap.size w).alloc (Nat.le_refl _) _).alloc (by simp) _
 have hK1 : Kp n0 S w W1 := by rw [eW1]; exact (Kp.alloc w hn0 _).trans (Kp.alloc _ (by simp; omega) _)
 refine ⟨w.heap.size + 1, [{ target := .collected w.heap.size, args := #[] }], W1, { target := .fn (.func gf) caps, args := #[.func (.yield (w.heap.size + 1)) #[] #[]] }, W1, gf, #[.func (.yield (w.heap.size + 1)) #[] #[]] ++ caps, W1, ?_, ?_, ?_, ?_, QBz _ _, ?_⟩
 ·rw [eW1, hrec]; exact run_enterLoop_outer _ _ _ _ _
 ·simp only [resolve, ha.eval hg]
  simp [go_sem]
 ·intro f' hf'; trivial
 ·simp [invoke, go_sem, eg]
 ·refine CallsIn.mono (QCc (hit (w.heap.size + 1) (fun pre W => I pre W ∧ w.heap.size + 2 ≤ W.heap.size ∧ W.heap[w.heap.size + 1]? = some (.loop (rec .ready none)) ∧ W.heap[w.heap.size]? = some (.deferred (some [])))
   (fun pre W => Ix pre W ∧ w.heap.size + 2 ≤ W.heap.size ∧ W.heap[w.heap.size + 1]? = some (.loop (rec .done (some .ret))) ∧ W.heap[w.heap.size]? = some (.deferred (some [])))
   W1 hB1 (by omega) (by omega) ?_ ?_ ?_ ⟨hI1, by omega, hL, hD⟩)) ?_
  ·rintro s A B ⟨h1, h2, h3, h4⟩ hb
   exact ⟨hIS s A B h1 (hb.mono2 (by omega)), Nat.le_trans h2 hb.size, hb.other h3 rfl (by omega), hb.other h4 rfl (by omega)⟩
  ·rintro s A B ⟨h1, h2, h3, h4⟩ hb
   exact ⟨hIxS s A B h1 (hb.mono2 (by omega)), Nat.le_trans h2 hb.size, hb.other h3 rfl (by omega), hb.other h4 rfl (by omega)⟩
  ·rintro pre x W hokx ⟨hi, hsz, hl, hk⟩ hpf
   have hlt : w.heap.size + 1 < W.heap.size := by omega
   have hy := run_yield (P := P) (args := #[x.2]) hl (by rw [hrec]; rfl)
   rw [hrec] at hy;refine ⟨fn, _, assign, body, hy, roundIn_of_wpIn hfn (hassign (w.heap.size + 1) x W _ (fun a' ha' => ?_) _ (QIy ha hd))⟩
   refine ⟨_, run_beginRound hl (by rw [hrec]), ?_⟩
   obtain ⟨W2, eW2⟩ : ∃ W2, W2 = W.putObj (w.heap.size + 1) (.loop { rec .ready none with state := .busy }) := ⟨_, rfl⟩;have hl2 : W2.heap[w.heap.size + 1]? = some (.loop { rec .ready none with state := .busy }) := by rw [eW2]; exact World.putObj_heap_same hlt
   have hk2 : W2.heap[w.heap.size]? = some (.deferred (some [])) := by rw [eW2]; exact (World.putObj_heap_other (by omega)).trans hk
   have hw2 : Kp n0 S W W2 := by rw [eW2]; exact Kp.putObj _ (by omega) hl rfl
   have hkw2 : ZU (w.heap.size + 1 + 1) W W2 := fun j o hj ho _ => by rw [eW2]; exact (World.putObj_heap_other (by omega)).trans ho
   have hF2 : Fr (w.heap.size + 1) W W2 := by rw [eW2]; exact hF.put hl rfl
   have hi2 : I pre W2 := by rw [eW2]; exact hI.putObj _ hi (by omega) hl rfl
   have hok2 : ok x W2 := by rw [eW2]; exact hok.putObj _ hokx (by omega) hl rfl
   have hsz2 : w.heap.size + 2 ≤ W2.heap.size := Nat.le_trans hsz hw2.size;rw [← eW2];refine wpIn_mono (hbody (w.heap.size + 1) pre x W2 hpf hok2 hi2 hsz2 a' ha') ?_
   rintro e a3 W3 ⟨hk3, hp3, hf3, h3⟩
   have hl3 := hk3 _ _ (by omega) hl2 rfl
   have hd3 := hk3 _ _ (by omega) hk2 rfl
   have fin : ∀ jump : Option Code, ∃ W4, (Instr.endRound (w.heap.size + 1) jump).run P W3 = .ok (.bool jump.isNone) W4 ∧ W4 = W3.putObj (w.heap.size + 1) (.loop (rec (if jump.isNone then .ready else .done) jump)) ∧ (Kp n0 S W W4 ∧ ZU (w.heap.size + 1 + 1) W W4 ∧ Fr (w.heap.size + 1) W W4) ∧ w.heap.size + 2 ≤ W4.heap.size ∧ W4.heap[w.heap.size + 1]? = some (.loop (rec (if jump.isNone then .ready else .done) jump)) ∧ W4.heap[w.heap.size]? = some (.deferred (some [])) := fun jump => by
    have hr := run_endRound (P := P) jump hl3;rw [hrec] at hr ⊢;have hk4 : Kp n0 S W3 (W3.putObj (w.heap.size + 1) (.loop (rec (if jump.isNone then .ready else .done) jump))) := Kp.putObj _ (by omega) hl3 rfl
    rw [hrec] at hk4
    exact ⟨_, hr, rfl, ⟨hw2.trans (hp3.trans hk4), (hkw2.trans (hk3.mono (by omega))).trans fun j o hj ho _ => (World.putObj_heap_other (by omega)).trans ho, hF.trans (hF.trans hF2 hf3 hw2.size) (hF.put hl3 rfl) (Nat.le_trans hw2.size hp3.size)⟩, Nat.le_trans hsz2 (Nat.le_trans hp3.size hk4.size), World.putObj_heap_same (Array.getElem?_eq_some_iff.1 hl3).1, (World.putObj_heap_other (by omega)).trans hd3⟩
   rcases h3 with ⟨rfl, hi3⟩ | ⟨rfl, hi3⟩
   ·obtain ⟨W4, hr, e4, k4, s4, l4, d4⟩ := fin none
    exact ⟨_, W4, hr, k4.1, k4.2.1, k4.2.2, .inl ⟨rfl, by rw [e4]; exact hI.putObj _ hi3 (by omega) hl3 rfl, s4, l4, d4⟩⟩
   ·obtain ⟨W4, hr, e4, k4, s4, l4, d4⟩ := fin (some .ret)
    exact ⟨_, W4, hr, k4.1, k4.2.1, k4.2.2, .inr ⟨rfl, by rw [e4]; exact hIx.putObj _ hi3 (by omega) hl3 rfl, s4, l4, d4⟩⟩
  ·rintro e W2 ⟨⟨v, rfl⟩, hkk, ⟨xs, hS, hi, hsz, hl, hk⟩ | ⟨pre, hne, hS, hi, hsz, hl, hk⟩⟩
   ·refine ⟨none, _, by have := run_endLoop (P := P) hl (by rw [hrec]; simp); rw [hrec] at this; exact this, ?_⟩
    exact hdone w.heap.size xs _ (Nat.le_refl _) hS (hI.putObj _ hi (by omega) hl rfl) (hK1.trans (hkk.trans (Kp.putObj _ (by omega) hl rfl))) ((World.putObj_heap_other (by omega)).trans hk) _ ⟨ha.env, by rw [List.singleton_append, ha.ds]⟩
   ·refine ⟨some .ret, _, by have := run_endLoop (P := P) hl (by rw [hrec]; simp); rw [hrec] at this; exact this, wpIn_ret ?_⟩
    exact hstop w.heap.size pre _ (Nat.le_refl _) hne hS (hIx.putObj _ hi (by omega) hl rfl) (hK1.trans (hkk.trans (Kp.putObj _ (by omega) hl rfl))) ((World.putObj_heap_other (by omega)).trans hk) _ ⟨ha.env, by rw [List.singleton_append, ha.ds]⟩
/-- a range over a function whose body answers for more (Fr); its variable is no box; the body may leave by JC (its exit: (.exit xi)) -/
theorem QLo {U : List Nat} {Fr : Nat → World → World → Prop} {k : Nat} {g : Operand} {d : Nat} {assign body : Code} {gf : Nat} {caps : Array Value} (hg : evS σ g = some (.func (.func gf) #[] caps)) (eg : ∀ args w, (callFunc gf args).run P w = .ok (.enter gf args) w) (hd : Nat.blt d n = true) {xi : Nat}
  {ok : It → World → Prop} {n0 : Nat} {S : List Nat} {all : List (List Int)} (hit : QEE Fr U P gf caps ok n0 S all w) (hF : FrOk (Fr (w.heap.size + 1)) (w.heap.size + 1)) (hn0 : n0 ≤ w.heap.size)
  (I Ix : List It → World → Prop) (hIS : QAE w.heap.size w.heap.size U I) (hIxS : QAE w.heap.size w.heap.size U Ix) (h0 : I [] w) (hok : OwnFrom w.heap.size ok) (σ1 : It → Sg)
  (hassign : ∀ l x W K, (∀ a', EnvG n [] (σ1 x) a' → K a' W) → ECI (some l) 0 P n [] assign (Exit.then K (fun _ _ _ => False)) (ins σ d x.2) W)
  (hbody : ∀ l pre x W, (pre ++ [x]).map (·.1) <+: all → ok x W → I pre W → w.heap.size + 2 ≤ W.heap.size → ECI (some l) 0 P n [] body (fun e _ W' => ZU w.heap.size W W' ∧ Kp n0 S W W' ∧ Fr (w.heap.size + 1) W W' ∧ ((e = .normal ∧ I (pre ++ [x]) W') ∨ (e = (.exit xi) ∧ Ix (pre ++ [x]) W'))) (σ1 x) W)
  (hdone : ∀ D xs W, w.heap.size ≤ D → xs.map (·.1) = all → I xs W → Kp n0 S w W → W.heap[D]? = some (.deferred (some [])) → EXI n ({ target := .collected D, args := #[] } :: ds) Q .normal σ W)
  (hstop : ∀ D pre W, w.heap.size ≤ D → pre ≠ [] → pre.map (·.1) <+: all → Ix pre W → Kp n0 S w W → W.heap[D]? = some (.deferred (some [])) → EXI n ({ target := .collected D, args := #[] } :: ds) Q (.exit xi) σ W) :
  ECI none k P n ds (.rangeFunc g #[d] assign body) Q σ w := fun a ha => by
 have hI := hIS.own;have hIx := hIxS.own;refine wpIn_rangeFunc fun fn hfn => ?_
 obtain ⟨rec, hrec⟩ : ∃ rec : LoopState → Option Code → Loop, rec = fun st pe => { state := st, pending := pe, fn, tmps := a.tmps, params := #[d], assign, body, defers := w.heap.size } := ⟨_, rfl⟩
 obtain ⟨W1, eW1⟩ : ∃ W1, W1 = (w.alloc (.deferred (some []))).alloc (.loop (rec .ready none)) := ⟨_, rfl⟩;have hL := World.alloc_heap_new (w.alloc (.deferred (some []))) (.loop (rec .ready none));rw [World.size_alloc, ← eW1] at hL;have hD : W1.heap[w.heap.size]? = some (.deferred (some [])) := by rw [eW1]; exact (Below.heap_alloc _ _ _ (by simp)).trans (World.alloc_heap_new w _)
 have hs1 : W1.heap.size = w.heap.size + 2 := by rw [eW1]; simp
 have hI1 : I [] W1 := by rw [eW1]; exact hI.alloc _ (hI.alloc _ h0)
 have hB1 : Below w.heap.size w W1 := by rw [eW1]; exact ((Below.refl w.heap.size w).alloc (Nat.le_refl _) _).alloc (by simp) _
 have hK1 : Kp n0 S w W1 := by rw [eW1]; exact (Kp.alloc w hn0 _).trans (Kp.alloc _ (by simp; omega) _)
 refine ⟨w.heap.size + 1, [{ target := .collected w.heap.size, args := #[] }], W1, { target := .fn (.func gf) caps, args := #[.func (.yield (w.heap.size + 1)) #[] #[]] }, W1, gf, #[.func (.yield (w.heap.size + 1)) #[] #[]] ++ caps, W1, ?_, ?_, ?_, ?_, QBz _ _, ?_⟩
 ·rw [eW1, hrec]; exact run_enterLoop_outer _ _ _ _ _
 ·simp only [resolve, ha.eval hg]
  simp [go_sem]
 ·intro f' hf'; trivial
 ·simp [invoke, go_sem, eg]
 ·refine CallsIn.mono (QCc (hit (w.heap.size + 1) (fun pre W => I pre W ∧ w.heap.size + 2 ≤ W.heap.size ∧ W.heap[w.heap.size + 1]? = some (.loop (rec .ready none)) ∧ W.heap[w.heap.size]? = some (.deferred (some [])))
   (fun pre W => Ix pre W ∧ w.heap.size + 2 ≤ W.heap.size ∧ W.heap[w.heap.size + 1]? = some (.loop (rec .done (some (.exit xi)))) ∧ W.heap[w.heap.size]? = some (.deferred (some [])))
   W1 hB1 (by omega) (by omega) ?_ ?_ ?_ ⟨hI1, by omega, hL, hD⟩)) ?_
  ·rintro s A B ⟨h1, h2, h3, h4⟩ hb
   exact ⟨hIS s A B h1 (hb.mono2 (by omega)), Nat.le_trans h2 hb.size, hb.other h3 rfl (by omega), hb.other h4 rfl (by omega)⟩
  ·rintro s A B ⟨h1, h2, h3, h4⟩ hb
   exact ⟨hIxS s A B h1 (hb.mono2 (by omega)), Nat.le_trans h2 hb.size, hb.other h3 rfl (by omega), hb.other h4 rfl (by omega)⟩
  ·rintro pre x W hokx ⟨hi, hsz, hl, hk⟩ hpf
   have hlt : w.heap.size + 1 < W.heap.size := by omega
   have hy := run_yield (P := P) (args := #[x.2]) hl (by rw [hrec]; rfl)
   rw [hrec] at hy;refine ⟨fn, _, assign, body, hy, roundIn_of_wpIn hfn (hassign (w.heap.size + 1) x W _ (fun a' ha' => ?_) _ (QIy ha hd))⟩
   refine ⟨_, run_beginRound hl (by rw [hrec]), ?_⟩
   obtain ⟨W2, eW2⟩ : ∃ W2, W2 = W.putObj (w.heap.size + 1) (.loop { rec .ready none with state := .busy }) := ⟨_, rfl⟩;have hl2 : W2.heap[w.heap.size + 1]? = some (.loop { rec .ready none with state := .busy }) := by rw [eW2]; exact World.putObj_heap_same hlt
   have hk2 : W2.heap[w.heap.size]? = some (.deferred (some [])) := by rw [eW2]; exact (World.putObj_heap_other (by omega)).trans hk
   have hw2 : Kp n0 S W W2 := by rw [eW2]; exact Kp.putObj _ (by omega) hl rfl
   have hkw2 : ZU (w.heap.size + 1 + 1) W W2 := fun j o hj ho _ => by rw [eW2]; exact (World.putObj_heap_other (by omega)).trans ho
   have hF2 : Fr (w.heap.size + 1) W W2 := by rw [eW2]; exact hF.put hl rfl
   have hi2 : I pre W2 := by rw [eW2]; exact hI.putObj _ hi (by omega) hl rfl
   have hok2 : ok x W2 := by rw [eW2]; exact hok.putObj _ hokx (by omega) hl rfl
   have hsz2 : w.heap.size + 2 ≤ W2.heap.size := Nat.le_trans hsz hw2.size;rw [← eW2];refine wpIn_mono (hbody (w.heap.size + 1) pre x W2 hpf hok2 hi2 hsz2 a' ha') ?_
   rintro e a3 W3 ⟨hk3, hp3, hf3, h3⟩
   have hl3 := hk3 _ _ (by omega) hl2 rfl
   have hd3 := hk3 _ _ (by omega) hk2 rfl
   have fin : ∀ jump : Option Code, ∃ W4, (Instr.endRound (w.heap.size + 1) jump).run P W3 = .ok (.bool jump.isNone) W4 ∧ W4 = W3.putObj (w.heap.size + 1) (.loop (rec (if jump.isNone then .ready else .done) jump)) ∧ (Kp n0 S W W4 ∧ ZU (w.heap.size + 1 + 1) W W4 ∧ Fr (w.heap.size + 1) W W4) ∧ w.heap.size + 2 ≤ W4.heap.size ∧ W4.heap[w.heap.size + 1]? = some (.loop (rec (if jump.isNone then .ready else .done) jump)) ∧ W4.heap[w.heap.size]? = some (.deferred (some [])) := fun jump => by
    have hr := run_endRound (P := P) jump hl3;rw [hrec] at hr ⊢;have hk4 : Kp n0 S W3 (W3.putObj (w.heap.size + 1) (.loop (rec (if jump.isNone then .ready else .done) jump))) := Kp.putObj _ (by omega) hl3 rfl
    rw [hrec] at hk4
    exact ⟨_, hr, rfl, ⟨hw2.trans (hp3.trans hk4), (hkw2.trans (hk3.mono (by omega))).trans fun j o hj ho _ => (World.putObj_heap_other (by omega)).trans ho, hF.trans (hF.trans hF2 hf3 hw2.size) (hF.put hl3 rfl) (Nat.le_trans hw2.size hp3.size)⟩, Nat.le_trans hsz2 (Nat.le_trans hp3.size hk4.size), World.putObj_heap_same (Array.getElem?_eq_some_iff.1 hl3).1, (World.putObj_heap_other (by omega)).trans hd3⟩
   rcases h3 with ⟨rfl, hi3⟩ | ⟨rfl, hi3⟩
   ·obtain ⟨W4, hr, e4, k4, s4, l4, d4⟩ := fin none
    exact ⟨_, W4, hr, k4.1, k4.2.1, k4.2.2, .inl ⟨rfl, by rw [e4]; exact hI.putObj _ hi3 (by omega) hl3 rfl, s4, l4, d4⟩⟩
   ·obtain ⟨W4, hr, e4, k4, s4, l4, d4⟩ := fin (some (.exit xi))
    exact ⟨_, W4, hr, k4.1, k4.2.1, k4.2.2, .inr ⟨rfl, by rw [e4]; exact hIx.putObj _ hi3 (by omega) hl3 rfl, s4, l4, d4⟩⟩
  ·rintro e W2 ⟨⟨v, rfl⟩, hkk, ⟨xs, hS, hi, hsz, hl, hk⟩ | ⟨pre, hne, hS, hi, hsz, hl, hk⟩⟩
   ·refine ⟨none, _, by have := run_endLoop (P := P) hl (by rw [hrec]; simp); rw [hrec] at this; exact this, ?_⟩
    exact hdone w.heap.size xs _ (Nat.le_refl _) hS (hI.putObj _ hi (by omega) hl rfl) (hK1.trans (hkk.trans (Kp.putObj _ (by omega) hl rfl))) ((World.putObj_heap_other (by omega)).trans hk) _ ⟨ha.env, by rw [List.singleton_append, ha.ds]⟩
   ·refine ⟨some (.exit xi), _, by have := run_endLoop (P := P) hl (by rw [hrec]; simp); rw [hrec] at this; exact this, wpIn_exit ?_⟩
    exact hstop w.heap.size pre _ (Nat.le_refl _) hne hS (hIx.putObj _ hi (by omega) hl rfl) (hK1.trans (hkk.trans (Kp.putObj _ (by omega) hl rfl))) ((World.putObj_heap_other (by omega)).trans hk) _ ⟨ha.env, by rw [List.singleton_append, ha.ds]⟩
end
/-! ### What turns blocks of some types, at some places -/
inductive TurnsS (p : Nat → Prop) (U : List Nat) (A : World) : World → Prop
 | refl : TurnsS p U A A
 | more {B C : World} (h : TurnsS p U A B) (hb : Below B.heap.size B C) : TurnsS p U A C
 | turn {B C : World} {g T : Nat} {cs : Array Value} (h : TurnsS p U A B) (hg : B.grownBy C (some g)) (hp : p g) (hT : memB U T = true) (hq : Blk B g T cs) : TurnsS p U A C
section
variable {p : Nat → Prop} {U : List Nat} {A B C : World}
theorem TurnsS.size (h : TurnsS p U A B) : A.heap.size ≤ B.heap.size := by
 induction h with
 | refl => exact Nat.le_refl _
 | more _ hb ih => exact Nat.le_trans ih hb.size
 | turn _ hg _ _ _ ih => exact Nat.le_trans ih hg.size
theorem TurnsS.trans (h : TurnsS p U A B) (k : TurnsS p U B C) : TurnsS p U A C := by
 induction k with
 | refl => exact h
 | more _ hb ih => exact .more ih hb
 | turn _ hg hp hT hq ih => exact .turn ih hg hp hT hq
theorem TurnsS.of_below (hb : Below A.heap.size A B) : TurnsS p U A B := .more .refl hb
theorem Y2 {g h T T2 : Nat} {cs ds : Array Value} (hq : Blk A g T cs) (hr : Blk A h T2 ds) (h1 : memB U T = false) (h2 : memB U T2 = true) : g ≠ h := fun e => by
 subst e
 unfold Blk at hq hr
 rw [hq] at hr
 injection hr with hr
 injection hr with _ hr
 rw [← hr, h1] at h2
 cases h2
theorem TurnsS.blk {g T : Nat} {cs : Array Value} (h : TurnsS p U A B) (hq : Blk A g T cs) (hT : memB U T = false) : Blk B g T cs := by
 induction h with
 | refl => exact hq
 | more _ hb ih => exact ih.below hb ih.lt
 | turn _ hg _ hT2 hr ih => exact ih.grown hg fun e => Y2 ih hr hT hT2 (Option.some.inj e)
theorem TurnsS.row {base e size n : Nat} {v : Value} {xs : List Value} (h : TurnsS p U A B) (ho : A.ownsRow base e size v n xs) (hT : memB U e = false) : B.ownsRow base e size v n xs := by
 obtain ⟨hl, h0 | ⟨g, cap, cur, hv, hb, hk, h1⟩⟩ := ho
 ·exact ⟨hl, .inl h0⟩
 ·exact ⟨hl, .inr ⟨g, cap, cur, hv, hb, h.blk (cs := cur) hk hT, h1⟩⟩
theorem TurnsS.keeps (h : TurnsS p U A B) : KeepsOthers A B := by
 induction h with
 | refl => exact ⟨Nat.le_refl _, fun _ _ h _ => h⟩
 | more _ hb ih => exact ⟨Nat.le_trans ih.size hb.size, fun j o hj hc => (QDg hb).same j o (ih.same j o hj hc) hc⟩
 | turn _ hg _ _ hq ih => exact ⟨Nat.le_trans ih.size hg.size, fun j o hj hc => (YO hq hg).same j o (ih.same j o hj hc) hc⟩
theorem TurnsS.kp {n0 : Nat} {S : List Nat} (h : TurnsS p U A B) (hS : ∀ T, memB U T = true → memB S T = true) (hp : ∀ g, p g → n0 ≤ g) (hn : n0 ≤ A.heap.size) : Kp n0 S A B := by
 induction h with
 | refl => exact Kp.refl _ _ _
 | more h hb ih => exact ih.trans (Kp.of_below hb (Nat.le_trans hn h.size))
 | turn _ hg h1 h2 hq ih => exact ih.trans (Kp.grown hq (hS _ h2) (hp _ h1) hg)
theorem TurnsS.same {b c : Nat} (h : TurnsS p U A B) (hp : ∀ g, p g → g < b ∨ c ≤ g) : Same b c A B := by
 induction h with
 | refl => exact Same.refl _
 | more h hb ih => exact ih.trans (Same.below hb) h.size
 | turn h hg h1 _ _ ih => exact ih.trans (Same.grown hg fun g e => by injection e with e; subst e; exact hp _ h1) h.size
/-- an assertion that stays through single turns stays through all -/
theorem TurnsS.keep {J : World → Prop} (h : TurnsS p U A B) (hJ : ∀ X Y, J X → A.heap.size ≤ X.heap.size → Below X.heap.size X Y → J Y) (hK : ∀ X Y g T cs, J X → X.grownBy Y (some g) → p g → memB U T = true → Blk X g T cs → J Y) (h0 : J A) : J B := by
 induction h with
 | refl => exact h0
 | more h hb ih => exact hJ _ _ ih h.size hb
 | turn _ hg h1 h2 hq ih => exact hK _ _ _ _ _ ih hg h1 h2 hq
end
/-! ### Drafts and piles -/
theorem Yh {w : World} {base b e size n : Nat} {v : Value} {xs : List Value} (ho : w.ownsRow base e size v n xs) (h : b ≤ base) : w.ownsRow b e size v n xs := by
 obtain ⟨hl, h0 | ⟨g, cap, cur, hv, hb, hk, h1⟩⟩ := ho
 ·exact ⟨hl, .inl h0⟩
 ·exact ⟨hl, .inr ⟨g, cap, cur, hv, Nat.le_trans h hb, hk, h1⟩⟩
structure OwnDr (w : World) (base : Nat) (v : Value) (d : Dr) : Prop where
 at_ : ∃ b sl, v = .pointer (some ⟨b, 0, none⟩) ∧ base ≤ b ∧ Blk w b 124 (stC d.s ++ [sl]).toArray ∧ w.ownsRow base 87 2 sl d.plan.length (spsC d.plan)
section
variable {w w' : World} {base : Nat} {v : Value} {d : Dr}
theorem QLv : ∀ {l : List Value} {k : Nat} {u : Value}, l[k]? = some u → nth l k = some u := fun {l k u} h => (QHw l k).trans h
theorem OwnDr.rd (h : OwnDr w base v d) : RdDr w w.heap.size v d := by
 obtain ⟨b, sl, e, _, hq, hr⟩ := h.at_
 exact ⟨b, sl, e, hq.lt, fun j u hu => hq.at (QLv hu), Rd.of_own hr⟩
theorem OwnDr.below (h : OwnDr w base v d) (hb : Below w.heap.size w w') : OwnDr w' base v d := by
 obtain ⟨b, sl, e, h1, hq, hr⟩ := h.at_
 exact ⟨b, sl, e, h1, hq.below hb hq.lt, ZE hr hb (Nat.le_refl _)⟩
theorem OwnDr.turn {p : Nat → Prop} {U : List Nat} (h : OwnDr w base v d) (ht : TurnsS p U w w') (h1 : memB U 124 = false) (h2 : memB U 87 = false) : OwnDr w' base v d := by
 obtain ⟨b, sl, e, h3, hq, hr⟩ := h.at_
 exact ⟨b, sl, e, h3, ht.blk hq h1, ht.row hr h2⟩
theorem OwnDr.kp {n0 : Nat} {S : List Nat} (h : OwnDr w base v d) (ht : Kp n0 S w w') (h1 : memB S 124 = false) (h2 : memB S 87 = false) : OwnDr w' base v d := by
 obtain ⟨b, sl, e, h3, hq, hr⟩ := h.at_
 exact ⟨b, sl, e, h3, ht.blk _ _ _ hq h1, ht.row hr h2⟩
theorem OwnDr.soft {b m : Nat} {U : List Nat} (h : OwnDr w base v d) (ht : Soft b m U w w') (h1 : memB U 124 = false) (h2 : memB U 87 = false) : OwnDr w' base v d := by
 obtain ⟨c, sl, e, h3, hq, hr⟩ := h.at_
 exact ⟨c, sl, e, h3, ht.blk hq h1, ht.row hr h2⟩
theorem OwnDr.mono {b : Nat} (h : OwnDr w base v d) (hb : b ≤ base) : OwnDr w b v d := by
 obtain ⟨c, sl, e, h3, hq, hr⟩ := h.at_
 exact ⟨c, sl, e, Nat.le_trans hb h3, hq, Yh hr hb⟩
end
abbrev VD := Value × Dr
def vd0 : VD := (undef, dr0)
theorem QKJ {w : World} {B n c : Nat} {A : Option Addr} {xs : List Value} (hr : Rd w B 1 (.slice A n c) n xs) {k : Nat} (hk : k < xs.length) : ∃ b off, A = some ⟨b, off, none⟩ ∧ b < B ∧ w.cell? ⟨b, off + k, none⟩ = some (xs.getD k undef) := by
 have hn : n * 1 = xs.length := hr.len.symm;obtain ⟨b, off, e, hb, hc⟩ := hr.at_ (by omega)
 exact ⟨b, off, e, hb, hc k _ (by rw [Zj hk]; exact List.getElem?_eq_getElem hk)⟩
theorem QAZ {w : World} {base e g m c : Nat} {xs : List Value} (h : w.ownsRow base e 1 (.slice (some ⟨g, 0, none⟩) m c) m xs) {k : Nat} (hk : k < xs.length) : w.cell? ⟨g, 0 + k, none⟩ = some (xs.getD k undef) := by
 obtain ⟨b, off, e1, _, h1⟩ := QKJ (Rd.of_own h) hk
 injection e1 with e1
 injection e1 with e2 e3
 subst e2;subst e3
 exact h1
theorem Z_ {w : World} {base e size n : Nat} {v : Value} {xs : List Value} (h : w.ownsRow base e size v n xs) (hn : 0 < n) : ∃ g c, v = .slice (some ⟨g, 0, none⟩) n c := by
 obtain ⟨_, ⟨_, h0⟩ | ⟨g, cap, cur, hv, _⟩⟩ := h
 ·omega
 ·exact ⟨g, cap, hv⟩
theorem QBV {w : World} {base e size n c : Nat} {A : Option Addr} {xs : List Value} (h : w.ownsRow base e size (.slice A n c) n xs) : n ≤ c := by
 obtain ⟨hl, ⟨h0, h1⟩ | ⟨g2, cap, cur, hv, hb, hg, h1, h2, h3, h4⟩⟩ := h
 ·omega
 ·injection hv with _ _ hc
  omega
/-- the first k elements of a row of one's own -/
theorem QJQ {w : World} {base e n k g c : Nat} {xs : List Value} (h : w.ownsRow base e 1 (.slice (some ⟨g, 0, none⟩) n c) n xs) (hk : k ≤ n) : w.ownsRow base e 1 (.slice (some ⟨g, 0, none⟩) k c) k (xs.take k) := by
 obtain ⟨hl, ⟨h0, _⟩ | ⟨g2, cap, cur, hv, hb, hg, h1, h2, h3, h4⟩⟩ := h
 ·cases h0
 ·injection hv with hv _ hc
  injection hv with hv
  injection hv with hv _
  subst hv;subst hc;refine ⟨by rw [List.length_take]; omega, .inr ⟨g, c, cur, rfl, hb, hg, by omega, h2, h3, ?_⟩⟩
  rw [← h4, List.take_take]
  congr 1
  omega
theorem QBl {w w' : World} {g : Nat} (h : Touch w w' [g]) : w.grownBy w' (some g) := ⟨h.os, h.tape, h.output, h.size, fun k hk hn => h.block k hk (by simp; exact fun e => hn (congrArg some e))⟩
theorem TurnsS.own {p : Nat → Prop} {U : List Nat} {A B C : World} {base e size n : Nat} {v : Value} {xs : List Value} (h : TurnsS p U A B) (ho : B.ownsRow base e size v n xs) (hg : B.grownBy C v.ownBlock) (hp : ∀ g, v.ownBlock = some g → p g) (hU : memB U e = true) : TurnsS p U A C := by
 obtain ⟨_, ⟨h0, _⟩ | ⟨g, cap, cur, hv, _, hb, _⟩⟩ := ho
 ·subst h0
  exact .more h ⟨hg.os, hg.tape, hg.output, hg.size, fun k hk => hg.block k hk (fun e => by cases e)⟩
 ·subst hv
  exact .turn (g := g) (T := e) (cs := cur) h hg (hp g rfl) hU hb
theorem QBx {ps : List VD} {k : Nat} (hk : k < ps.length) : (ps.map Prod.fst).getD k undef = (ps.getD k vd0).1 := by
 rw [Zj (by simpa using hk), Zj hk]
 simp
theorem QIT : ∀ (l : List Value) (k : Nat) (v : Value), k < l.length → spl l k [v] = l.set k v := fun l k v hk => by
 rw [QCS _ _ _ (by simp; omega)]
 simp [List.set_eq_take_append_cons_drop, hk]
/-- two elements change places -/
def swL {α : Type} (l : List α) (i j : Nat) (d : α) : List α := (l.set i (l.getD j d)).set j (l.getD i d)
theorem swL_len {α : Type} (l : List α) (i j : Nat) (d : α) : (swL l i j d).length = l.length := by simp [swL]
theorem QAi {α : Type} {l : List α} {i j : Nat} (d : α) (hi : i < l.length) (hj : j < l.length) : (swL l i j d).Perm l := by
 have h := Array.swap_perm (xs := l.toArray) (i := i) (j := j) (by simpa using hi) (by simpa using hj)
 have h2 := h.toList;rw [Array.toList_swap] at h2
 unfold swL
 rw [Zj hi, Zj hj]
 simpa using h2
theorem QFv {α : Type} {l : List α} {i j : Nat} (d : α) (hi : i < l.length) (hj : j < l.length) (k : Nat) : (swL l i j d).getD k d = swF (fun k => l.getD k d) i j k := by
 unfold swL swF
 simp only [List.getD_eq_getElem?_getD, List.getElem?_set, List.length_set]
 by_cases e1 : k = j
 ·subst e1
  by_cases e2 : k = i
  ·subst e2
   simp [hi]
  ·have e3 : ¬i = k := fun h => e2 h.symm
   simp [hj, e2, e3]
 ·have e4 : ¬j = k := fun h => e1 h.symm
  by_cases e2 : k = i
  ·subst e2
   simp [hi, e4]
  ·have e3 : ¬i = k := fun h => e2 h.symm
   simp [e1, e2, e3, e4]
theorem QLb {ps : List VD} {i j : Nat} (hi : i < ps.length) (hj : j < ps.length) : (swL ps i j vd0).map Prod.fst = ((ps.map Prod.fst).set i ((ps.getD j vd0).1)).set j ((ps.getD i vd0).1) := by
 unfold swL
 rw [List.map_set, List.map_set]
/-- a pile of one's own: its box bp, its row, its drafts; what may turn lies where p says -/
structure PileAt (p : Nat → Prop) (w : World) (base bp : Nat) (sl : Value) (ps : List VD) : Prop where
 box : Blk w bp 145 #[sl]
 pb : p bp
 row : w.ownsRow base 122 1 sl ps.length (ps.map Prod.fst)
 pr : ∀ g, sl.ownBlock = some g → p g
 drs : ∀ x ∈ ps, OwnDr w base x.1 x.2
theorem PileAt.below {p : Nat → Prop} {w w' : World} {base bp : Nat} {sl : Value} {ps : List VD} (h : PileAt p w base bp sl ps) (hb : Below w.heap.size w w') : PileAt p w' base bp sl ps :=
 ⟨h.box.below hb h.box.lt, h.pb, ZE h.row hb (Nat.le_refl _), h.pr, fun x hx => (h.drs x hx).below hb⟩
theorem PileAt.kp {p : Nat → Prop} {w w' : World} {base bp n0 : Nat} {S : List Nat} {sl : Value} {ps : List VD} (h : PileAt p w base bp sl ps) (hk : Kp n0 S w w') (h1 : memB S 124 = false) (h2 : memB S 87 = false) (h3 : memB S 145 = false) (h4 : memB S 122 = false) : PileAt p w' base bp sl ps :=
 ⟨hk.blk _ _ _ h.box h3, h.pb, hk.row h.row h4, h.pr, fun x hx => (h.drs x hx).kp hk h1 h2⟩
theorem PileAt.soft {p : Nat → Prop} {w w' : World} {base bp b m : Nat} {U : List Nat} {sl : Value} {ps : List VD} (h : PileAt p w base bp sl ps) (hk : Soft b m U w w') (h1 : memB U 124 = false) (h2 : memB U 87 = false) (h3 : memB U 145 = false) (h4 : memB U 122 = false) : PileAt p w' base bp sl ps :=
 ⟨hk.blk h.box h3, h.pb, hk.row h.row h4, h.pr, fun x hx => (h.drs x hx).soft hk h1 h2⟩
theorem PileAt.dr {p : Nat → Prop} {w : World} {base bp : Nat} {sl : Value} {ps : List VD} (h : PileAt p w base bp sl ps) {k : Nat} (hk : k < ps.length) : OwnDr w base (ps.getD k vd0).1 (ps.getD k vd0).2 := h.drs _ (Z1 hk vd0)
/-- what holds of each element of a pile stays when they change places -/
def gD (ps : List VD) : Nat → Dr := fun k => (ps.getD k vd0).2
theorem QHE {ps : List VD} {i j : Nat} (hi : i < ps.length) (hj : j < ps.length) : gD (swL ps i j vd0) = swF (gD ps) i j := by
 funext k
 unfold gD
 rw [QFv vd0 hi hj]
 unfold swF
 split
 ·rfl
 ·split <;> rfl
section
variable {n : Nat} {σ : Sg} {w : World} {dst : Option Tmp} {ty : TypeId} {pos : String} {af : Array Edge} {g : Option (Nat × Bool)} {x y z : Operand} {at' : Array TypeId}
theorem QEk {A : Option Addr} {m c : Nat} (hx : evS σ x = some (.slice A m c)) : ZJ Try.prog n σ w ⟨dst, .call { callee := .builtin .len, args := #[x], argTypes := #[145] }, ty, pos, af, g⟩ (.int .i64 (m : Int)) := fun a ha => by
 simp only [execOp, resolve, List.map_toArray, List.map_cons, List.map_nil, ha.eval hx]
 simp [go_sem]
theorem QCY {b o m c k : Nat} (hx : evS σ x = some (.slice (some ⟨b, o, none⟩) m c)) (hy : evS σ y = some (.int .i64 (k : Int))) (hk : k < m) : ZJ Try.prog n σ w ⟨dst, .indexAddr 145 x y, ty, pos, af, g⟩ (.pointer (some ⟨b, o + k, none⟩)) := fun a ha => by
 have k0 : (0 : Int) ≤ (k : Int) := Int.natCast_nonneg _;have k1 : (k : Int) < (m : Int) := by omega
 simp only [execOp, ha.eval hx, ha.eval hy]
 simp [go_sem, k0, k1]
theorem YA {b o : Nat} {v0 : Value} (hx : evS σ x = some (.pointer (some ⟨b, o, none⟩))) (c0 : w.cell? ⟨b, o, none⟩ = some v0) : ZJ Try.prog n σ w ⟨dst, .load 122 x, ty, pos, af, g⟩ (v0) := fun a ha => by
 simp only [execOp, ha.eval hx]
 simp [go_sem, c0]
theorem QNv : cF 111 := fun _ _ => by simp [go_sem]
theorem QFu : (Try.prog.info? 122).map (·.size) = some 1 := by kernel_rfl
theorem QHR {x0 : Operand} {A0 : Option Addr} (h0 : evS σ x0 = some (.pointer A0)) (a : Act) (ha : Env n σ a) : (execOp a.eval ⟨dst, .buildSlice 145 1 #[(0, x0)], ty, pos, af, g⟩).run Try.prog w = .ok (.value (.slice (some ⟨w.heap.size, 0, none⟩) 1 1)) (w.alloc (.cells #[.pointer A0] 122)) := by
 simp only [execOp, List.map_toArray, List.map_cons, List.map_nil, ha.eval h0]
 go_simp
theorem QBY {b o : Nat} {v0 : Value} (hx : evS σ x = some (.pointer (some ⟨b, o, none⟩))) (c0 : w.cell? ⟨b, o, none⟩ = some v0) : ZJ Try.prog n σ w ⟨dst, .load 145 x, ty, pos, af, g⟩ (v0) := fun a ha => by
 simp only [execOp, ha.eval hx]
 simp [go_sem, c0]
theorem QEL : (Try.prog.info? 145).map (·.size) = some 1 := by kernel_rfl
theorem QLf {b o m c hi : Nat} (hx : evS σ x = some (.slice (some ⟨b, o, none⟩) m c)) (hh : evS σ y = some (.int .i64 (hi : Int))) (h2 : hi ≤ c) : ZJ Try.prog n σ w ⟨dst, .slice 145 x none (some y) none, ty, pos, af, g⟩ (.slice (some ⟨b, o, none⟩) hi c) := fun a ha => by
 have k1 : (0 : Int) ≤ (hi : Int) := Int.natCast_nonneg _;have k3 : (hi : Int) ≤ (c : Int) := by omega
 simp only [execOp, Option.map_some, Option.map_none, ha.eval hx, ha.eval hh]
 by_cases e : c = 0
 ·subst e; obtain rfl : hi = 0 := by omega
  simp [go_sem]
 ·simp [go_sem, k1, k3, h2, e]
end
section
variable {n : Nat} {σ : Sg} {w : World} {dst : Option Tmp} {ty : TypeId} {pos : String} {af : Array Edge} {g : Option (Nat × Bool)} {x y z : Operand} {at' : Array TypeId}
theorem cF83 : cF 83 := fun _ _ => by simp [go_sem]
theorem cF80 : cF 80 := fun _ _ => by simp [go_sem]
end
section
variable {n : Nat} {σ : Sg} {w : World} {dst : Option Tmp} {ty : TypeId} {pos : String} {af : Array Edge} {g : Option (Nat × Bool)} {x y z : Operand} {at' : Array TypeId}
theorem QDL {xf x0 x1 : Operand} {v0 v1 : Value} (hf : evS σ xf = some (.func (.func 74) #[] #[])) (h0 : evS σ x0 = some v0) (h1 : evS σ x1 = some v1) (a : Act) (ha : Env n σ a) : (execOp a.eval ⟨dst, .call { callee := .value xf, args := #[x0, x1], argTypes := at' }, ty, pos, af, g⟩).run Try.prog w = .ok (.enter 74 #[v0, v1]) w := by
 simp only [execOp, resolve, List.map_toArray, List.map_cons, List.map_nil, ha.eval hf, ha.eval h0, ha.eval h1]
 simp [go_sem, Deferred.ofValue]
theorem cA4 {F : FuncId} (hF : cF F) {x0 x1 x2 x3 : Operand} {v0 v1 v2 v3 : Value} (h0 : evS σ x0 = some v0) (h1 : evS σ x1 = some v1) (h2 : evS σ x2 = some v2) (h3 : evS σ x3 = some v3) (a : Act) (ha : Env n σ a) : (execOp a.eval ⟨dst, .call { callee := .value (.func F), args := #[x0, x1, x2, x3], argTypes := at' }, ty, pos, af, g⟩).run Try.prog w = .ok (.enter F #[v0, v1, v2, v3]) w := by
 simp only [execOp, resolve, List.map_toArray, List.map_cons, List.map_nil, ha.eval h0, ha.eval h1, ha.eval h2, ha.eval h3]
 simp [go_sem, Act.eval, hF _ _]
theorem cF88 : cF 88 := fun _ _ => by simp [go_sem]
theorem cF86 : cF 86 := fun _ _ => by simp [go_sem]
theorem QIG (a : Act) (_ : Env n σ a) : (execOp a.eval ⟨dst, .alloc 134, ty, pos, af, g⟩).run Try.prog w = .ok (.value (.pointer (some ⟨w.heap.size, 0, none⟩))) (w.alloc (.cells #[.slice none 0 0, .slice none 0 0] 134)) := by
 simp only [execOp]
 simp [go_sem]
theorem QIx {b o : Nat} (hx : evS σ x = some (.pointer (some ⟨b, o, none⟩))) : ZJ Try.prog n σ w ⟨dst, .fieldAddr 39 x 0, ty, pos, af, g⟩ (.pointer (some ⟨b, o, none⟩)) := fun a ha => by
 simp only [execOp, ha.eval hx]
 simp [go_sem]
theorem YE {b o k : Nat} (hx : evS σ x = some (.pointer (some ⟨b, o, none⟩))) (hy : evS σ y = some (.int .i64 (k : Int))) (hk : k < 2) : ZJ Try.prog n σ w ⟨dst, .indexAddr 134 x y, ty, pos, af, g⟩ (.pointer (some ⟨b, o + k, none⟩)) := fun a ha => by
 have k0 : (0 : Int) ≤ (k : Int) := Int.natCast_nonneg _;have k1 : (k : Int) < 2 := by omega
 simp only [execOp, ha.eval hx, ha.eval hy]
 simp [go_sem, k0, k1]
theorem QEA {x0 : Operand} {v0_0 v0_1 v0_2 v0_3 v0_4 : Value} (h0 : evS σ x0 = some (.agg #[v0_0, v0_1, v0_2, v0_3, v0_4]))  (a : Act) (ha : Env n σ a) : (execOp a.eval ⟨dst, .buildSlice 24 1 #[(0, x0)], ty, pos, af, g⟩).run Try.prog w = .ok (.value (.slice (some ⟨w.heap.size, 0, none⟩) 1 1)) (w.alloc (.cells #[v0_0, v0_1, v0_2, v0_3, v0_4] 39)) := by
 simp only [execOp, List.map_toArray, List.map_cons, List.map_nil, ha.eval h0]
 go_simp
theorem Yf {b o : Nat} {v0 : Value} (hx : evS σ x = some (.pointer (some ⟨b, o, none⟩))) (c0 : w.cell? ⟨b, o, none⟩ = some v0) : ZJ Try.prog n σ w ⟨dst, .load 24 x, ty, pos, af, g⟩ (v0) := fun a ha => by
 simp only [execOp, ha.eval hx]
 simp [go_sem, c0]
theorem QIP : (Try.prog.info? 24).map (·.size) = some 1 := by kernel_rfl
theorem ld_134 {b o : Nat} {v0 v1 : Value} (hx : evS σ x = some (.pointer (some ⟨b, o, none⟩))) (c0 : w.cell? ⟨b, o, none⟩ = some v0) (c1 : w.cell? ⟨b, o + 1, none⟩ = some v1) : ZJ Try.prog n σ w ⟨dst, .load 134 x, ty, pos, af, g⟩ (.agg #[v0, v1]) := fun a ha => by
 simp only [execOp, ha.eval hx]
 simp [go_sem, c0, c1]
theorem cF73 : cF 73 := fun _ _ => by simp [go_sem]
theorem QHi : (Try.prog.info? 134).map (·.size) = some 2 := by kernel_rfl
theorem QNG {b o : Nat} {v0 v1 : Value} (c0 : w.cell? ⟨b, o, none⟩ = some v0) (c1 : w.cell? ⟨b, o + 1, none⟩ = some v1) : (loadVar 134 ⟨b, o, none⟩).run Try.prog w = .ok (.agg #[v0, v1]) w := by
 simp [go_sem, loadVar, c0, c1]
end
theorem QG_ (x y : TW) (w : World) : Calls Try.prog 74 #[.agg #[.bool x.up, .int .i64 x.arrive, .int .i64 x.length, .int .i64 x.weight, .int .i64 x.push], .agg #[.bool y.up, .int .i64 y.arrive, .int .i64 y.length, .int .i64 y.weight, .int .i64 y.push]] w fun e w' => e = .returned (.int .i64 (cmpI x.arrive y.arrive)) ∧ Below w.heap.size w w' := by
 have hbw := Below.refl w.heap.size w;refine EC.enter 10 Try.func74 rfl rfl rfl (EC.seq (EC.region (EL.newP (QLD rfl) rfl ?_)));intro g1 w1 q1 hb1 hg1 hl1;have bhbw_1 := Nat.le_trans hbw.size hg1;replace hbw := bo_ hbw hb1;clear hb1 hg1 hl1;refine EL.newP (QLD rfl) rfl ?_;intro g2 w2 q2 hb2 hg2 hl2;have n1_2 := q1.na hg2;have bhbw_2 := Nat.le_trans hbw.size hg2;replace q1 := q1.bl hb2;replace hbw := bo_ hbw hb2;clear hb2 hg2 hl2;refine EL.as rfl rfl (EL.nil (EX.seq (EC.seq (EC.region (EL.val (Yn rfl) rfl (EL.val (ld_3 rfl (q1.at (j := 1) rfl)) rfl (EL.val (Yn rfl) rfl (EL.val (ld_3 rfl (q2.at (j := 1) rfl)) rfl (EL.call (cA2 cF75 rfl rfl) rfl (QA7 _ _ _) ?_)))))))))
 rintro e w3 ⟨rfl, hc3⟩
 refine ⟨_, rfl, ?_⟩;replace q1 := q1.bl hc3;replace q2 := q2.bl hc3;replace hbw := bo_ hbw hc3;clear hc3;refine EL.as rfl rfl (EL.nil (EX.seq (EC.ret ?_)))
 exact EX.done (res1 rfl rfl) ⟨rfl, hbw⟩
theorem QHk (ts : List TW) : Yr (ts.take (0 + 1)) ++ ts.drop (0 + 1) = ts := by cases ts <;> rfl
theorem QJH {ts : List TW} {k : Nat} (h : k + 1 < ts.length) : ts.getD (k + 1) tw0 ∈ ts := Z1 h tw0
theorem QKD {ts : List TW} {k : Nat} (hk : k = 0 ∨ k + 1 ≤ ts.length) (h : ts.length ≤ k + 1) : Yr (ts.take (k + 1)) ++ ts.drop (k + 1) = Yr ts := by
 rw [List.take_of_length_le h, List.drop_of_length_le h, List.append_nil]
theorem QGx {α : Type} (l : List α) : l = [] ∨ ∃ a b, l = a ++ [b] := (List.eq_nil_or_concat l).imp id fun ⟨a, b, h⟩ => ⟨a, b, by rw [h, List.concat_eq_append]⟩
theorem QBM {w : World} {base e size n : Nat} {v : Value} {xs ys : List Value} (h : w.ownsRow base e size v n xs) (he : xs = ys) : w.ownsRow base e size v n ys := he ▸ h
set_option maxRecDepth 100000 in
theorem QH1 {w : World} {base : Nat} {v : Value} {ts : List TW} (h : w.ownsRow base 39 5 v ts.length (twsC ts)) (hn : ts.length ≤ 1000) :
  Calls Try.prog 88 #[v, .int .i64 0, .int .i64 (ts.length : Nat), .func (.func 74) #[] #[]] w fun e w' => e = .returned (.tuple #[]) ∧ w'.ownsRow base 39 5 v ts.length (twsC (Yr ts)) ∧ w.grownBy w' v.ownBlock := by
 refine EC.enter 53 Try.func88 rfl rfl rfl (EC.seq (EC.region (EL.mv rfl rfl (EL.val (ZP rfl rfl (c := ((0 + 1 : Nat) : Int)) rfl) rfl (EL.as rfl rfl (EL.nil (EX.seq (EC.block ?_))))))));refine EC.loopD [8, 9, 12, 13, 14, 15, 16, 17, 18, 19, 20, 21, 22, 23, 24, 25, 26, 27, 28, 29, 30, 31, 32, 33, 34, 35, 36, 37, 38, 39, 40, 41, 42, 43, 44, 45, 46, 47, 48, 49, 50, 51, 52] (fun k : Nat => [(8, .int .i64 ((k + 1 : Nat) : Int))]) (fun k W => (k = 0 ∨ k + 1 ≤ ts.length) ∧ W.ownsRow base 39 5 v ts.length (twsC (Yr (ts.take (k + 1)) ++ ts.drop (k + 1))) ∧ w.grownBy W v.ownBlock) (fun k => ts.length - k) 0 ⟨.inl rfl, by rw [QHk]; exact h, ⟨rfl, rfl, rfl, Nat.le_refl _, fun _ _ _ => rfl⟩⟩ ⟨rfl, trivial⟩ ?_
 clear h
 rintro k W ⟨hk, ho, hgw⟩
 by_cases hlt : k + 1 < ts.length
 ·
  obtain ⟨g, c, rfl⟩ := Z_ ho (by omega)
  obtain ⟨x, hx⟩ : ∃ x, x = ts.getD (k + 1) tw0 := ⟨_, rfl⟩;have hsp := QJH hlt;rw [← hx] at hsp;have hS := QCk (ts.take (k + 1));have hSl : (Yr (ts.take (k + 1))).length = k + 1 := by rw [(QBS _).length_eq, List.length_take]; omega
  rw [QDF (d := tw0) hlt, ← hx] at ho;have hnx : Yr (ts.take (k + 1 + 1)) = insT x (Yr (ts.take (k + 1))) := by rw [Zz hlt, QEN, ← hx]
  generalize Yr (ts.take (k + 1)) = S at *
  obtain ⟨R, hR⟩ : ∃ R, R = ts.drop (k + 1 + 1) := ⟨_, rfl⟩;rw [← hR] at ho;refine EC.seq (EC.seq (EC.region (EL.mv rfl rfl (EL.mv rfl rfl ?_))));refine EL.val (ZS (r := true) rfl rfl (decide_eq_true (by omega))) rfl ?_
  refine EL.nil (EX.seq (EC.yes rfl (EC.skip (EX.seq (EC.seq (EC.block (EC.seq (EC.region (EL.mv rfl rfl ?_)))))))));refine EL.as rfl rfl (EL.nil (EX.seq (EC.block ?_)));refine EC.loopD [9, 18, 19, 20, 21, 22, 23, 24, 25, 26, 27, 28, 29, 30, 31, 32, 33, 34, 35, 36, 37, 38, 39, 40, 41, 42, 43, 44, 45, 46, 47, 48, 49, 50, 51, 52] (fun i : List TW × List TW => [(9, .int .i64 (i.1.length : Nat))]) (fun i V => i.1 ++ i.2 = S ∧ (∀ q ∈ i.2, x.arrive < q.arrive) ∧ V.ownsRow base 39 5 (.slice (some ⟨g, 0, none⟩) ts.length c) ts.length (twsC (i.1 ++ x :: (i.2 ++ R))) ∧ w.grownBy V (some g)) (fun i => i.1.length) (S, []) ⟨List.append_nil _, (fun q hq => by cases hq), ho, hgw⟩ ⟨by rw [← hSl]; rfl, trivial⟩ ?_
  clear ho hgw
  rintro ⟨L, Q⟩ V ⟨hLQ, hQ, ho, hgw⟩
  dsimp only at hLQ hQ ho hgw
  have hln := ho.1;rw [QAf] at hln;refine EC.seq (EC.seq ?_)
  rcases QGx L with rfl | ⟨L2, y, rfl⟩
  ·
   have hPn : ∀ p ∈ ([] : List TW), ¬x.arrive < p.arrive := fun p hp => by cases hp
   refine EC.regionQ (by kernel_rfl) (by kernel_rfl) ?_
   refine EQ.mv rfl rfl (EQ.mv rfl rfl ?_);refine EQ.val (fun _ hw => (Zm (r := false) rfl rfl (decide_eq_false (by simp)))) rfl ?_
   refine EQ.mv rfl rfl (EQ.skip rfl rfl rfl rfl (EQ.skip rfl rfl rfl rfl (EQ.skip rfl rfl rfl rfl (EQ.skip rfl rfl rfl rfl (EQ.skip rfl rfl rfl rfl (EQ.skip rfl rfl rfl rfl (EQ.skip rfl rfl rfl rfl (EQ.skip rfl rfl rfl rfl (EQ.skip rfl rfl rfl rfl ?_)))))))));refine EQ.skip rfl rfl rfl rfl (EQ.skip rfl rfl rfl rfl (EQ.skip rfl rfl rfl rfl ?_));refine EQ.val (fun _ hw => (Z7 rfl rfl)) rfl ?_
   refine EQ.fin (fun w1 hw_ => ?_)
   replace ho := ZE ho hw_ (Nat.le_refl _);replace hgw := Yi hgw hw_;clear hw_;have hfin : w1.ownsRow base 39 5 (.slice (some ⟨g, 0, none⟩) ts.length c) ts.length (twsC (insT x S ++ R)) := by rw [← hLQ, QBZ hPn hQ, List.append_assoc]; exact ho
   refine EX.seq (EC.no rfl (EC.exit (EX.seq_exit (EX.seq_exit (EX.blk_here (EX.blk (EX.seq (EC.region (EL.mv rfl rfl ?_)))))))));refine EL.val (ZP rfl rfl (c := (((k + 1) + 1 : Nat) : Int)) ((IntWalk.i64_in _ ⟨by first | omega | (simp only; omega), by first | omega | (simp only; omega)⟩).trans (by first | omega | (simp only; omega)))) rfl ?_
   refine EL.as rfl rfl (EL.nil ?_);refine EX.roundD (k + 1) ⟨rfl, trivial⟩ (by repeat first | with_reducible exact .refl _ | refine sp_ rfl ?_ | exact .refl _ | refine sd_ rfl ?_ | refine sn_ ?_) ⟨.inr hlt, by rw [hnx, ← hR]; exact hfin, hgw⟩ (show ts.length - (k + 1) < ts.length - k by omega)
  ·
   have hl1 : (L2 ++ [y]).length = L2.length + 1 := by simp
   have hcur : (L2 ++ [y]) ++ x :: (Q ++ R) = L2 ++ y :: x :: (Q ++ R) := by simp
   rw [hcur] at ho;have hll : (L2 ++ y :: x :: (Q ++ R)).length = ts.length := by have := ho.1; rw [QAf] at this; omega
   have hL2 : L2.length + 1 < ts.length := by have h_ := hll; simp only [List.length_append, List.length_cons] at h_; omega
   obtain ⟨e1_, e2_⟩ := QL5 (x := x) (y := y) L2 (Q ++ R);obtain ⟨b1, o1, eb1, _, cx⟩ := Zy _ (L2 ++ [y]).length (by rw [hll]; omega) _ _ _ _ _ (Rd.of_own ho)
   obtain ⟨b2, o2, eb2, _, cy⟩ := Zy _ L2.length (by rw [hll]; omega) _ _ _ _ _ (Rd.of_own ho)
   injection eb1 with eb1
   injection eb1 with eb1 eb3
   subst eb1 eb3
   injection eb2 with eb2
   injection eb2 with eb2 eb3
   subst eb2 eb3;rw [hl1, e2_] at cx;rw [← hl1] at cx;rw [e1_] at cy
   by_cases hxy : x.arrive < y.arrive
   ·
    refine EC.regionQ (by kernel_rfl) (by kernel_rfl) ?_
    refine EQ.mv rfl rfl (EQ.mv rfl rfl ?_);refine EQ.val (fun _ hw => (Zm (r := true) rfl rfl (decide_eq_true (by simp)))) rfl ?_
    refine EQ.mv rfl rfl (EQ.mg rfl rfl rfl rfl (EQ.mg rfl rfl rfl rfl (EQ.mg rfl rfl rfl rfl ?_)));refine EQ.valg rfl rfl (fun _ hw => (YR rfl rfl (show (L2 ++ [y]).length < ts.length by omega))) rfl ?_
    refine EQ.valg rfl rfl (fun _ hw => (QAU rfl (ZB hw cx.c0) (ZB hw cx.c1) (ZB hw cx.c2) (ZB hw cx.c3) (ZB hw cx.c4))) rfl ?_
    refine EQ.mg rfl rfl rfl rfl (EQ.mg rfl rfl rfl rfl ?_);refine EQ.valg rfl rfl (fun _ hw => (Zv rfl rfl (c := ((L2.length : Nat) : Int)) ((IntWalk.i64_in _ ⟨by simp only [hl1]; omega, by simp only [hl1]; omega⟩).trans (by simp only [hl1]; omega)))) rfl ?_
    refine EQ.valg rfl rfl (fun _ hw => (YR rfl rfl (show L2.length < ts.length by omega))) rfl ?_
    refine EQ.valg rfl rfl (fun _ hw => (QAU rfl (ZB hw cy.c0) (ZB hw cy.c1) (ZB hw cy.c2) (ZB hw cy.c3) (ZB hw cy.c4))) rfl ?_
    refine EQ.callg rfl rfl (fun _ _ _ ha => QDL rfl rfl rfl _ ha) rfl (fun W hw => (QG_ x y _).mono fun e w' h => ⟨h.1, hw.trans (h.2.mono hw.size)⟩) ?_
    refine EQ.valg rfl rfl (fun _ hw => (ZS (r := true) rfl rfl (decide_eq_true (by unfold cmpI; split <;> (try split) <;> omega)))) rfl ?_
    refine EQ.val (fun _ hw => (Zq rfl rfl)) rfl ?_
    refine EQ.fin (fun w2 hw_ => ?_)
    replace ho := ZE ho hw_ (Nat.le_refl _);replace hgw := Yi hgw hw_;clear hw_;refine EX.seq (EC.yes rfl (EC.skip (EX.seq (EC.seq (EC.block ?_)))));clear cx cy;have lb_ts : base ≤ g := (ho.lt _ rfl).1;refine EC.regionS [[], [], [], [], [3], [], [], [6], [5, 6, 7], [5, 6, 7, 8], [], [], [10, 11], [10, 11, 12], [0, 1, 5, 6, 7, 8, 9, 10, 11, 12, 13], [0, 1, 5, 6, 7, 8, 9, 10, 11, 12, 13, 14], [0, 1, 2, 3, 4, 5, 6, 7, 8, 9, 10, 11, 12, 13, 14, 15], [0, 1, 2, 3, 4, 5, 6, 7, 8, 9, 10, 11, 12, 13, 14, 15, 16]] 16 [] [15] (fun fl w_ => Touch w2 w_ [g] ∧ (fl 15 = false → w_.ownsRow base 39 5 (.slice (some ⟨g, 0, none⟩) ts.length c) ts.length (twsC (L2 ++ y :: x :: (Q ++ R))))) (phiS (fun i_ r => match i_ with | 0 => r 0 = .slice (some ⟨g, 0, none⟩) ts.length c | 1 => r 1 = .int .i64 ((L2 ++ [y]).length : Nat) | 2 => r 2 = .slice (some ⟨g, 0, none⟩) ts.length c | 3 => r 3 = .int .i64 ((L2 ++ [y]).length : Nat) | 4 => r 4 = .int .i64 (L2.length : Nat) | 5 => r 5 = .slice (some ⟨g, 0, none⟩) ts.length c | 6 => r 6 = .int .i64 ((L2 ++ [y]).length : Nat) | 7 => r 7 = .int .i64 (L2.length : Nat) | 8 => r 8 = .pointer (some ⟨g, 0 + L2.length * 5, none⟩) | 9 => r 9 = .agg #[.bool y.up, .int .i64 y.arrive, .int .i64 y.length, .int .i64 y.weight, .int .i64 y.push] | 10 => r 10 = .slice (some ⟨g, 0, none⟩) ts.length c | 11 => r 11 = .int .i64 ((L2 ++ [y]).length : Nat) | 12 => r 12 = .pointer (some ⟨g, 0 + (L2 ++ [y]).length * 5, none⟩) | 13 => r 13 = .agg #[.bool x.up, .int .i64 x.arrive, .int .i64 x.length, .int .i64 x.weight, .int .i64 x.push] | 14 => r 14 = .pointer (some ⟨g, 0 + (L2 ++ [y]).length * 5, none⟩) | _ => True) [(15, fun fl _ w_ => fl 15 = true ∧ w_.ownsRow base 39 5 (.slice (some ⟨g, 0, none⟩) ts.length c) ts.length (twsC ((L2 ++ y :: x :: (Q ++ R)).set (L2.length + 1) y)))]) (by kernel_rfl) rfl rfl (by intro i hi; simp at hi; rcases hi with rfl <;> exact ⟨by simp, by omega⟩) ⟨fun _ _ => ⟨Touch.start _ _, fun _ => QCA ho 1⟩, fun _ _ _ ⟨hT, hA0_⟩ hb => ⟨hT.below hb, fun h => ZE (hA0_ h) hb (Nat.le_refl _)⟩, fun _ _ h => h.1.size⟩ (ZK (fun _ _ _ _ hb ⟨h1, h2⟩ => ⟨h1, ZE h2 hb (Nat.le_refl _)⟩) (Zb)) (fun i_ hi_ hs_ => ?_) (fun i_ hi_ => ?_) ?_
    ·match i_, hi_ with
     | 0, _ =>
      intro val fl w1 a hb ha hd hfl;obtain ⟨hT, hA0_⟩ := hb;have ha := ha.s0 (d := 0) rfl
      exact ZC ha rfl rfl (x_move rfl) rfl rfl
     | 1, _ =>
      intro val fl w1 a hb ha hd hfl;obtain ⟨hT, hA0_⟩ := hb;have ha := ha.s0 (d := 9) rfl
      exact ZC ha rfl rfl (x_move rfl) rfl rfl
     | 2, _ =>
      intro val fl w1 a hb ha hd hfl;obtain ⟨hT, hA0_⟩ := hb;have ha := ha.s0 (d := 0) rfl
      exact ZC ha rfl rfl (x_move rfl) rfl rfl
     | 3, _ =>
      intro val fl w1 a hb ha hd hfl;obtain ⟨hT, hA0_⟩ := hb;have ha := ha.s0 (d := 9) rfl
      exact ZC ha rfl rfl (x_move rfl) rfl rfl
     | 4, _ =>
      intro val fl w1 a hb ha hd hfl;obtain ⟨hT, hA0_⟩ := hb;have e3 : val 3 = _ := hd 3 (ZA.1 rfl);have ha := ha.s1 (d := 40) rfl e3
      exact ZC ha rfl rfl (Zv rfl rfl (c := ((L2.length : Nat) : Int)) ((IntWalk.i64_in _ ⟨by simp only [hl1]; omega, by simp only [hl1]; omega⟩).trans (by simp only [hl1]; omega))) rfl rfl
     | 5, _ =>
      intro val fl w1 a hb ha hd hfl;obtain ⟨hT, hA0_⟩ := hb;have ha := ha.s0 (d := 0) rfl
      exact ZC ha rfl rfl (x_move rfl) rfl rfl
     | 6, _ =>
      intro val fl w1 a hb ha hd hfl;obtain ⟨hT, hA0_⟩ := hb;have ha := ha.s0 (d := 9) rfl
      exact ZC ha rfl rfl (x_move rfl) rfl rfl
     | 7, _ =>
      intro val fl w1 a hb ha hd hfl;obtain ⟨hT, hA0_⟩ := hb;have e6 : val 6 = _ := hd 6 (ZA.1 rfl);have ha := ha.s1 (d := 43) rfl e6
      exact ZC ha rfl rfl (Zv rfl rfl (c := ((L2.length : Nat) : Int)) ((IntWalk.i64_in _ ⟨by simp only [hl1]; omega, by simp only [hl1]; omega⟩).trans (by simp only [hl1]; omega))) rfl rfl
     | 8, _ =>
      intro val fl w1 a hb ha hd hfl;obtain ⟨hT, hA0_⟩ := hb;have e5 : val 5 = _ := hd 5 (ZA.1 rfl);have e7 : val 7 = _ := hd 7 (ZA.1 rfl);have ha := ha.s2 (d := 44) (e := 42) rfl e7 rfl e5
      exact ZC ha rfl rfl (YR rfl rfl (show L2.length < ts.length by omega)) rfl rfl
     | 9, _ =>
      intro val fl w1 a hb ha hd hfl;obtain ⟨hT, hA0_⟩ := hb;have e8 : val 8 = _ := hd 8 (ZA.1 rfl);have ha := ha.s1 (d := 45) rfl e8;have hr0 := hA0_ (hfl 15 (by simp) (ZA.1 rfl))
      exact ZC ha rfl rfl (by obtain ⟨b1, o1, eb1, _, cx⟩ := Zy _ L2.length (by rw [hll]; omega) _ _ _ _ _ (Rd.of_own hr0); injection eb1 with eb1; injection eb1 with eb1 eb3; subst eb1 eb3; rw [e1_] at cx; exact QAU rfl cx.c0 cx.c1 cx.c2 cx.c3 cx.c4) rfl rfl
     | 10, _ =>
      intro val fl w1 a hb ha hd hfl;obtain ⟨hT, hA0_⟩ := hb;have ha := ha.s0 (d := 0) rfl
      exact ZC ha rfl rfl (x_move rfl) rfl rfl
     | 11, _ =>
      intro val fl w1 a hb ha hd hfl;obtain ⟨hT, hA0_⟩ := hb;have ha := ha.s0 (d := 9) rfl
      exact ZC ha rfl rfl (x_move rfl) rfl rfl
     | 12, _ =>
      intro val fl w1 a hb ha hd hfl;obtain ⟨hT, hA0_⟩ := hb;have e10 : val 10 = _ := hd 10 (ZA.1 rfl);have e11 : val 11 = _ := hd 11 (ZA.1 rfl);have ha := ha.s2 (d := 48) (e := 47) rfl e11 rfl e10
      exact ZC ha rfl rfl (YR rfl rfl (show (L2 ++ [y]).length < ts.length by omega)) rfl rfl
     | 13, _ =>
      intro val fl w1 a hb ha hd hfl;obtain ⟨hT, hA0_⟩ := hb;have e12 : val 12 = _ := hd 12 (ZA.1 rfl);have ha := ha.s1 (d := 49) rfl e12;have hr0 := hA0_ (hfl 15 (by simp) (ZA.1 rfl))
      exact ZC ha rfl rfl (by obtain ⟨b1, o1, eb1, _, cx⟩ := Zy _ (L2 ++ [y]).length (by rw [hll]; omega) _ _ _ _ _ (Rd.of_own hr0); injection eb1 with eb1; injection eb1 with eb1 eb3; subst eb1 eb3; rw [hl1, e2_, ← hl1] at cx; exact QAU rfl cx.c0 cx.c1 cx.c2 cx.c3 cx.c4) rfl rfl
     | 14, _ =>
      intro val fl w1 a hb ha hd hfl;obtain ⟨hT, hA0_⟩ := hb;have e0 : val 0 = _ := hd 0 (ZA.1 rfl);have e1 : val 1 = _ := hd 1 (ZA.1 rfl);have ha := ha.s2 (d := 38) (e := 37) rfl e1 rfl e0
      exact ZC ha rfl rfl (YR rfl rfl (show (L2 ++ [y]).length < ts.length by omega)) rfl rfl
     | 15, _ =>
      exact absurd (by simp) hs_
     | k + 16, h => exact absurd h (by omega)
    ·simp only [List.mem_cons, List.not_mem_nil, or_false] at hi_
     subst hi_;intro val fl w1 a hb hfi ha hd hfl;obtain ⟨hT, hA0_⟩ := hb;have e14 : val 14 = _ := hd 14 (ZA.1 rfl);have e9 : val 9 = _ := hd 9 (ZA.1 rfl);have ha := ha.s2 (d := 46) (e := 51) rfl e9 rfl e14;refine QBk (l' := [.bool y.up, .int .i64 y.arrive, .int .i64 y.length, .int .i64 y.weight, .int .i64 y.push]) ha rfl rfl rfl (hA0_ hfi) QEK rfl rfl (by rw [QAf, hll]; omega) rfl ?_
     intro w' ho2 hgr;rw [Nat.zero_add, hl1, show [.bool y.up, .int .i64 y.arrive, .int .i64 y.length, .int .i64 y.weight, .int .i64 y.push] = twC y from rfl] at ho2;replace ho2 := QBM ho2 (QBI QAu _ _ (by rw [hll]; omega) _)
     refine ⟨undef, rfl, hgr.size, ⟨hT.grown hgr (by simp), (fun h => by rw [ZQ] at h; cases h)⟩, ⟨ZQ, ho2⟩, fun j _ hj hn hA => ?_⟩
     exact ZF (C := fun j => j ≠ 15 ∧ 15 ∉ clsAt [[], [], [], [], [3], [], [], [6], [5, 6, 7], [5, 6, 7, 8], [], [], [10, 11], [10, 11, 12], [0, 1, 5, 6, 7, 8, 9, 10, 11, 12, 13], [0, 1, 5, 6, 7, 8, 9, 10, 11, 12, 13, 14], [0, 1, 2, 3, 4, 5, 6, 7, 8, 9, 10, 11, 12, 13, 14, 15], [0, 1, 2, 3, 4, 5, 6, 7, 8, 9, 10, 11, 12, 13, 14, 15, 16]] j) (fun hc => absurd rfl hc.1) (fun _ _ h => h) j ⟨hj, hn⟩
    ·intro val fl wR6 hfl hb halc hd
     obtain ⟨hT, _⟩ := hb;have hz_ts := (hd 15 (by omega)).2
     change wR6.ownsRow base 39 5 (.slice (some ⟨g, 0, none⟩) ts.length c) ts.length (twsC ((L2 ++ y :: x :: (Q ++ R)).set (L2.length + 1) y)) at hz_ts;have e0 : val 0 = _ := hd 0 (by omega)
     have e1 : val 1 = _ := hd 1 (by omega)
     have e2 : val 2 = _ := hd 2 (by omega)
     have e3 : val 3 = _ := hd 3 (by omega)
     have e4 : val 4 = _ := hd 4 (by omega)
     have e5 : val 5 = _ := hd 5 (by omega)
     have e6 : val 6 = _ := hd 6 (by omega)
     have e7 : val 7 = _ := hd 7 (by omega)
     have e8 : val 8 = _ := hd 8 (by omega)
     have e9 : val 9 = _ := hd 9 (by omega)
     have e10 : val 10 = _ := hd 10 (by omega)
     have e11 : val 11 = _ := hd 11 (by omega)
     have e12 : val 12 = _ := hd 12 (by omega)
     have e13 : val 13 = _ := hd 13 (by omega)
     have e14 : val 14 = _ := hd 14 (by omega)
     refine EL.ends (cs := [_, _, _, _, _, _, _, _, _, _, _, _, _, _, _, val 15]) ⟨e0, e1, e2, e3, e4, e5, e6, e7, e8, e9, e10, e11, e12, e13, e14, rfl, trivial⟩ rfl ?_;replace hgw := Zg hgw (QBl hT);clear hT ho;have ho := hz_ts;clear hz_ts;refine EL.val (YR rfl rfl (show L2.length < ts.length by omega)) rfl ?_
     refine EL.storeRow (l' := [.bool x.up, .int .i64 x.arrive, .int .i64 x.length, .int .i64 x.weight, .int .i64 x.push]) rfl rfl ho QEK rfl rfl (by rw [QAf, List.length_set, hll]; omega) rfl ?_
     intro w3 ho2 hgr;rw [Nat.zero_add, show [.bool x.up, .int .i64 x.arrive, .int .i64 x.length, .int .i64 x.weight, .int .i64 x.push] = twC x from rfl] at ho2;replace ho2 := QBM ho2 (QBI QAu _ _ (by rw [List.length_set, hll]; omega) _)
     rw [QJ_] at ho2;replace hgw := Zg hgw hgr;clear ho hgr;have ho := ho2;clear ho2;refine EL.nil (EX.blk (EX.seq (EC.region (EL.mv rfl rfl ?_))));refine EL.val (Zv rfl rfl (c := ((L2.length : Nat) : Int)) ((IntWalk.i64_in _ ⟨by simp only [hl1]; omega, by simp only [hl1]; omega⟩).trans (by simp only [hl1]; omega))) rfl ?_
     refine EL.as rfl rfl (EL.nil ?_);refine EX.roundD (L2, y :: Q) ⟨rfl, trivial⟩ (by repeat first | with_reducible exact .refl _ | refine sp_ rfl ?_ | exact .refl _ | refine sd_ rfl ?_ | refine sn_ ?_) ⟨by rw [← hLQ]; simp, fun q hq => (List.mem_cons.1 hq).elim (fun e => e ▸ hxy) (hQ q), ho, hgw⟩ (show L2.length < (L2 ++ [y]).length by omega)
   ·
    have hPn : ∀ p ∈ L2 ++ [y], ¬x.arrive < p.arrive := QHX (Q := Q) (by rw [hLQ]; exact hS) hxy
    refine EC.regionQ (by kernel_rfl) (by kernel_rfl) ?_
    refine EQ.mv rfl rfl (EQ.mv rfl rfl ?_);refine EQ.val (fun _ hw => (Zm (r := true) rfl rfl (decide_eq_true (by simp)))) rfl ?_
    refine EQ.mv rfl rfl (EQ.mg rfl rfl rfl rfl (EQ.mg rfl rfl rfl rfl (EQ.mg rfl rfl rfl rfl ?_)));refine EQ.valg rfl rfl (fun _ hw => (YR rfl rfl (show (L2 ++ [y]).length < ts.length by omega))) rfl ?_
    refine EQ.valg rfl rfl (fun _ hw => (QAU rfl (ZB hw cx.c0) (ZB hw cx.c1) (ZB hw cx.c2) (ZB hw cx.c3) (ZB hw cx.c4))) rfl ?_
    refine EQ.mg rfl rfl rfl rfl (EQ.mg rfl rfl rfl rfl ?_);refine EQ.valg rfl rfl (fun _ hw => (Zv rfl rfl (c := ((L2.length : Nat) : Int)) ((IntWalk.i64_in _ ⟨by simp only [hl1]; omega, by simp only [hl1]; omega⟩).trans (by simp only [hl1]; omega)))) rfl ?_
    refine EQ.valg rfl rfl (fun _ hw => (YR rfl rfl (show L2.length < ts.length by omega))) rfl ?_
    refine EQ.valg rfl rfl (fun _ hw => (QAU rfl (ZB hw cy.c0) (ZB hw cy.c1) (ZB hw cy.c2) (ZB hw cy.c3) (ZB hw cy.c4))) rfl ?_
    refine EQ.callg rfl rfl (fun _ _ _ ha => QDL rfl rfl rfl _ ha) rfl (fun W hw => (QG_ x y _).mono fun e w' h => ⟨h.1, hw.trans (h.2.mono hw.size)⟩) ?_
    refine EQ.valg rfl rfl (fun _ hw => (ZS (r := false) rfl rfl (decide_eq_false (by unfold cmpI; split <;> (try split) <;> omega)))) rfl ?_
    refine EQ.val (fun _ hw => (Zq rfl rfl)) rfl ?_
    refine EQ.fin (fun w4 hw_ => ?_)
    replace ho := ZE ho hw_ (Nat.le_refl _);replace hgw := Yi hgw hw_;clear hw_;have hfin : w4.ownsRow base 39 5 (.slice (some ⟨g, 0, none⟩) ts.length c) ts.length (twsC (insT x S ++ R)) := by rw [← hLQ, QBZ hPn hQ, List.append_assoc]; have h_ := ho; rw [← hcur] at h_; exact h_
    refine EX.seq (EC.no rfl (EC.exit (EX.seq_exit (EX.seq_exit (EX.blk_here (EX.blk (EX.seq (EC.region (EL.mv rfl rfl ?_)))))))));refine EL.val (ZP rfl rfl (c := (((k + 1) + 1 : Nat) : Int)) ((IntWalk.i64_in _ ⟨by first | omega | (simp only; omega), by first | omega | (simp only; omega)⟩).trans (by first | omega | (simp only; omega)))) rfl ?_
    refine EL.as rfl rfl (EL.nil ?_);refine EX.roundD (k + 1) ⟨rfl, trivial⟩ (by repeat first | with_reducible exact .refl _ | refine sp_ rfl ?_ | exact .refl _ | refine sd_ rfl ?_ | refine sn_ ?_) ⟨.inr hlt, by rw [hnx, ← hR]; exact hfin, hgw⟩ (show ts.length - (k + 1) < ts.length - k by omega)
 ·
  refine EC.seq (EC.seq (EC.region (EL.mv rfl rfl (EL.mv rfl rfl ?_))));refine EL.val (ZS (r := false) rfl rfl (decide_eq_false (by omega))) rfl ?_
  refine EL.nil (EX.seq (EC.no rfl (EC.exit (EX.seq_exit (EX.seq_exit (EX.blk_here ?_))))))
  exact EX.done' (res0 rfl) ⟨rfl, by rw [← QKD hk (by omega)]; exact ho, hgw⟩
theorem QHj {w : World} {base : Nat} {v : Value} {ts : List TW} (h : w.ownsRow base 39 5 v ts.length (twsC ts)) (hn : ts.length ≤ 19) :
  Calls Try.prog 86 #[v, .int .i64 (ts.length : Nat), .func (.func 74) #[] #[]] w fun e w' => e = .returned (.tuple #[]) ∧ w'.ownsRow base 39 5 v ts.length (twsC (Yr ts)) ∧ w.grownBy w' v.ownBlock := by
 refine EC.enter 63 Try.func86 rfl rfl rfl (EC.seq (EC.region (EL.as rfl rfl (EL.nil (EX.seq (EC.seq (EC.region (EL.mv rfl rfl (EL.as rfl rfl ?_)))))))));refine EL.as rfl rfl (EL.nil (EX.seq (EC.seq (EC.block ?_))));refine EC.loopD [7, 8, 11, 12, 13, 14, 15, 16, 17, 18, 19, 20, 21, 22] (fun _ : Unit => [(8, .int .i64 20), (7, .int .i64 0)]) (fun _ W => W = w) (fun _ => 0) () rfl ⟨rfl, rfl, trivial⟩ ?_
 rintro ⟨⟩ _ rfl
 refine EC.seq (EC.seq (EC.region (EL.mv rfl rfl (EL.mv rfl rfl ?_))));refine EL.val (QBD (r := false) rfl rfl (decide_eq_false (by omega))) rfl ?_
 refine EL.nil (EX.seq (EC.no rfl (EC.exit (EX.seq_exit (EX.seq_exit (EX.blk_here (EX.seq (EC.seq (EC.region ?_)))))))));refine EL.mv rfl rfl (EL.mv rfl rfl (EL.mv rfl rfl (EL.mv rfl rfl ?_)));refine EL.call (cA4 cF88 rfl rfl rfl rfl) rfl (QH1 h (by omega)) ?_
 rintro e w1 ⟨rfl, ho, hgw⟩
 refine ⟨_, rfl, ?_⟩;refine EL.nil (EX.seq (EC.block ?_));refine EC.loopD [6, 7, 8, 9, 28, 29, 30, 31, 32, 33, 34, 35, 36, 37, 38, 39, 40, 41, 42, 43, 44, 45, 46, 47, 48, 49, 50, 51, 52, 53, 54, 55, 56, 57, 58, 59, 60, 61, 62] (fun _ : Unit => [(6, .int .i64 20)]) (fun _ W => W = w1) (fun _ => 0) () rfl ⟨rfl, trivial⟩ ?_
 rintro ⟨⟩ _ rfl
 refine EC.seq (EC.seq (EC.region (EL.mv rfl rfl (EL.mv rfl rfl ?_))));refine EL.val (ZS (r := false) rfl rfl (decide_eq_false (by omega))) rfl ?_
 refine EL.nil (EX.seq (EC.no rfl (EC.exit (EX.seq_exit (EX.seq_exit (EX.blk_here ?_))))))
 exact EX.done' (res0 rfl) ⟨rfl, ho, hgw⟩
theorem QGi {w : World} {base : Nat} {v : Value} {ts : List TW} (h : w.ownsRow base 39 5 v ts.length (twsC ts)) (hn : ts.length ≤ 19) :
  Calls Try.prog 73 #[v, .func (.func 74) #[] #[]] w fun e w' => e = .returned (.tuple #[]) ∧ w'.ownsRow base 39 5 v ts.length (twsC (Yr ts)) ∧ w.grownBy w' v.ownBlock := by
 obtain ⟨A, c, rfl, _⟩ := (Rd.of_own h).shape;refine EC.enter 9 Try.func73 rfl rfl rfl (EC.region (EL.mv rfl rfl (EL.mv rfl rfl (EL.val (Zs rfl) rfl (EL.mv rfl rfl (EL.call (cA3 cF86 rfl rfl rfl) rfl (QHj h hn) ?_))))))
 rintro e w1 ⟨rfl, ho, hgw⟩
 refine ⟨_, rfl, ?_⟩;refine EL.nil ?_
 exact EX.done' (res0 rfl) ⟨rfl, ho, hgw⟩
section
variable {n : Nat} {σ : Sg} {w : World} {dst : Option Tmp} {ty : TypeId} {t' : TypeId} {pos : String} {af : Array Edge} {g : Option (Nat × Bool)} {x y z : Operand}
theorem QNo {A1 A2 : Option Addr} {m1 c1 m2 c2 : Nat} (hx : evS σ x = some (.agg #[.slice A1 m1 c1, .slice A2 m2 c2])) (hy : evS σ y = some (.int .i64 ((0 : Nat) : Int))) : ZJ Try.prog n σ w ⟨dst, .index 134 x y, ty, pos, af, g⟩ (.slice A1 m1 c1) := fun a ha => by
 simp only [execOp, ha.eval hx, ha.eval hy, Sem.run_bind]
 have h : Sem.run Try.prog (Instr.index 134 (.agg #[.slice A1 m1 c1, .slice A2 m2 c2]) (.int .i64 ((0 : Nat) : Int))) w = .ok (.slice A1 m1 c1) w := by kernel_rfl
 rw [h]
 rfl
theorem QNn {A1 A2 : Option Addr} {m1 c1 m2 c2 : Nat} (hx : evS σ x = some (.agg #[.slice A1 m1 c1, .slice A2 m2 c2])) (hy : evS σ y = some (.int .i64 ((1 : Nat) : Int))) : ZJ Try.prog n σ w ⟨dst, .index 134 x y, ty, pos, af, g⟩ (.slice A2 m2 c2) := fun a ha => by
 simp only [execOp, ha.eval hx, ha.eval hy, Sem.run_bind]
 have h : Sem.run Try.prog (Instr.index 134 (.agg #[.slice A1 m1 c1, .slice A2 m2 c2]) (.int .i64 ((1 : Nat) : Int))) w = .ok (.slice A2 m2 c2) w := by kernel_rfl
 rw [h]
 rfl
end
theorem QJx : (Try.prog.info? 39).map (fun i => (i.zero, i.size, i.bytes)) = some (some (.agg #[.bool false, .int .i64 0, .int .i64 0, .int .i64 0, .int .i64 0]), 5, 40) := by kernel_rfl
theorem QAh : Elem Try.prog 24 39 5 40 := Elem.mk' Try.underlying24 QJx rfl (by omega)
theorem QCg (a b : List TW) : twsC (a ++ b) = twsC a ++ twsC b := List.flatMap_append
theorem QAK {W W' : World} {base e z n : Nat} {u : Value} {xs : List Value} {row : Option Nat} (h : W.ownsRow base e z u n xs) (hg : W.grownBy W' row) (hn : ∀ b, u.ownBlock = some b → row ≠ some b) : W'.ownsRow base e z u n xs := h.kept hg (by
 cases e : u.ownBlock with
 | none => exact .inl rfl
 | some b => exact .inr fun e2 => hn b e e2.symm)
theorem QMh {w : World} {base : Nat} {v : Value} {ts : List TW} {u : Bool} (h : w.ownsRow base 39 5 v (fU u ts).length (twsC (Yr (fU u ts)))) : w.ownsRow base 39 5 v (qL ts u).length (twsC (qL ts u)) := by
 have e : (qL ts u).length = (fU u ts).length := (QBS _).length_eq;rw [e]
 exact h
set_option maxRecDepth 100000 in
theorem QG1 {ts : List TW} {v : Value} {w : World} {B : Nat} (hr : Rd w B 5 v ts.length (twsC ts)) (hB : B ≤ w.heap.size) (hn : ts.length ≤ 8) :
  Calls Try.prog 55 #[v] w fun e w' => ∃ s0 s1, e = .returned (.agg #[s0, s1]) ∧ w'.ownsRow w.heap.size 39 5 s0 (qL ts false).length (twsC (qL ts false)) ∧ w'.ownsRow w.heap.size 39 5 s1 (qL ts true).length (twsC (qL ts true)) ∧ Below w.heap.size w w' := by
 obtain ⟨At, ct, rfl, _⟩ := hr.shape;have hbw := Below.refl w.heap.size w;refine EC.enter 34 Try.func55 rfl rfl rfl (EC.seq (EC.region (EL.newP QIG rfl ?_)));intro g1 w1 q1 hb1 hg1 hl1;have bhbw_1 := Nat.le_trans hbw.size hg1;replace hbw := bo_ hbw hb1;clear hb1 hg1 hl1;refine EL.nil (EX.seq (EC.seq (EC.seq (EC.region (EL.mv rfl rfl (EL.val (Zs rfl) rfl (EL.mv rfl rfl (EL.nil (EX.seq ?_)))))))));refine EC.block ?_;refine EC.loopD [4, 5, 10, 11, 12, 13, 14, 15, 16, 17, 18, 19, 20, 21, 22, 23, 24, 25] (fun i : Nat × Value × Value => [(10, .int .i64 (i.1 : Nat))]) (fun i W => i.1 ≤ ts.length ∧ Blk W g1 134 #[i.2.1, i.2.2] ∧ W.ownsRow w.heap.size 39 5 i.2.1 (fU false (ts.take i.1)).length (twsC (fU false (ts.take i.1))) ∧ W.ownsRow w.heap.size 39 5 i.2.2 (fU true (ts.take i.1)).length (twsC (fU true (ts.take i.1))) ∧ (∀ b, i.2.1.ownBlock = some b → i.2.2.ownBlock ≠ some b) ∧ Below w.heap.size w W) (fun i => ts.length - i.1) (0, .slice none 0 0, .slice none 0 0) ⟨Nat.zero_le _, q1, Y9 _ _ _ _, Y9 _ _ _ _, (fun b hb => by cases hb), hbw⟩ ⟨rfl, trivial⟩ ?_
 clear q1 hbw
 rintro ⟨k, s0, s1⟩ W ⟨hk, hq2, h0, h1, hap, hbw⟩
 dsimp only at hk hq2 h0 h1 hap hbw
 obtain ⟨A0, c0, rfl, _⟩ := (Rd.of_own h0).shape;obtain ⟨A1, c1, rfl, _⟩ := (Rd.of_own h1).shape;have hf0 : (fU false (ts.take k)).length ≤ (ts.take k).length := List.length_filter_le _ _;have hf1 : (fU true (ts.take k)).length ≤ (ts.take k).length := List.length_filter_le _ _;rw [List.length_take] at hf0 hf1
 by_cases hlt : k < ts.length
 ·
  have htk := Zz (d := tw0) hlt;obtain ⟨b, o, rfl, _, cc⟩ := Zy ts k hlt w B _ _ _ hr
  generalize ts.getD k tw0 = y at cc htk
  obtain ⟨yu, ya, yl, yw, yp⟩ := y;refine EC.seq (EC.region ?_);refine EL.val (ZS (r := true) rfl rfl (decide_eq_true (by omega))) rfl ?_
  refine EL.nil (EX.seq (EC.seq (EC.yes rfl (EC.skip (EX.seq (EC.seq (EC.block (EC.seq (EC.region ?_)))))))));refine EL.val (YR rfl rfl hlt) rfl (EL.val (QAU rfl (ZB hbw cc.c0) (ZB hbw cc.c1) (ZB hbw cc.c2) (ZB hbw cc.c3) (ZB hbw cc.c4)) rfl (EL.newP QHb rfl ?_));intro g2 w2 q2 hb2 hg2 hl2;have n1_2 := hq2.na hg2;have bhbw_2 := Nat.le_trans hbw.size hg2;have hn0 : ∀ b, (.slice A0 (fU false (ts.take k)).length c0 : Value).ownBlock = some b → b ≠ g2 := fun b hb => Nat.ne_of_lt (Nat.lt_of_lt_of_le (h0.lt b hb).2 hg2)
  have hn1 : ∀ b, (.slice A1 (fU true (ts.take k)).length c1 : Value).ownBlock = some b → b ≠ g2 := fun b hb => Nat.ne_of_lt (Nat.lt_of_lt_of_le (h1.lt b hb).2 hg2)
  replace hq2 := hq2.bl hb2;replace h0 := ZE h0 hb2 (Nat.le_refl _);replace h1 := ZE h1 hb2 (Nat.le_refl _);replace hbw := bo_ hbw hb2;clear hb2 hg2 hl2;refine EL.store rfl rfl q2 QEK rfl rfl rfl rfl ?_;intro w3 hq3 hg3;replace hq2 := hq2.gr hg3 n1_2;replace h0 := QAK h0 hg3 (fun b hb e => hn0 b hb (Option.some.inj e).symm)
  replace h1 := QAK h1 hg3 (fun b hb e => hn1 b hb (Option.some.inj e).symm)
  replace hbw := ZD hbw hg3 bhbw_2;replace q2 := hq3;clear hg3 hq3;refine EL.nil (EX.seq (EC.seq (EC.region (EL.val (QIx rfl) rfl (EL.val (ld_4 rfl (q2.at (j := 0) rfl)) rfl (EL.call (cA1 cF56 rfl) rfl (QBE _ _) ?_))))))
  rintro e w4 ⟨rfl, hc4⟩
  refine ⟨_, rfl, ?_⟩;replace hq2 := hq2.bl hc4;replace q2 := q2.bl hc4;replace h0 := ZE h0 hc4 (Nat.le_refl _);replace h1 := ZE h1 hc4 (Nat.le_refl _);replace hbw := bo_ hbw hc4;clear hc4;refine EL.as rfl rfl (EL.nil (EX.seq ?_))
  cases yu
  ·
   have hW := ZI h0 (w1 := w4) ⟨rfl, rfl, rfl, Nat.le_refl _, fun _ _ _ => rfl⟩ hbw.size
   clear hW;have lt_1 := hq2.lt;refine EC.regionS [[], [], [1], [1, 2], [], [4], [1, 2, 3, 4, 5], [0, 1, 2, 3, 4, 5, 6], [0, 1, 2, 3, 4, 5, 6, 7]] 7 [] [6] (fun fl w_ => w4.grownBy w_ ((.slice A0 (fU false (ts.take k)).length c0) : Value).ownBlock ∧ (fl 6 = false → w_.ownsRow w.heap.size 39 5 (.slice A0 (fU false (ts.take k)).length c0) (fU false (ts.take k)).length (twsC (fU false (ts.take k))))) (phiS (fun i_ r => match i_ with | 0 => r 0 = .int .i64 (wyB false) | 1 => r 1 = .int .i64 (wyB false) | 2 => r 2 = .pointer (some ⟨g1, 0 + 0, none⟩) | 3 => r 3 = .slice A0 (fU false (ts.take k)).length c0 | 4 => r 4 = .agg #[.bool false, .int .i64 ya, .int .i64 yl, .int .i64 yw, .int .i64 yp] | _ => True) [(5, fun fl r w_ => fl 6 = false → (∃ g_, r 5 = .slice (some ⟨g_, 0, none⟩) 1 1 ∧ Blk w_ g_ 39 #[.bool false, .int .i64 ya, .int .i64 yl, .int .i64 yw, .int .i64 yp] ∧ w4.heap.size ≤ g_)), (6, fun _ r w_ => w_.ownsRow w.heap.size 39 5 (r 6) ((fU false (ts.take k)).length + 1) ((twsC (fU false (ts.take k))) ++ [.bool false, .int .i64 ya, .int .i64 yl, .int .i64 yw, .int .i64 yp]) ∧ ∀ b, (r 6).ownBlock = some b → ((.slice A0 (fU false (ts.take k)).length c0) : Value).ownBlock = some b ∨ w4.heap.size ≤ b)]) (by kernel_rfl) rfl rfl (by intro i hi; simp at hi; subst hi; exact ⟨by simp, by omega⟩) (QAt h0) (ZK (Z0 Yj) (ZK (QAG (e := 6) (C := fun u_ => ∀ b, u_.ownBlock = some b → ((.slice A0 (fU false (ts.take k)).length c0) : Value).ownBlock = some b ∨ w4.heap.size ≤ b)) (Zb))) (fun i_ hi_ hs_ => ?_) (fun i_ hi_ => ?_) ?_
   ·match i_, hi_ with
    | 0, _ =>
     intro val fl w1 a hb ha hd hfl;obtain ⟨hgb, hg0⟩ := hb;have hb := ZI h0 hgb hbw.size;have ha := ha.s0 (d := 5) rfl
     exact ZC ha rfl rfl (x_move rfl) rfl rfl
    | 1, _ =>
     intro val fl w1 a hb ha hd hfl;obtain ⟨hgb, hg0⟩ := hb;have hb := ZI h0 hgb hbw.size;have ha := ha.s0 (d := 5) rfl
     exact ZC ha rfl rfl (x_move rfl) rfl rfl
    | 2, _ =>
     intro val fl w1 a hb ha hd hfl;obtain ⟨hgb, hg0⟩ := hb;have hb := ZI h0 hgb hbw.size;have e1 : val 1 = _ := hd 1 (ZA.1 rfl);have ha := ha.sub (Sub.ins (d := 18) (Sub.ins (d := 2) (Sub.nil _) rfl) (ZO rfl e1))
     exact ZC ha rfl rfl (YE (k := 0) rfl rfl (by omega)) rfl rfl
    | 3, _ =>
     intro val fl w1 a hb ha hd hfl;obtain ⟨hgb, hg0⟩ := hb;have hb := ZI h0 hgb hbw.size;have e2 : val 2 = _ := hd 2 (ZA.1 rfl);have ha := ha.s1 (d := 19) rfl e2
     exact ZC ha rfl rfl (Yf rfl ((ZM hq2 h0 rfl hgb).at (j := 0) rfl)) rfl rfl
    | 4, _ =>
     intro val fl w1 a hb ha hd hfl;obtain ⟨hgb, hg0⟩ := hb;have hb := ZI h0 hgb hbw.size;have ha := ha.s0 (d := 4) rfl
     exact ZC ha rfl rfl (QAU rfl ((q2.grown hgb (fun e => hn0 _ e.symm rfl)).at (j := 0) rfl) ((q2.grown hgb (fun e => hn0 _ e.symm rfl)).at (j := 1) rfl) ((q2.grown hgb (fun e => hn0 _ e.symm rfl)).at (j := 2) rfl) ((q2.grown hgb (fun e => hn0 _ e.symm rfl)).at (j := 3) rfl) ((q2.grown hgb (fun e => hn0 _ e.symm rfl)).at (j := 4) rfl)) rfl rfl
    | 5, _ =>
     intro val fl w1 a hb ha hd hfl;obtain ⟨hgb, hg0⟩ := hb;have hb := ZI h0 hgb hbw.size;have e4 : val 4 = _ := hd 4 (ZA.1 rfl);have ha := ha.s1 (d := 21) rfl e4
     exact Y4 ha rfl rfl (QEA rfl) rfl (fun g w' hq _ hge => fun _ => ⟨g, rfl, hq, Nat.le_trans hgb.size hge⟩)
    | 6, _ =>
     exact absurd (by simp) hs_
    | k + 7, h => exact absurd h (by omega)
   ·simp only [List.mem_singleton] at hi_; subst hi_
    intro val fl w1 a hb hfi ha hd hfl;obtain ⟨hgb, hg0⟩ := hb;have hb := ZI h0 hgb hbw.size;have e3 : val 3 = _ := hd 3 (ZA.1 rfl);obtain ⟨g5_, e5, q5_, h5_⟩ := hd 5 (ZA.1 rfl) hfi;change val 5 = _ at e5;have ha := ha.s2 (d := 22) (e := 20) rfl e5 rfl e3;refine QAW QAh ha rfl rfl rfl (hg0 hfi) (QA9 (l := [.bool false, .int .i64 ya, .int .i64 yl, .int .i64 yw, .int .i64 yp]) q5_ rfl) (by intro u hu; simp only [List.mem_cons, List.not_mem_nil, or_false] at hu; rcases hu with rfl | rfl | rfl | rfl | rfl <;> rfl) (by omega) rfl (Nat.le_trans hbw.size hgb.size) ?_
    intro v' w' ho' hgr hat;refine ⟨v', rfl, hgr.size, ⟨Zg hgb hgr, fun h => by rw [ZQ] at h; cases h⟩, ⟨ho', fun b hb' => ?_⟩, fun j _ hj hn hA => ?_⟩
    ·rcases hat with h | h
     ·exact .inl (h ▸ hb')
     ·refine .inr ?_
      change v'.ownBlock = some b at hb';rw [h] at hb'
      injection hb' with hb'
      have := hgb.size
      omega
    ·exact ZF (C := fun j => j ≠ 6 ∧ 6 ∉ clsAt [[], [], [1], [1, 2], [], [4], [1, 2, 3, 4, 5], [0, 1, 2, 3, 4, 5, 6], [0, 1, 2, 3, 4, 5, 6, 7]] j) (fun _ _ h => by rw [ZQ] at h; cases h) (ZF (fun hc => absurd rfl hc.1) (fun _ _ h => h)) j ⟨hj, hn⟩
   ·intro val fl w' hfl hb halc hd
    obtain ⟨hgb, _⟩ := hb;have hb := ZI h0 hgb hbw.size;have e0 : val 0 = _ := hd 0 (by omega)
    have e1 : val 1 = _ := hd 1 (by omega)
    have e2 : val 2 = _ := hd 2 (by omega)
    have e3 : val 3 = _ := hd 3 (by omega)
    have e4 : val 4 = _ := hd 4 (by omega)
    obtain ⟨ho6, hn6⟩ := hd 6 (by omega)
    change w'.ownsRow _ _ _ (val 6) _ _ at ho6;refine EL.ends (cs := [_, _, _, _, _, val 5, val 6]) ⟨e0, e1, e2, e3, e4, rfl, rfl, trivial⟩ rfl ?_;replace hq2 := ZM hq2 h0 rfl hgb
    (have hlt_h1 := h1.lt)
    replace h1 := QAK h1 hgb (fun b hb e => hap _ e hb)
    replace hbw := hbw.trans (hb.mono (Nat.le_refl _));obtain ⟨A7, c7, e7_, _⟩ := (Rd.of_own ho6).shape;change ∀ b, (val 6).ownBlock = some b → (.slice A0 (fU false (ts.take k)).length c0 : Value).ownBlock = some b ∨ w4.heap.size ≤ b at hn6;rw [e7_] at ho6 hn6 ⊢;refine EL.val (YE (k := 0) rfl rfl (by omega)) rfl ?_
    refine EL.store rfl rfl hq2 QIP rfl rfl rfl rfl ?_;intro w5 hq5 hg5;replace h1 := ZL h1 hq2 rfl hg5;replace ho6 := ZL ho6 hq2 rfl hg5;replace hbw := ZD hbw hg5 bhbw_1;replace hq2 := hq5;clear hg5 hq5;refine EL.nil (EX.blk (EX.seq (EC.region ?_)));refine EL.val (ZP rfl rfl (c := ((k + 1 : Nat) : Int)) ((IntWalk.i64_in _ ⟨by first | omega | (simp only; omega), by first | omega | (simp only; omega)⟩).trans (by first | omega | (simp only; omega)))) rfl ?_
    refine EL.mv rfl rfl (EL.nil ?_);have hfx : (fU false (ts.take (k + 1))) = (fU false (ts.take k)) ++ [⟨false, ya, yl, yw, yp⟩] := by rw [htk]; exact List.filter_append ..
    have hfy : (fU true (ts.take (k + 1))) = (fU true (ts.take k)) := by rw [htk]; exact (List.filter_append ..).trans (List.append_nil _)
    refine EX.roundD (k + 1, .slice A7 ((fU false (ts.take k)).length + 1) c7, .slice A1 (fU true (ts.take k)).length c1) ⟨rfl, trivial⟩ (by repeat first | with_reducible exact .refl _ | refine sp_ rfl ?_ | exact .refl _ | refine sd_ rfl ?_ | refine sn_ ?_) ⟨hlt, hq2, (by rw [hfx, QCg, List.length_append]; exact ho6), (by rw [hfy]; exact h1), (fun b hb => (hn6 b hb).elim (hap b) (fun h2 h3 => absurd (hlt_h1 b h3).2 (by omega))), hbw⟩ (show ts.length - (k + 1) < ts.length - k by omega)
  ·
   have hW := ZI h1 (w1 := w4) ⟨rfl, rfl, rfl, Nat.le_refl _, fun _ _ _ => rfl⟩ hbw.size
   clear hW;have lt_1 := hq2.lt;refine EC.regionS [[], [], [1], [1, 2], [], [4], [1, 2, 3, 4, 5], [0, 1, 2, 3, 4, 5, 6], [0, 1, 2, 3, 4, 5, 6, 7]] 7 [] [6] (fun fl w_ => w4.grownBy w_ ((.slice A1 (fU true (ts.take k)).length c1) : Value).ownBlock ∧ (fl 6 = false → w_.ownsRow w.heap.size 39 5 (.slice A1 (fU true (ts.take k)).length c1) (fU true (ts.take k)).length (twsC (fU true (ts.take k))))) (phiS (fun i_ r => match i_ with | 0 => r 0 = .int .i64 (wyB true) | 1 => r 1 = .int .i64 (wyB true) | 2 => r 2 = .pointer (some ⟨g1, 0 + 1, none⟩) | 3 => r 3 = .slice A1 (fU true (ts.take k)).length c1 | 4 => r 4 = .agg #[.bool true, .int .i64 ya, .int .i64 yl, .int .i64 yw, .int .i64 yp] | _ => True) [(5, fun fl r w_ => fl 6 = false → (∃ g_, r 5 = .slice (some ⟨g_, 0, none⟩) 1 1 ∧ Blk w_ g_ 39 #[.bool true, .int .i64 ya, .int .i64 yl, .int .i64 yw, .int .i64 yp] ∧ w4.heap.size ≤ g_)), (6, fun _ r w_ => w_.ownsRow w.heap.size 39 5 (r 6) ((fU true (ts.take k)).length + 1) ((twsC (fU true (ts.take k))) ++ [.bool true, .int .i64 ya, .int .i64 yl, .int .i64 yw, .int .i64 yp]) ∧ ∀ b, (r 6).ownBlock = some b → ((.slice A1 (fU true (ts.take k)).length c1) : Value).ownBlock = some b ∨ w4.heap.size ≤ b)]) (by kernel_rfl) rfl rfl (by intro i hi; simp at hi; subst hi; exact ⟨by simp, by omega⟩) (QAt h1) (ZK (Z0 Yj) (ZK (QAG (e := 6) (C := fun u_ => ∀ b, u_.ownBlock = some b → ((.slice A1 (fU true (ts.take k)).length c1) : Value).ownBlock = some b ∨ w4.heap.size ≤ b)) (Zb))) (fun i_ hi_ hs_ => ?_) (fun i_ hi_ => ?_) ?_
   ·match i_, hi_ with
    | 0, _ =>
     intro val fl w1 a hb ha hd hfl;obtain ⟨hgb, hg0⟩ := hb;have hb := ZI h1 hgb hbw.size;have ha := ha.s0 (d := 5) rfl
     exact ZC ha rfl rfl (x_move rfl) rfl rfl
    | 1, _ =>
     intro val fl w1 a hb ha hd hfl;obtain ⟨hgb, hg0⟩ := hb;have hb := ZI h1 hgb hbw.size;have ha := ha.s0 (d := 5) rfl
     exact ZC ha rfl rfl (x_move rfl) rfl rfl
    | 2, _ =>
     intro val fl w1 a hb ha hd hfl;obtain ⟨hgb, hg0⟩ := hb;have hb := ZI h1 hgb hbw.size;have e1 : val 1 = _ := hd 1 (ZA.1 rfl);have ha := ha.sub (Sub.ins (d := 18) (Sub.ins (d := 2) (Sub.nil _) rfl) (ZO rfl e1))
     exact ZC ha rfl rfl (YE (k := 1) rfl rfl (by omega)) rfl rfl
    | 3, _ =>
     intro val fl w1 a hb ha hd hfl;obtain ⟨hgb, hg0⟩ := hb;have hb := ZI h1 hgb hbw.size;have e2 : val 2 = _ := hd 2 (ZA.1 rfl);have ha := ha.s1 (d := 19) rfl e2
     exact ZC ha rfl rfl (Yf rfl ((ZM hq2 h1 rfl hgb).at (j := 1) rfl)) rfl rfl
    | 4, _ =>
     intro val fl w1 a hb ha hd hfl;obtain ⟨hgb, hg0⟩ := hb;have hb := ZI h1 hgb hbw.size;have ha := ha.s0 (d := 4) rfl
     exact ZC ha rfl rfl (QAU rfl ((q2.grown hgb (fun e => hn1 _ e.symm rfl)).at (j := 0) rfl) ((q2.grown hgb (fun e => hn1 _ e.symm rfl)).at (j := 1) rfl) ((q2.grown hgb (fun e => hn1 _ e.symm rfl)).at (j := 2) rfl) ((q2.grown hgb (fun e => hn1 _ e.symm rfl)).at (j := 3) rfl) ((q2.grown hgb (fun e => hn1 _ e.symm rfl)).at (j := 4) rfl)) rfl rfl
    | 5, _ =>
     intro val fl w1 a hb ha hd hfl;obtain ⟨hgb, hg0⟩ := hb;have hb := ZI h1 hgb hbw.size;have e4 : val 4 = _ := hd 4 (ZA.1 rfl);have ha := ha.s1 (d := 21) rfl e4
     exact Y4 ha rfl rfl (QEA rfl) rfl (fun g w' hq _ hge => fun _ => ⟨g, rfl, hq, Nat.le_trans hgb.size hge⟩)
    | 6, _ =>
     exact absurd (by simp) hs_
    | k + 7, h => exact absurd h (by omega)
   ·simp only [List.mem_singleton] at hi_; subst hi_
    intro val fl w1 a hb hfi ha hd hfl;obtain ⟨hgb, hg0⟩ := hb;have hb := ZI h1 hgb hbw.size;have e3 : val 3 = _ := hd 3 (ZA.1 rfl);obtain ⟨g5_, e5, q5_, h5_⟩ := hd 5 (ZA.1 rfl) hfi;change val 5 = _ at e5;have ha := ha.s2 (d := 22) (e := 20) rfl e5 rfl e3;refine QAW QAh ha rfl rfl rfl (hg0 hfi) (QA9 (l := [.bool true, .int .i64 ya, .int .i64 yl, .int .i64 yw, .int .i64 yp]) q5_ rfl) (by intro u hu; simp only [List.mem_cons, List.not_mem_nil, or_false] at hu; rcases hu with rfl | rfl | rfl | rfl | rfl <;> rfl) (by omega) rfl (Nat.le_trans hbw.size hgb.size) ?_
    intro v' w' ho' hgr hat;refine ⟨v', rfl, hgr.size, ⟨Zg hgb hgr, fun h => by rw [ZQ] at h; cases h⟩, ⟨ho', fun b hb' => ?_⟩, fun j _ hj hn hA => ?_⟩
    ·rcases hat with h | h
     ·exact .inl (h ▸ hb')
     ·refine .inr ?_
      change v'.ownBlock = some b at hb';rw [h] at hb'
      injection hb' with hb'
      have := hgb.size
      omega
    ·exact ZF (C := fun j => j ≠ 6 ∧ 6 ∉ clsAt [[], [], [1], [1, 2], [], [4], [1, 2, 3, 4, 5], [0, 1, 2, 3, 4, 5, 6], [0, 1, 2, 3, 4, 5, 6, 7]] j) (fun _ _ h => by rw [ZQ] at h; cases h) (ZF (fun hc => absurd rfl hc.1) (fun _ _ h => h)) j ⟨hj, hn⟩
   ·intro val fl w' hfl hb halc hd
    obtain ⟨hgb, _⟩ := hb;have hb := ZI h1 hgb hbw.size;have e0 : val 0 = _ := hd 0 (by omega)
    have e1 : val 1 = _ := hd 1 (by omega)
    have e2 : val 2 = _ := hd 2 (by omega)
    have e3 : val 3 = _ := hd 3 (by omega)
    have e4 : val 4 = _ := hd 4 (by omega)
    obtain ⟨ho6, hn6⟩ := hd 6 (by omega)
    change w'.ownsRow _ _ _ (val 6) _ _ at ho6;refine EL.ends (cs := [_, _, _, _, _, val 5, val 6]) ⟨e0, e1, e2, e3, e4, rfl, rfl, trivial⟩ rfl ?_;replace hq2 := ZM hq2 h1 rfl hgb
    (have hlt_h0 := h0.lt)
    replace h0 := QAK h0 hgb (fun b hb e => hap _ hb e)
    replace hbw := hbw.trans (hb.mono (Nat.le_refl _));obtain ⟨A7, c7, e7_, _⟩ := (Rd.of_own ho6).shape;change ∀ b, (val 6).ownBlock = some b → (.slice A1 (fU true (ts.take k)).length c1 : Value).ownBlock = some b ∨ w4.heap.size ≤ b at hn6;rw [e7_] at ho6 hn6 ⊢;refine EL.val (YE (k := 1) rfl rfl (by omega)) rfl ?_
    refine EL.store rfl rfl hq2 QIP rfl rfl rfl rfl ?_;intro w6 hq6 hg6;replace h0 := ZL h0 hq2 rfl hg6;replace ho6 := ZL ho6 hq2 rfl hg6;replace hbw := ZD hbw hg6 bhbw_1;replace hq2 := hq6;clear hg6 hq6;refine EL.nil (EX.blk (EX.seq (EC.region ?_)));refine EL.val (ZP rfl rfl (c := ((k + 1 : Nat) : Int)) ((IntWalk.i64_in _ ⟨by first | omega | (simp only; omega), by first | omega | (simp only; omega)⟩).trans (by first | omega | (simp only; omega)))) rfl ?_
    refine EL.mv rfl rfl (EL.nil ?_);have hfx : (fU true (ts.take (k + 1))) = (fU true (ts.take k)) ++ [⟨true, ya, yl, yw, yp⟩] := by rw [htk]; exact List.filter_append ..
    have hfy : (fU false (ts.take (k + 1))) = (fU false (ts.take k)) := by rw [htk]; exact (List.filter_append ..).trans (List.append_nil _)
    refine EX.roundD (k + 1, .slice A0 (fU false (ts.take k)).length c0, .slice A7 ((fU true (ts.take k)).length + 1) c7) ⟨rfl, trivial⟩ (by repeat first | with_reducible exact .refl _ | refine sp_ rfl ?_ | exact .refl _ | refine sd_ rfl ?_ | refine sn_ ?_) ⟨hlt, hq2, (by rw [hfy]; exact h0), (by rw [hfx, QCg, List.length_append]; exact ho6), (fun b hb hb2 => (hn6 b hb2).elim (hap b hb) (fun h2 => absurd (hlt_h0 b hb).2 (by omega))), hbw⟩ (show ts.length - (k + 1) < ts.length - k by omega)
 ·
  obtain rfl : k = ts.length := by omega
  rw [List.take_length] at h0 h1 hq2 hap hf0 hf1;refine EC.seq (EC.region ?_);refine EL.val (ZS (r := false) rfl rfl (decide_eq_false (by omega))) rfl ?_
  refine EL.nil (EX.seq (EC.seq (EC.no rfl (EC.exit (EX.seq_exit (EX.seq_exit (EX.blk_here (EX.seq (EC.seq ?_)))))))));refine EC.seq (EC.region (EL.val (ld_134 rfl (hq2.at (j := 0) rfl) (hq2.at (j := 1) rfl)) rfl (EL.mv rfl rfl (EL.nil (EX.seq (EC.block ?_))))));refine EC.loopD [7, 27, 28, 29, 30, 31, 32] (fun i : Nat => [(27, .int .i64 (i : Nat))]) (fun i W => i ≤ 2 ∧ Blk W g1 134 #[.slice A0 (fU false ts).length c0, .slice A1 (fU true ts).length c1] ∧ W.ownsRow w.heap.size 39 5 (.slice A0 (fU false ts).length c0) (fU false ts).length (twsC (if i ≤ 0 then (fU false ts) else Yr (fU false ts))) ∧ W.ownsRow w.heap.size 39 5 (.slice A1 (fU true ts).length c1) (fU true ts).length (twsC (if i ≤ 1 then (fU true ts) else Yr (fU true ts))) ∧ Below w.heap.size w W) (fun i => 2 - i) 0 ⟨Nat.zero_le _, hq2, h0, h1, hbw⟩ ⟨rfl, trivial⟩ ?_
  clear hq2 h0 h1 hbw
  rintro i W ⟨hi, hq2, h0, h1, hbw⟩
  have hi3 : i = 0 ∨ i = 1 ∨ i = 2 := by omega
  rcases hi3 with rfl | rfl | rfl
  ·
   refine EC.seq (EC.region ?_);refine EL.val (ZS (r := true) rfl rfl (decide_eq_true (by omega))) rfl ?_
   refine EL.nil (EX.seq (EC.seq (EC.yes rfl (EC.skip (EX.seq (EC.seq (EC.block (EC.seq (EC.region ?_)))))))));refine EL.val (QNo rfl rfl) rfl (EL.as rfl rfl (EL.nil (EX.seq (EC.region (EL.mv rfl rfl ?_)))));refine EL.call (cA2 cF73 rfl rfl) rfl (QGi h0 (by omega)) ?_
   rintro e w5 ⟨rfl, hs5, hg5⟩
   refine ⟨_, rfl, ?_⟩;replace h1 := QAK h1 hg5 (fun b hb e => hap _ e hb)
   replace hq2 := ZM hq2 h0 rfl hg5;replace hbw := hbw.trans (ZI h0 hg5 hbw.size);clear h0;have h0 := hs5;clear hs5;refine EL.nil (EX.blk (EX.seq (EC.region (EL.val (ZP rfl rfl (c := ((0 + 1 : Nat) : Int)) rfl) rfl (EL.mv rfl rfl (EL.nil ?_))))));refine EX.roundD (0 + 1) ⟨rfl, trivial⟩ (by repeat first | with_reducible exact .refl _ | refine sp_ rfl ?_ | exact .refl _ | refine sd_ rfl ?_ | refine sn_ ?_) ⟨by omega, hq2, h0, h1, hbw⟩ (by omega)
  ·
   refine EC.seq (EC.region ?_);refine EL.val (ZS (r := true) rfl rfl (decide_eq_true (by omega))) rfl ?_
   refine EL.nil (EX.seq (EC.seq (EC.yes rfl (EC.skip (EX.seq (EC.seq (EC.block (EC.seq (EC.region ?_)))))))));refine EL.val (QNn rfl rfl) rfl (EL.as rfl rfl (EL.nil (EX.seq (EC.region (EL.mv rfl rfl ?_)))));refine EL.call (cA2 cF73 rfl rfl) rfl (QGi h1 (by omega)) ?_
   rintro e w5 ⟨rfl, hs5, hg5⟩
   refine ⟨_, rfl, ?_⟩;replace h0 := QAK h0 hg5 (fun b hb e => hap _ hb e)
   replace hq2 := ZM hq2 h1 rfl hg5;replace hbw := hbw.trans (ZI h1 hg5 hbw.size);clear h1;have h1 := hs5;clear hs5;refine EL.nil (EX.blk (EX.seq (EC.region (EL.val (ZP rfl rfl (c := ((1 + 1 : Nat) : Int)) rfl) rfl (EL.mv rfl rfl (EL.nil ?_))))));refine EX.roundD (1 + 1) ⟨rfl, trivial⟩ (by repeat first | with_reducible exact .refl _ | refine sp_ rfl ?_ | exact .refl _ | refine sd_ rfl ?_ | refine sn_ ?_) ⟨by omega, hq2, h0, h1, hbw⟩ (by omega)
  ·
   refine EC.seq (EC.region ?_);refine EL.val (ZS (r := false) rfl rfl (decide_eq_false (by omega))) rfl ?_
   refine EL.nil (EX.seq (EC.seq (EC.no rfl (EC.exit (EX.seq_exit (EX.seq_exit (EX.blk_here (EX.seq (EC.seq ?_)))))))));refine EC.region (EL.val (ld_134 rfl (hq2.at (j := 0) rfl) (hq2.at (j := 1) rfl)) rfl (EL.store rfl rfl hq2 QHi rfl rfl rfl rfl ?_));intro w7 hq7 hg7;replace h0 := ZL h0 hq2 rfl hg7;replace h1 := ZL h1 hq2 rfl hg7;replace hbw := ZD hbw hg7 bhbw_1;replace hq2 := hq7;clear hg7 hq7;refine EL.nil (EX.seq (EC.ret ?_))
   exact EX.done (QBt rfl rfl (QNG (hq2.at (j := 0) rfl) (hq2.at (j := 1) rfl))) ⟨_, _, rfl, QMh h0, QMh h1, hbw⟩
/-! ### What a step makes of a state -/
theorem QKY (s : ST) : (mvS s).mv = s.mv + 1 := by
 unfold mvS
 split <;> rfl
theorem QNB (n : Nat) (s : ST) : (mvN n s).mv = s.mv + n := by
 induction n with
 | zero => simp [mvN]
 | succ n ih => rw [mvN, QKY, ih]; omega
theorem QJw (s : ST) (u : Bool) : s.mv ≤ (Ze s u).mv := by
 unfold Ze
 split
 ·show s.mv ≤ (mvS s).mv
  rw [QKY]
  omega
 ·exact Int.le_refl _
theorem QFZ (s : ST) (ts : List TW) (u : Bool) : (midS s ts u).t0 = s.t0 ∧ (midS s ts u).t1 = s.t1 ∧ (midS s ts u).cost = s.cost := by
 obtain ⟨_, b, c, d⟩ := QCw (2 * partsN (ZW ts) s.lk.length - 1) (Ze s u);obtain ⟨e, f, g⟩ := QBR s u
 exact ⟨b.trans e, c.trans f, d.trans g⟩
def tkn (s : ST) (u : Bool) : Nat := if u = true then s.t1 else s.t0
theorem QJy (s : ST) (ts : List TW) (u : Bool) : (tkS s ts u).t0 = (if u = true then s.t0 else s.t0 + ts.length) ∧ (tkS s ts u).t1 = (if u = true then s.t1 + ts.length else s.t1) := by
 obtain ⟨a, b, _⟩ := QFZ s ts u
 exact ⟨by show (if u = true then (midS s ts u).t0 else (midS s ts u).t0 + _) = _; rw [a], by show (if u = true then (midS s ts u).t1 + _ else (midS s ts u).t1) = _; rw [b]⟩
theorem QIN (s : ST) (ts : List TW) (u : Bool) : (tkS s ts u).t0 + (tkS s ts u).t1 = s.t0 + s.t1 + ts.length := by
 obtain ⟨a, b⟩ := QJy s ts u;rw [a, b]
 cases u <;> simp <;> omega
theorem QFr (s : ST) (ts : List TW) (u v : Bool) : tkn (tkS s ts u) v = if v = u then tkn s u + ts.length else tkn s v := by
 obtain ⟨a, b⟩ := QJy s ts u
 unfold tkn
 rw [a, b]
 cases u <;> cases v <;> simp
theorem QGd (s : ST) (ts : List TW) (u : Bool) : (tkS s ts u).cost = s.cost + QDG (runT s ts u).stop ts := by
 show (midS s ts u).cost + _ = _
 rw [(QFZ s ts u).2.2]
theorem QMz {s : ST} {ts : List TW} (u : Bool) (h : 0 < partsN (ZW ts) s.lk.length) : s.mv < (tkS s ts u).mv := by
 show s.mv < (mvN _ (Ze s u)).mv
 rw [QNB];have := QJw s u
 omega
theorem QM1 (s : ST) (ts : List TW) (u : Bool) : (tkS s ts u).fr = (runT s ts u).stop := rfl
theorem QFh {l : LK} {s : ST} {ts : List TW} {u : Bool} (h : StOk l s) (ht : ∀ t ∈ ts, twB l t = true) (hf : fitB l.length ts = true) (h8 : s.t0 + s.t1 + ts.length ≤ 8) (h0 : 0 < ts.length) :
  0 ≤ QDG (runT s ts u).stop ts ∧ QDG (runT s ts u).stop ts ≤ 14000000 * ts.length := by
 obtain ⟨_, _, _, _, r5, r6⟩ := QET (u := u) h ht hf h8;obtain ⟨e1, e2, e3, e4, e5⟩ := Y_ h.ok;have hb := QB8 (f := fun t => t.weight * ((runT s ts u).stop - t.arrive)) (l := ts) (a := 0) (b := 14000000) fun t hm => by
  obtain ⟨a1, _, a3, _⟩ := QAg (ht t hm);have := QMc hm;have r7 := (r6 h0).1;refine ⟨Int.mul_nonneg a3.1 (by omega), Int.le_trans (Int.mul_le_mul a3.2 (show _ ≤ 140000 by omega) (by omega) (by omega)) (by omega)⟩
 unfold QDG
 omega
theorem QM0 (s : ST) (ts : List TW) (u : Bool) : ∃ h, (tkS s ts u).lk = lkW s.lk h := by
 obtain ⟨h, e⟩ := QEg (2 * partsN (ZW ts) s.lk.length - 1) (Ze s u);refine ⟨h, ?_⟩
 show (mvN _ (Ze s u)).lk = _
 rw [e, QBF]
 rfl
theorem QJO {l : LK} {ts : List TW} (ht : ∀ t ∈ ts, twB l t = true) (hl : lkB l = true) (h8 : ts.length ≤ 8) (h0 : 0 < ts.length) : 0 < partsN (ZW ts) l.length := by
 have h1 := (Y_ hl).1;have h2 := QD3 ht h8 hl
 exact QDW (by omega) (by omega)
theorem StOk.take {l : LK} {s : ST} {ts : List TW} {u : Bool} (h : StOk l s) (ht : ∀ t ∈ ts, twB l t = true) (hf : fitB l.length ts = true) (h8 : s.t0 + s.t1 + ts.length ≤ 8) (h0 : 0 < ts.length) : StOk l (tkS s ts u) := by
 have hsum := QIN s ts u;obtain ⟨k, hk⟩ := QM0 s ts u;have el : s.lk.length = l.length := by rw [h.lk]; rfl
 obtain ⟨e1, e2, e3, e4, e5⟩ := Y_ h.ok;obtain ⟨r1, r2, r3, r4, r5, r6⟩ := QET (u := u) h ht hf h8;have hp := QBv ht h.ok hf;have hc := QFh (u := u) h ht hf h8 h0;have hp0 := h.fr;have hc0 := h.cost;have hlk : (tkS s ts u).lk = lkW l (tkS s ts u).lk.high := by rw [hk, h.lk]; rfl
 refine ⟨hlk, h.ok, ?_, ?_, ?_⟩
 ·rw [hsum]
  have hw := QEh (QDv (u := u) h.wt h.okL) (by rw [QBF]; exact h.okL) (2 * partsN (ZW ts) s.lk.length - 1)
  have hpu := QB8 (f := (·.push)) (l := ts) (a := 0) (b := 100000) fun t hm => (QAg (ht t hm)).2.2.2
  have hs : sgB u = 1 ∨ sgB u = -1 := by cases u <;> simp [sgB]
  rw [el] at hw;have ex : midS s ts u = mvN (2 * partsN (ZW ts) l.length - 1) (Ze s u) := by unfold midS; rw [el]
  rw [← ex] at hw;obtain ⟨w1, w2, w3, w4, w5, w6⟩ := hw;have eup : (tkS s ts u).up = (midS s ts u).up - sgB u * QCp ts := rfl;have elo : (tkS s ts u).lo = (midS s ts u).lo + sgB u * QCp ts := rfl;have ech : (tkS s ts u).ch = (midS s ts u).ch := rfl;have eba : (tkS s ts u).ba = (midS s ts u).ba := rfl;have emv : (tkS s ts u).mv = (midS s ts u).mv := rfl;have ell : (tkS s ts u).lk = (midS s ts u).lk := rfl;refine ⟨?_, ?_, by rw [ech]; omega, by rw [emv]; omega, by rw [eba, ell]; exact w5, by rw [eba, ell]; exact w6⟩
  ·rw [eup]
   unfold QCp
   rcases hs with hs | hs <;> rw [hs] <;> omega
  ·rw [elo]
   unfold QCp
   rcases hs with hs | hs <;> rw [hs] <;> omega
 ·rw [hsum, QM1]
  have := (r6 h0).2
  omega
 ·rw [hsum, QGd]
  omega
/-! ### The drafts that follow -/
abbrev QS := Bool → List TW
def waitL (q : QS) (s : ST) (u : Bool) : List TW := (q u).drop (tkn s u)
def oneD (q : QS) (d : Dr) (u : Bool) (n : Nat) : Dr := ⟨tkS d.s ((waitL q d.s u).take n) u, d.plan ++ [⟨u, n⟩]⟩
def fitN (q : QS) (s : ST) (u : Bool) (n : Nat) : Bool := fitB s.lk.length ((waitL q s u).take n)
/-- the numbers of tows that fit, one after another, from 1 on -/
def cntU (q : QS) (s : ST) (u : Bool) : List Nat := ((List.range (waitL q s u).length).map (· + 1)).takeWhile (fitN q s u)
def YN (q : QS) (d : Dr) (u : Bool) : List Dr := (cntU q d.s u).map (oneD q d u)
def nextL (q : QS) (d : Dr) : List Dr := YN q d false ++ YN q d true
def YJ (q : QS) (s : ST) : Bool := decide (s.t0 = (q false).length) && decide (s.t1 = (q true).length)
structure QOk (l : LK) (q : QS) : Prop where
 tw : ∀ u, ∀ t ∈ q u, twB l t = true
 len : (q false).length + (q true).length ≤ 8
 lk : lkB l = true
def stL (l : LK) : ST := ⟨l, 0, 0, 0, 0, 0, 0, 0, 0, 0⟩
theorem QM3 {l : LK} (h : lkB l = true) : StOk l (stL l) := by
 have := QC4 h;refine ⟨rfl, h, ⟨?_, ?_, ?_, ?_, ?_, fun _ => rfl⟩, ?_, ?_⟩ <;> simp [stL] <;> omega
/-- a draft: what its plan comes to -/
def stP (q : QS) (s : ST) (p : List SP) : ST := p.foldl (fun s x => tkS s ((waitL q s x.up).take x.tows.toNat) x.up) s
structure DrOk (l : LK) (q : QS) (d : Dr) : Prop where
 st : StOk l d.s
 le : ∀ u, tkn d.s u ≤ (q u).length
 eq : d.s = stP q (stL l) d.plan
 len : d.plan.length ≤ d.s.t0 + d.s.t1
 pos : ∀ x ∈ d.plan, 1 ≤ x.tows ∧ x.tows ≤ 8
theorem QAr {l : LK} {q : QS} (h : lkB l = true) : DrOk l q ⟨stL l, []⟩ := ⟨QM3 h, fun u => by cases u <;> exact Nat.zero_le _, rfl, Nat.le_refl _, fun x hx => by cases hx⟩
def remD (q : QS) (s : ST) : Nat := ((q false).length - s.t0) + ((q true).length - s.t1)
theorem YL (q : QS) (s : ST) (u : Bool) : (waitL q s u).length = (q u).length - tkn s u := by simp [waitL]
theorem QI0 {q : QS} {s : ST} {u : Bool} {n : Nat} (h : n ∈ cntU q s u) : 1 ≤ n ∧ n ≤ (waitL q s u).length ∧ fitN q s u n = true := by
 have h2 := List.takeWhile_subset _ h;have h3 : fitN q s u n = true := by
  have := List.all_takeWhile (l := (List.range (waitL q s u).length).map (· + 1)) (p := fitN q s u)
  exact List.all_eq_true.1 this n h
 obtain ⟨k, hk, rfl⟩ := List.mem_map.1 h2;have := List.mem_range.1 hk
 exact ⟨by omega, by omega, h3⟩
theorem DrOk.lkl {l : LK} {q : QS} {d : Dr} (h : DrOk l q d) : d.s.lk.length = l.length := by rw [h.st.lk]; rfl
section
variable {l : LK} {q : QS} {d : Dr} {u : Bool} {n : Nat}
theorem Zd (h2 : n ≤ (waitL q d.s u).length) : ((waitL q d.s u).take n).length = n := by rw [List.length_take]; omega
theorem YS (hq : QOk l q) : ∀ t ∈ (waitL q d.s u).take n, twB l t = true := fun t ht => hq.tw u t (List.mem_of_mem_drop (List.mem_of_mem_take ht))
theorem QAv (hq : QOk l q) (h : DrOk l q d) (h2 : n ≤ (waitL q d.s u).length) : d.s.t0 + d.s.t1 + n ≤ 8 := by
 have a := h.le false;have b := h.le true;have c := hq.len;rw [YL] at h2
 cases u <;> simp [tkn] at a b h2 <;> omega
theorem DrOk.one (hq : QOk l q) (h : DrOk l q d) (h1 : 1 ≤ n) (h2 : n ≤ (waitL q d.s u).length) (hf : fitN q d.s u n = true) : DrOk l q (oneD q d u n) := by
 have ht := Zd (q := q) (d := d) h2;have hs := QAv hq h h2;have hst := h.st.take (u := u) (YS hq) (by have := hf; unfold fitN at this; rw [h.lkl] at this; exact this) (by rw [ht]; exact hs) (by omega)
 refine ⟨hst, fun v => ?_, ?_, ?_, fun x hx => ?_⟩
 ·show tkn (tkS d.s _ u) v ≤ _
  rw [QFr, ht];rw [YL] at h2;have := h.le v;have := h.le u
  split
  ·rename_i e; subst e; omega
  ·assumption
 ·show tkS d.s _ u = stP q (stL l) (d.plan ++ [⟨u, n⟩])
  unfold stP
  rw [List.foldl_append]
  show _ = tkS (stP q (stL l) d.plan) ((waitL q (stP q (stL l) d.plan) u).take n) u
  rw [← h.eq]
 ·show (d.plan ++ [_]).length ≤ (tkS d.s _ u).t0 + (tkS d.s _ u).t1
  rw [QIN, ht, List.length_append, List.length_singleton];have := h.len
  omega
 ·rcases List.mem_append.1 hx with hx | hx
  ·exact h.pos x hx
  ·rw [List.mem_singleton.1 hx]
   show 1 ≤ (n : Int) ∧ (n : Int) ≤ 8
   omega
theorem QFy (h : DrOk l q d) (h2 : n ≤ (waitL q d.s u).length) : remD q (oneD q d u n).s + n = remD q d.s := by
 have ht := Zd (q := q) (d := d) h2;obtain ⟨a, b⟩ := QJy d.s ((waitL q d.s u).take n) u;have c := h.le false;have e := h.le true
 show ((q false).length - (tkS d.s _ u).t0) + ((q true).length - (tkS d.s _ u).t1) + n = _
 rw [a, b, ht]
 unfold remD
 rw [YL] at h2
 cases u <;> simp [tkn] at c e h2 ⊢ <;> omega
theorem QNI (hq : QOk l q) (h : DrOk l q d) (h1 : 1 ≤ n) (h2 : n ≤ (waitL q d.s u).length) (hf : fitN q d.s u n = true) : leD d (oneD q d u n) := by
 have ht := Zd (q := q) (d := d) h2;have hs := QAv hq h h2;have hc := (QFh (u := u) h.st (YS hq) (by have := hf; unfold fitN at this; rw [h.lkl] at this; exact this) (by rw [ht]; exact hs) (by omega)).1
 have hm := QMz (s := d.s) (ts := (waitL q d.s u).take n) u (by rw [h.lkl]; exact QJO (YS hq) hq.lk (by omega) (by omega))
 have e1 : (oneD q d u n).s.cost = d.s.cost + QDG (runT d.s ((waitL q d.s u).take n) u).stop ((waitL q d.s u).take n) := QGd _ _ _;have e2 : d.s.mv < (oneD q d u n).s.mv := hm
 unfold leD
 rw [QAs]
 unfold cmpK keyD
 simp only
 have a1 : cmpI d.s.cost (oneD q d u n).s.cost = 0 ∨ cmpI d.s.cost (oneD q d u n).s.cost = -1 := by
  unfold cmpI
  split
  ·exact .inr rfl
  ·rw [if_neg (by omega)]; exact .inl rfl
 have a2 : cmpI d.s.mv (oneD q d u n).s.mv = -1 := by
  unfold cmpI
  rw [if_pos e2]
 rw [a2]
 rcases a1 with a1 | a1 <;> rw [a1] <;> simp [or3]
end
theorem QKX {l : LK} {q : QS} {d e : Dr} (he : e ∈ nextL q d) : ∃ u n, 1 ≤ n ∧ n ≤ (waitL q d.s u).length ∧ fitN q d.s u n = true ∧ e = oneD q d u n := by
 unfold nextL YN at he
 rcases List.mem_append.1 he with he | he <;>
 ·obtain ⟨n, hn, rfl⟩ := List.mem_map.1 he
  obtain ⟨a, b, c⟩ := QI0 hn
  exact ⟨_, n, a, b, c, rfl⟩
theorem QBX {l : LK} {q : QS} {d e : Dr} (hq : QOk l q) (h : DrOk l q d) (he : e ∈ nextL q d) : DrOk l q e ∧ leD d e ∧ remD q e.s < remD q d.s := by
 obtain ⟨u, n, a, b, c, rfl⟩ := QKX (l := l) he
 exact ⟨DrOk.one hq h a b c, QNI hq h a b c, by have := QFy h b; omega⟩
theorem QDH {l : LK} {q : QS} {d : Dr} (h : DrOk l q d) : YJ q d.s = true ↔ remD q d.s = 0 := by
 have a := h.le false;have b := h.le true
 unfold YJ remD
 rw [Bool.and_eq_true, decide_eq_true_iff, decide_eq_true_iff]
 simp [tkn] at a b
 omega
theorem QCE {q : QS} {d : Dr} (h : remD q d.s = 0) : nextL q d = [] := by
 have h1 : ∀ u, (waitL q d.s u).length = 0 := fun u => by
  rw [YL]
  unfold remD at h
  cases u <;> simp [tkn] <;> omega
 have h2 : ∀ u, cntU q d.s u = [] := fun u => by unfold cntU; rw [h1]; rfl
 unfold nextL YN
 rw [h2, h2]
 rfl
/-! ### All complete drafts that follow -/
def YI (q : QS) : Nat → Dr → List Dr
 | 0, d => if YJ q d.s = true then [d] else []
 | k + 1, d => (if YJ q d.s = true then [d] else []) ++ (nextL q d).flatMap (YI q k)
def QAS (q : QS) : Nat → Dr → Nat
 | 0, _ => 1
 | k + 1, d => 1 + ((nextL q d).map (QAS q k)).sum
theorem QCb {l : LK} {q : QS} (hq : QOk l q) : ∀ {k m : Nat} {d : Dr}, DrOk l q d → remD q d.s ≤ k → k ≤ m → YI q m d = YI q k d
 | 0, 0, d, _, _, _ => rfl
 | 0, m + 1, d, h, hr, _ => by
  rw [YI, YI, QCE (by omega)]
  simp
 | k + 1, 0, _, _, _, hm => by omega
 | k + 1, m + 1, d, h, hr, hm => by
  rw [YI, YI]
  congr 1
  refine flatMap_same fun e he => ?_
  obtain ⟨h1, _, h3⟩ := QBX hq h he
  exact QCb hq h1 (by omega) (by omega)
where
 flatMap_same {α β : Type} {f g : α → List β} : ∀ {l : List α}, (∀ x ∈ l, f x = g x) → l.flatMap f = l.flatMap g
 | [], _ => rfl
 | x :: l, h => by rw [List.flatMap_cons, List.flatMap_cons, h x (List.mem_cons_self ..), flatMap_same fun y hy => h y (List.mem_cons_of_mem _ hy)]
theorem QER {l : LK} {q : QS} (hq : QOk l q) : ∀ {k m : Nat} {d : Dr}, DrOk l q d → remD q d.s ≤ k → k ≤ m → QAS q m d = QAS q k d
 | 0, 0, d, _, _, _ => rfl
 | 0, m + 1, d, h, hr, _ => by
  rw [QAS, QAS, QCE (by omega)]
  rfl
 | k + 1, 0, _, _, _, hm => by omega
 | k + 1, m + 1, d, h, hr, hm => by
  rw [QAS, QAS]
  congr 2
  refine List.map_congr_left fun e he => ?_
  obtain ⟨h1, _, h3⟩ := QBX hq h he
  exact QER hq h1 (by omega) (by omega)
theorem QDJ {l : LK} {q : QS} (hq : QOk l q) : ∀ {k : Nat} {d e : Dr}, DrOk l q d → e ∈ YI q k d → DrOk l q e ∧ leD d e ∧ YJ q e.s = true
 | 0, d, e, h, he => by
  rw [YI] at he
  split at he
  ·rename_i hc
   rw [List.mem_singleton.1 he]
   exact ⟨h, QAm _, hc⟩
  ·cases he
 | k + 1, d, e, h, he => by
  rw [YI] at he
  rcases List.mem_append.1 he with he | he
  ·split at he
   ·rename_i hc
    rw [List.mem_singleton.1 he]
    exact ⟨h, QAm _, hc⟩
   ·cases he
  ·obtain ⟨x, hx, he⟩ := List.mem_flatMap.1 he
   obtain ⟨h1, h2, _⟩ := QBX hq h hx;obtain ⟨a, b, c⟩ := QDJ hq h1 he
   exact ⟨a, Y1 h2 b, c⟩
/-! how many drafts there are at most -/
theorem pow3 (r : Nat) : 1 ≤ 3 ^ r := Nat.one_le_pow _ _ (by omega)
theorem QIQ {f : Nat → Nat} {r : Nat} : ∀ (c : Nat), c ≤ r → (∀ n, 1 ≤ n → n ≤ c → f n ≤ 3 ^ (r - n)) → (((List.range c).map (· + 1)).map f).sum * 2 + 3 ^ (r - c) ≤ 3 ^ r
 | 0, _, _ => by simp
 | c + 1, hc, h => by
  have ih := QIQ (f := f) (r := r) c (by omega) fun n h1 h2 => h n h1 (by omega)
  have h3 := h (c + 1) (by omega) (by omega)
  have e : 3 ^ (r - c) = 3 * 3 ^ (r - (c + 1)) := by
   rw [show r - c = (r - (c + 1)) + 1 by omega, Nat.pow_succ]
   omega
  rw [List.range_succ]
  simp only [List.map_append, List.sum_append, List.map_cons, List.map_nil, List.sum_cons, List.sum_nil]
  rw [e] at ih
  generalize 3 ^ (r - (c + 1)) = y at *
  generalize 3 ^ r = z at *
  omega
theorem QJE {α : Type} {p : α → Bool} {f : α → Nat} : ∀ (l : List α), ((l.takeWhile p).map f).sum ≤ (((l.takeWhile p) ++ (l.dropWhile p)).map f).sum := fun l => by
 rw [List.map_append, List.sum_append]
 omega
theorem QKA {f : Nat → Nat} {r c : Nat} {p : Nat → Bool} (hc : c ≤ r) (h : ∀ n, 1 ≤ n → n ≤ c → p n = true → f n ≤ 3 ^ (r - n)) : ((((List.range c).map (· + 1)).takeWhile p).map f).sum * 2 + 1 ≤ 3 ^ r := by
 have h1 := QIQ (f := fun n => if p n = true then f n else 0) (r := r) c hc fun n a b => by
  split
  ·rename_i hp; exact h n a b hp
  ·exact Nat.zero_le _
 have h2 := QJE (p := p) (f := fun n => if p n = true then f n else 0) ((List.range c).map (· + 1))
 rw [List.takeWhile_append_dropWhile] at h2;have h3 : (((List.range c).map (· + 1)).takeWhile p).map (fun n => if p n = true then f n else 0) = (((List.range c).map (· + 1)).takeWhile p).map f := List.map_congr_left fun n hn => by
  have := List.all_takeWhile (l := (List.range c).map (· + 1)) (p := p);rw [if_pos (List.all_eq_true.1 this n hn)]
 rw [h3] at h2;have := pow3 (r - c)
 omega
theorem QIV {l : LK} {q : QS} (hq : QOk l q) : ∀ {k : Nat} {d : Dr}, DrOk l q d → QAS q k d ≤ 3 ^ (remD q d.s)
 | 0, d, _ => pow3 _
 | k + 1, d, h => by
  have hu : ∀ u, ((YN q d u).map (QAS q k)).sum * 2 + 1 ≤ 3 ^ (remD q d.s) := fun u => by
   unfold YN cntU
   rw [List.map_map];refine QKA (by rw [YL]; unfold remD; cases u <;> simp [tkn] <;> omega) fun n h1 h2 hf => ?_
   have := QIV hq (k := k) (DrOk.one hq h h1 h2 hf);have e := QFy h h2;rw [show remD q d.s - n = remD q (oneD q d u n).s by omega]
   exact this
  have a := hu false;have b := hu true;rw [QAS]
  unfold nextL
  rw [List.map_append, List.sum_append]
  omega
theorem QDU {α : Type} (p : α → Bool) : ∀ l : List α, l.takeWhile p = l.take (l.takeWhile p).length
 | [] => rfl
 | x :: l => by
  rw [List.takeWhile_cons]
  split
  ·rw [List.length_cons, List.take_succ_cons, ← QDU p l]
  ·rfl
theorem QCR {α : Type} {p : α → Bool} {d : α} : ∀ {l : List α}, (l.takeWhile p).length < l.length → p (l.getD (l.takeWhile p).length d) = false
 | [], h => by simp at h
 | x :: l, h => by
  rw [List.takeWhile_cons] at h ⊢
  split at h
  ·rename_i hp
   rw [if_pos hp];have := QCR (d := d) (l := l) (p := p) (by simp at h; omega)
   simpa using this
  ·rename_i hp
   rw [if_neg hp]
   simpa using hp
section
variable {q : QS} {s : ST} {u : Bool} {n : Nat}
theorem QD_ : (cntU q s u).length ≤ (waitL q s u).length := by
 have h : (cntU q s u).length ≤ ((List.range (waitL q s u).length).map (· + 1)).length := (List.takeWhile_sublist _).length_le
 simpa using h
theorem QH7 (h : n < (cntU q s u).length) : (cntU q s u).getD n 0 = n + 1 := by
 have h1 := QD_ (q := q) (s := s) (u := u);have e : cntU q s u = ((List.range (waitL q s u).length).map (· + 1)).take (cntU q s u).length := QDU _ _;rw [e];rw [Zj (by rw [List.length_take, List.length_map, List.length_range]; omega), List.getElem_take]
 simp
theorem QGN (h : n < (cntU q s u).length) : fitN q s u (n + 1) = true := by
 have := (QI0 (Z1 h 0)).2.2
 rwa [QH7 h] at this
theorem QB2 (h : n ≤ (cntU q s u).length) (hl : n < (waitL q s u).length) : fitN q s u (n + 1) = true ↔ n < (cntU q s u).length := by
 refine ⟨fun hf => ?_, QGN⟩
 rcases Nat.lt_or_ge n (cntU q s u).length with h1 | h1
 ·exact h1
 ·obtain rfl : n = (cntU q s u).length := by omega
  have h2 := QCR (p := fitN q s u) (d := 0) (l := (List.range (waitL q s u).length).map (· + 1)) (by simpa [cntU] using hl)
  have e : ((List.range (waitL q s u).length).map (· + 1)).getD (cntU q s u).length 0 = (cntU q s u).length + 1 := by
   rw [Zj (by simpa using hl)]
   simp
  change fitN q s u (((List.range (waitL q s u).length).map (· + 1)).getD (cntU q s u).length 0) = false at h2;rw [e, hf] at h2
  cases h2
end
def cntN (q : QS) (d : Dr) (u : Bool) : Nat := (cntU q d.s u).length
theorem QDY (q : QS) (d : Dr) : (nextL q d).length = cntN q d false + cntN q d true := by simp [nextL, YN, cntN]
theorem QKa {α β : Type} {f : α → β} {l : List α} {n : Nat} {a : α} {b : β} (h : n < l.length) : (l.map f).getD n b = f (l.getD n a) := by
 rw [Zj (by simpa using h), Zj h, List.getElem_map]
theorem QLJ {α : Type} {a b : List α} {d : α} {n : Nat} (h : n < a.length) : (a ++ b).getD n d = a.getD n d := by
 rw [Zj (by rw [List.length_append]; omega), Zj h, List.getElem_append_left h]
theorem QI7 {α : Type} {a b : List α} {d : α} {n : Nat} : (a ++ b).getD (a.length + n) d = b.getD n d := by
 simp [List.getD_eq_getElem?_getD, List.getElem?_append_right]
theorem QG0 {q : QS} {d : Dr} {u : Bool} {n : Nat} (h : n < cntN q d u) : (YN q d u).getD n dr0 = oneD q d u (n + 1) := by
 unfold YN
 rw [QKa (a := 0) h, QH7 h]
theorem QLy {q : QS} {d : Dr} {n : Nat} (h : n < cntN q d false) : (nextL q d).getD n dr0 = oneD q d false (n + 1) := by
 unfold nextL
 rw [QLJ (by unfold YN; rw [List.length_map]; exact h)]
 exact QG0 h
theorem QLx {q : QS} {d : Dr} {n : Nat} (h : n < cntN q d true) : (nextL q d).getD (cntN q d false + n) dr0 = oneD q d true (n + 1) := by
 unfold nextL
 have e : cntN q d false = (YN q d false).length := by unfold YN; rw [List.length_map]; rfl
 rw [e, QI7]
 exact QG0 h
def allE (n : Nat) : List (List Int) := (List.range n).map fun i => [((i : Nat) : Int)]
theorem QCI {n : Nat} : allE (n + 1) = allE n ++ [[((n : Nat) : Int)]] := by
 unfold allE
 rw [List.range_succ, List.map_append]
 rfl
theorem QE9 {x n : Nat} (h : x < n) : allE x ++ [[((x : Nat) : Int)]] <+: allE n := by
 rw [← QCI];obtain ⟨k, rfl⟩ : ∃ k, n = (x + 1) + k := ⟨n - (x + 1), by omega⟩
 generalize x + 1 = m
 unfold allE
 rw [List.range_add, List.map_append]
 exact List.prefix_append _ _
theorem QB4 (n : Nat) : (allE n).length = n := by simp [allE]
theorem QFc {P : Program} {fn : Func} {X : Ending → World → Prop} : ¬LetsOut (bodyPost P fn fun e W' => (∃ v, e = .returned v) ∧ X e W') := fun ⟨_, _, ⟨_, h⟩, _⟩ => by cases h
section
variable {P : Program} {ops : Array Oper} {Q : Exit → Act → World → Prop}
theorem QJS {n : Nat} {o : Oper} {a : Act} {w : World} {K : Act → World → Prop} (hnd : ∀ c, o.op ≠ .defer c) (h : o.wp P a w K Q) : o.wpIn (FR none) n P a w K Q := by
 refine ⟨fun _ _ => trivial, ?_⟩
 rw [Oper.semAt_eq _ _ _ hnd]
 unfold Oper.wp at h
 generalize (execOp a.eval o).run P w = r at h ⊢
 have hd : ((FR none).depth.isSome = true → 1 ≤ n) := fun h => by simp [FR, Fence.wide] at h
 cases r with
 | ok x w' =>
  cases x
  case value => exact h
  case skip => exact h
  case defer => exact h
  case enter f args => exact ⟨hd, (callsIn_wide.2 h).mono fun e w'' he => by cases e <;> exact he⟩
  case row row args =>
   refine ⟨hd, fun c cs _ => ?_⟩
   obtain ⟨v, w'', hv, hs⟩ := h c cs
   exact ⟨v, w'', hv, stepsIn_wide.2 hs⟩
  all_goals exact h.elim
 | halt x w' => cases x <;> exact h
theorem QLU {n i : Nat} {a : Act} {w : World} {K : Act → World → Prop} (hnd : ∀ (i : Nat) (o : Oper), ops[i]? = some o → ∀ c, o.op ≠ .defer c) (hQ : ¬LetsOut Q) (h : wpOp P ops Q i K a w) : wpOpIn (FR none) n P ops Q i K a w := by
 unfold wpOp at h
 unfold wpOpIn
 cases ho : ops[i]? with
 | none =>
  simp only [ho] at h ⊢
  exact h
 | some o =>
  simp only [ho] at h ⊢
  by_cases hw : Region.wanted o (yielded ops a.tmps) = true
  ·simp only [hw, if_true] at h ⊢
   rcases h with h | h
   ·exact QJS (hnd i o ho) h
   ·exact absurd h.2 hQ
  ·simp only [hw, if_false, Bool.false_eq_true] at h ⊢
   exact ⟨fun _ _ => trivial, h⟩
variable {F : Fence} {kk : Nat}
theorem QGa (hback : QDp ops = true) (I : Array Bool → Act → World → Prop)
  (hstep : ∀ (L : Array Bool) (a : Act) (w : World) (i : Nat) (o : Oper), L.size = ops.size → I L a w → L.getD i true = false → ops[i]? = some o → (∀ e ∈ o.after, Region.binds .any e = true → L.getD e.on false = true) →
   wpOpIn F kk P ops Q i (I (L.setIfInBounds i true)) a w)
  (hend : ∀ (L : Array Bool) (a : Act) (w : World), L.size = ops.size → I L a w → (∀ i, i < ops.size → L.getD i false = true) → Q .normal a w) :
  ∀ (fuel : Nat) (L : Array Bool) (a : Act) (w : World), L.size = ops.size → QEe ops.size L ≤ fuel → I L a w → wpAnyIn F kk P .any ops Q fuel L a w := by
 have hall : ∀ (L : Array Bool), L.size = ops.size → Region.ready .any ops L = [] → ∀ i, i < ops.size → L.getD i false = true := by
  intro L hs hr i
  induction i using Nat.strongRecOn with
  | ind i ih =>
   intro hi
   rcases Bool.eq_false_or_eq_true (L.getD i false) with h | h
   ·exact h
   ·exfalso
    have hm : i ∈ Region.ready .any ops L := by
     refine mem_ready.2 ⟨?_, ops[i], Array.getElem?_eq_getElem hi, fun e he hb => ?_⟩
     ·simp [Array.getD, hs, hi] at h ⊢
      exact h
     ·have := QE3 hback (Array.getElem?_eq_getElem hi) he hb
      exact ih e.on this (by omega)
    rw [hr] at hm
    cases hm
 intro fuel
 induction fuel with
 | zero =>
  intro L a w hs hf hI;have hr : Region.ready .any ops L = [] := by
   refine List.eq_nil_iff_forall_not_mem.2 fun i hi => ?_
   obtain ⟨h1, o, ho, _⟩ := mem_ready.1 hi;have := QCr (Array.getElem?_eq_some_iff.1 ho).1 hs h1
   omega
  exact ⟨hr, hend L a w hs hI (hall L hs hr)⟩
 | succ fuel ih =>
  intro L a w hs hf hI;refine ⟨fun hr => hend L a w hs hI (hall L hs hr), fun i hi => ?_⟩
  obtain ⟨h1, o, ho, h2⟩ := mem_ready.1 hi;have hlt := QCr (Array.getElem?_eq_some_iff.1 ho).1 hs h1
  exact wpOpIn_mono (fun a' w' h => ih _ a' w' (by simpa using hs) (by omega) h) (hstep L a w i o hs hI h1 ho h2)
theorem QDs {id : Nat} {a : Act} {w : World} (hm : P.follows .mixedOrders = true) (hback : QDp ops = true) (I : Array Bool → Act → World → Prop)
  (h0 : I (Array.replicate ops.size false) a { w with drawn := w.drawn + 1 })
  (hstep : ∀ (L : Array Bool) (a : Act) (w : World) (i : Nat) (o : Oper), L.size = ops.size → I L a w → L.getD i true = false → ops[i]? = some o → (∀ e ∈ o.after, Region.binds .any e = true → L.getD e.on false = true) →
   wpOpIn F kk P ops Q i (I (L.setIfInBounds i true)) a w)
  (hend : ∀ (L : Array Bool) (a : Act) (w : World), L.size = ops.size → I L a w → (∀ i, i < ops.size → L.getD i false = true) → Q .normal a w) : (Code.region id ops true).wpIn F kk P Q a w := by
 refine wpIn_region_any hm (QGa hback I hstep hend _ _ _ _ (by simp) ?_ h0)
 unfold QEe
 exact Nat.le_trans (List.length_filter_le _ _) (by simp)
end
section
variable {P : Program} {n : Nat} {σ : Sg} {w : World} {Q : Exit → Act → World → Prop} {L : List Oper}
theorem ECI.regionY {id : Nat} (hQ : ¬LetsOut Q) (hndf : QCv L.toArray = true) (cls : List (List Nat)) (m : Nat) (alc : List Nat) (Φ : Nat → (Nat → Value) → World → Prop) (hf : P.follows .mixedOrders = true) (hq : QAV n cls m 0 L = true) (hml : Nat.ble m L.length = true)
  (hmono : ∀ i r w1 w2, Below w1.heap.size w1 w2 → Φ i r w1 → Φ i r w2)
  (hstep : ∀ i, i < m → QLS P n L Q cls m alc σ w Φ i)
  (hend : ∀ val w', Below w.heap.size w w' → Alc alc m val w w' → (∀ i, i < m → Φ i (res val i (clsAt cls i)) w') → ELI none 0 P n [] L Q (L.drop m) (sgEnd L σ val m) w') : ECI none 0 P n [] (.region id L.toArray true) Q σ w := by
 have hm : m ≤ L.length := by simpa [Nat.ble_eq] using hml
 have H := QEq hq;have hback : QDp L.toArray = true := by
  refine List.all_eq_true.2 fun i hi => ?_
  have hi' : i < L.length := by simpa using hi
  have ho : L.toArray[i]? = some L[i] := by simp [hi']
  rw [ho];refine Array.all_eq_true_iff_forall_mem.2 fun e he => ?_
  cases hb : Region.binds .any e with
  | false => rfl
  | true => simpa using H.back i L[i] (by simp [hi']) e he hb
 intro a ha0;have ha := ha0.e
 -- the tail's part
 have tailDone : ∀ (D : Array Bool) (i : Nat) (o : Oper), (∀ i, D.getD i false = true → ∀ j ∈ clsAt cls i, D.getD j false = true) → L[i]? = some o → (∀ e ∈ o.after, Region.binds .any e = true → D.getD e.on false = true) → ∀ j ∈ clsAt cls i, D.getD j false = true := by
  intro D i o hdown ho hdep j hj;obtain ⟨e, he, hb, h⟩ := H.dep i o ho j hj
  rcases h with rfl | h
  ·exact hdep e he hb
  ·exact hdown _ (hdep e he hb) j h
 have hEnd : ∀ (D : Array Bool) (val : Nat → Value) (a : Act) (w' : World), HInv n L cls m alc σ w Φ D val a w' → (∀ i, i < m → D.getD i false = true) → wpListIn (FR none) 0 P L.toArray Q (L.drop m) a w' := by
  intro D val a w' I hall;refine hend val w' I.below ⟨fun i hi hlt => I.alc1 i hi hlt (hall i hlt), fun i hi j hj h1 h2 hne => I.alc2 i hi j hj h1 h2 (hall i h1) (hall j h2) hne⟩ (fun i hi => I.says i hi (hall i hi)) a (Env.g ⟨I.size, I.defers, ?_⟩)
  have : ∀ k, k ≤ m → ∀ t v, sgEnd L σ val k t = some v → (∀ j, k ≤ j → j < m → ZV L j ≠ some t) → a.tmps[t]? = some v := by
   intro k
   induction k with
   | zero => intro _ t v ht hn; exact I.old t v ht fun j hj _ => hn j (Nat.zero_le _) hj
   | succ k ih =>
    intro hk t v ht hn
    unfold sgEnd at ht
    cases hd : ZV L k with
    | none =>
     simp only [hd] at ht
     exact ih (by omega) t v ht fun j h1 h2 => by
      rcases Nat.lt_or_ge k j with h | h
      ·exact hn j h h2
      ·obtain rfl : j = k := by omega
       rw [hd]; simp
    | some d =>
     simp only [hd] at ht
     unfold ins at ht
     cases e : Nat.beq t d with
     | true =>
      rw [e] at ht;have e' := Nat.eq_of_beq_eq_true e;subst e';rw [I.new k t (by omega) (hall k (by omega)) hd]
      exact ht
     | false =>
      rw [e] at ht
      exact ih (by omega) t v ht fun j h1 h2 => by
       rcases Nat.lt_or_ge k j with h | h
       ·exact hn j h h2
       ·obtain rfl : j = k := by omega
        rw [hd];intro e2
        injection e2 with e2
        exact Nat.ne_of_beq_eq_false e e2.symm
  exact fun t v ht => this m (Nat.le_refl _) t v ht fun j h1 h2 => by omega
 refine QDs hf hback (fun D a w' => (∃ val, HInv n L cls m alc σ w Φ D val a w') ∨ ∃ k, m < k ∧ k ≤ L.length ∧ (∀ i, D.getD i false = decide (i < k)) ∧ wpListIn (FR none) 0 P L.toArray Q (L.drop k) a w') ?_ ?_ ?_
 ·left
  have hno : ∀ i, (Array.replicate L.toArray.size false).getD i false = false := fun i => by
   by_cases h : i < L.toArray.size
   ·simp [Array.getD]
   ·simp [Array.getD]
  refine ⟨fun _ => undef, ⟨⟨rfl, rfl, rfl, Nat.le_refl _, fun _ _ => rfl⟩, ha.size, ha.defers, ?_, fun t v ht _ => ha.get t v ht, ?_, ?_, ?_, ?_, fun i _ => hno i⟩⟩
  ·intro i d _ h; rw [hno] at h; cases h
  ·intro i _ h; rw [hno] at h; cases h
  ·intro i h; rw [hno] at h; cases h
  ·intro i _ _ h; rw [hno] at h; cases h
  ·intro i _ j _ _ _ h; rw [hno] at h; cases h
 ·intro D a w1 i o hs hI hni ho hdep
  have hs' : D.size = L.length := by simpa using hs
  have ho' : L[i]? = some o := by simpa using ho
  have hil : i < L.length := (List.getElem?_eq_some_iff.1 ho').1;have hnd : D.getD i false = false := QBB (by omega) hni
  have takeTail : ∀ (k : Nat), k = i → m ≤ k → (∀ j, D.getD j false = decide (j < k)) → wpListIn (FR none) 0 P L.toArray Q (L.drop k) a w1 →
    wpOpIn (FR none) 0 P L.toArray Q i (fun a w' => (∃ val, HInv n L cls m alc σ w Φ (D.setIfInBounds i true) val a w') ∨ ∃ k, m < k ∧ k ≤ L.length ∧ (∀ j, (D.setIfInBounds i true).getD j false = decide (j < k)) ∧ wpListIn (FR none) 0 P L.toArray Q (L.drop k) a w') a w1 := by
   intro k hk hmk hD hw;subst hk;rw [List.drop_eq_getElem_cons hil] at hw;have e : L[k] = o := by rw [List.getElem?_eq_getElem hil] at ho'; injection ho'
   rw [e] at hw
   unfold wpListIn at hw
   have hnext : ∀ a w', wpListIn (FR none) 0 P L.toArray Q (L.drop (k + 1)) a w' → (∃ val, HInv n L cls m alc σ w Φ (D.setIfInBounds k true) val a w') ∨ ∃ k', m < k' ∧ k' ≤ L.length ∧ (∀ j, (D.setIfInBounds k true).getD j false = decide (j < k')) ∧ wpListIn (FR none) 0 P L.toArray Q (L.drop k') a w' := fun a w' h => .inr ⟨k + 1, by omega, by omega, fun j => by
    rw [set_get (by omega)]
    by_cases e : j = k
    ·subst e; simp
    ·rw [if_neg e, hD]
     by_cases h : j < k
     ·simp [h]; omega
     ·simp [h]; omega, h⟩
   unfold wpOpIn
   simp only [ho]
   split
   ·rename_i hw'
    rw [if_pos hw'] at hw
    exact Oper.wpIn_mono hnext hw
   ·rename_i hw'
    rw [if_neg hw'] at hw
    exact ⟨hw.1, hnext _ _ hw.2⟩
  rcases hI with ⟨val, I⟩ | ⟨k, hmk, hkl, hD, hw⟩
  ·have hcd := tailDone D i o I.down ho' hdep
   rcases Nat.lt_or_ge i m with him | him
   ·have henv : Env n (sgAt L cls m σ val i) a := by
     refine ⟨I.size, I.defers, fun t v ht => ?_⟩
     unfold sgAt at ht
     cases hfw : QDk L t (clsAt cls i) with
     | some j =>
      simp only [hfw] at ht
      obtain ⟨h1, h2⟩ := QAp hfw
      injection ht with ht
      have hj := hcd j h1;have hjm : j < m := by
       rcases Nat.lt_or_ge j m with h | h
       ·exact h
       ·rw [I.high j h] at hj; cases hj
      rw [I.new j t hjm hj h2, ht]
     | none =>
      simp only [hfw] at ht
      cases hob : oldB L cls i t m with
      | false => rw [hob] at ht; cases ht
      | true =>
       rw [hob] at ht;refine I.old t v ht fun k hk hdk hd => ?_
       rcases QCC hob k hk hd with rfl | h
       ·rw [hnd] at hdk; cases hdk
       ·have := I.down k hdk i h
        rw [hnd] at this; cases this
    have hjm : ∀ j, D.getD j false = true → j < m := fun j hj => by
     rcases Nat.lt_or_ge j m with h | h
     ·exact h
     ·rw [I.high j h] at hj; cases hj
    refine wpOpIn_mono ?_ (QLU (QBW hndf) hQ (hstep i him val w1 a I.below henv fun j hj => I.says j (hjm j (hcd j hj)) (hcd j hj)))
    rintro a' w' ⟨v, rfl, hb, hphi, halc⟩
    left
    have hgrow : Below w.heap.size w w' := I.below.trans (hb.mono I.below.size);have hdi : ZV L i = o.dst := dstOf_at ho';refine ⟨upd val i v, ⟨hgrow, ?_, ?_, ?_, ?_, ?_, ?_, ?_, ?_, ?_⟩⟩
    ·rw [QCo]; exact I.size
    ·cases ZV L i <;> exact I.defers
    ·intro k d hk hdk hd
     rw [set_get (by omega)] at hdk
     by_cases e : k = i
     ·subst e
      have hdn : d < n := H.small k o d ho' hk (by rw [← hdi]; exact hd)
      rw [hd]
      simp only [Act.put, upd, if_true]
      rw [Array.getElem?_setIfInBounds_self_of_lt (by rw [I.size]; exact hdn)]
     ·rw [if_neg e] at hdk
      have hok : ∃ p, L[k]? = some p := ⟨L[k]'(by omega), by simp [show k < L.length by omega]⟩
      obtain ⟨p, hp⟩ := hok;have hne : ZV L i ≠ some d := by
       intro h'
       rcases Nat.lt_or_gt_of_ne e with hlt | hgt
       ·exact H.dist k i p o d hp ho' hlt him (by rw [← dstOf_at hp]; exact hd) (by rw [← hdi]; exact h')
       ·exact H.dist i k o p d ho' hp hgt hk (by rw [← hdi]; exact h') (by rw [← dstOf_at hp]; exact hd)
      have := I.new k d hk hdk hd
      simp only [upd, if_neg e]
      cases hdi' : ZV L i with
      | none => exact this
      | some d' =>
       have : d' ≠ d := fun h => hne (by rw [hdi', h])
       simp only [Act.put, Array.getElem?_setIfInBounds_ne this]
       assumption
    ·intro t u ht hno
     have h1 : a.tmps[t]? = some u := I.old t u ht fun k hk hdk => hno k hk (by rw [set_get (by omega)]; split <;> simp [hdk])
     have h2 : ZV L i ≠ some t := hno i him (by rw [set_get (by omega), if_pos rfl])
     cases hdi' : ZV L i with
     | none => exact h1
     | some d' =>
      have : d' ≠ t := fun h => h2 (by rw [hdi', h])
      simp only [Act.put, Array.getElem?_setIfInBounds_ne this]
      exact h1
    ·intro k hk hdk
     rw [set_get (by omega)] at hdk
     by_cases e : k = i
     ·subst e; exact hphi
     ·rw [if_neg e] at hdk
      have hni' : i ∉ clsAt cls k := fun h => by
       have := I.down k hdk i h;rw [hnd] at this; cases this
      rw [QD1 e hni']
      exact hmono k _ w1 w' hb (I.says k hk hdk)
    ·intro k hdk j hj
     rw [set_get (by omega)] at hdk ⊢
     by_cases e : k = i
     ·subst e
      rw [hcd j hj]; simp
     ·rw [if_neg e] at hdk
      rw [I.down k hdk j hj]; simp
    ·intro k hk hkm hdk
     rw [set_get (by omega)] at hdk
     by_cases e : k = i
     ·subst e
      obtain ⟨h1, h2⟩ := halc hk
      exact ⟨w1.heap.size, by simp [upd, h1], I.below.size, h2⟩
     ·rw [if_neg e] at hdk
      obtain ⟨g, h1, h2, h3⟩ := I.alc1 k hk hkm hdk
      exact ⟨g, by simp [upd, e, h1], h2, Nat.lt_of_lt_of_le h3 hb.size⟩
    ·intro k hk j hj hkm hjm' hdk hdj hne
     rw [set_get (by omega)] at hdk hdj
     by_cases e : k = i
     ·subst e
      have e2 : j ≠ k := Ne.symm hne;rw [if_neg e2] at hdj;obtain ⟨h1, _⟩ := halc hk;obtain ⟨g, h3, _, h5⟩ := I.alc1 j hj hjm' hdj
      simp only [upd, if_true, if_neg e2, h1, h3]
      intro h
      injection h with h
      injection h with h
      injection h with h
      omega
     ·rw [if_neg e] at hdk
      by_cases e2 : j = i
      ·subst e2
       obtain ⟨h1, _⟩ := halc hj;obtain ⟨g, h3, _, h5⟩ := I.alc1 k hk hkm hdk
       simp only [upd, if_true, if_neg e, h1, h3]
       intro h
       injection h with h
       injection h with h
       injection h with h
       omega
      ·rw [if_neg e2] at hdj
       simp only [upd, if_neg e, if_neg e2]
       exact I.alc2 k hk j hj hkm hjm' hdk hdj hne
    ·intro k hk
     rw [set_get (by omega), if_neg (by omega)]
     exact I.high k hk
   ·have hall : ∀ j, j < i → D.getD j false = true := fun j hj => hcd j (H.tail i o ho' him j hj)
    have him' : i = m := by
     rcases Nat.lt_or_ge m i with h | h
     ·have := hall m h
      rw [I.high m (Nat.le_refl _)] at this; cases this
     ·omega
    subst him'
    exact takeTail i rfl (Nat.le_refl _) (fun j => by
     by_cases h : j < i
     ·rw [hall j h]; simp [h]
     ·rw [I.high j (by omega)]; simp [h]) (hEnd D val a w1 I hall)
  ·have hcd : ∀ j, j < i → D.getD j false = true := fun j hj => by
    have hmi : m ≤ i := by
     have := hD i;rw [hnd] at this;have : ¬ i < k := by simpa using this.symm
     omega
    have hdn : ∀ i, D.getD i false = true → ∀ j ∈ clsAt cls i, D.getD j false = true := by
     intro x hx y hy;rw [hD] at hx ⊢;have hx' : x < k := by simpa using hx
     obtain ⟨p, hp⟩ : ∃ p, L[x]? = some p := ⟨L[x]'(by omega), by simp [show x < L.length by omega]⟩
     have : ∀ (x : Nat) (p : Oper), L[x]? = some p → ∀ y ∈ clsAt cls x, y < x := by
      intro x
      induction x using Nat.strongRecOn with
      | ind x ih =>
       intro p hp y hy;obtain ⟨e, he, hb, h⟩ := H.dep x p hp y hy;have h1 := H.back x p hp e he hb
       rcases h with rfl | h
       ·exact h1
       ·obtain ⟨q, hq⟩ : ∃ q, L[e.on]? = some q := by
         have : x < L.length := (List.getElem?_eq_some_iff.1 hp).1
         exact ⟨L[e.on]'(by omega), by simp [show e.on < L.length by omega]⟩
        have := ih e.on h1 q hq y h
        omega
     have := this x p hp y hy
     simp
     omega
    exact tailDone D i o hdn ho' hdep j (H.tail i o ho' hmi j hj)
   have hik : k = i := by
    have h1 := hD i;rw [hnd] at h1;have h2 : ¬ i < k := by simpa using h1.symm
    rcases Nat.lt_or_ge k i with h | h
    ·have := hcd k h
     rw [hD] at this
     simp at this
    ·omega
   exact takeTail k hik (by omega) hD hw
 ·intro D a w1 hs hI hall
  have hs' : D.size = L.length := by simpa using hs
  rcases hI with ⟨val, I⟩ | ⟨k, hmk, hkl, hD, hw⟩
  ·have hmL : m = L.length := by
    rcases Nat.lt_or_ge m L.length with h | h
    ·have := hall m (by simpa using h)
     rw [I.high m (Nat.le_refl _)] at this; cases this
    ·omega
   have := hEnd D val a w1 I fun i hi => hall i (by simp; omega)
   rw [hmL, List.drop_length] at this
   exact this
  ·have hk : k = L.length := by
    rcases Nat.lt_or_ge k L.length with h | h
    ·have := hall k (by simpa using h)
     rw [hD] at this
     simp at this
    ·omega
   rw [hk, List.drop_length] at hw
   exact hw
theorem ELI.ends {ro : Option Nat} {k m : Nat} {ds : List Deferred} {val : Nat → Value} {rest : List Oper} {cs : List Value} (hv : QJA val 0 cs) (hl : Nat.ble m (lenV cs) = true) (h : ELI ro k P n ds L Q rest (sgEnd L σ (nthV cs) m) w) : ELI ro k P n ds L Q rest (sgEnd L σ val m) w := by
 have e : sgEnd L σ val m = sgEnd L σ (nthV cs) m := QBo m fun j hj => by
  have := QFA hv j (by rw [← Yu]; have := Nat.le_of_ble_eq_true hl; omega)
  rwa [Nat.zero_add] at this
 rw [e]
 exact h
end
section
variable {n : Nat} {σ : Sg} {w : World} {dst : Option Tmp} {ty : TypeId} {pos : String} {af : Array Edge} {g : Option (Nat × Bool)} {x y z : Operand} {at' : Array TypeId}
theorem QLE {v0 v1 : Value} (hx : evS σ x = some (.agg #[v0, v1])) (a : Act) (ha : Env n σ a) : (execOp a.eval ⟨dst, .box 134 x, ty, pos, af, g⟩).run Try.prog w = .ok (.value (.pointer (some ⟨w.heap.size, 0, none⟩))) (w.alloc (.cells #[v0, v1] 134)) := by
 simp only [execOp, ha.eval hx]
 simp [go_sem]
theorem QNQ {v0 : Value} (hx : evS σ x = some (v0)) (h1 : v0.oneCell' = true) (a : Act) (ha : Env n σ a) : (execOp a.eval ⟨dst, .box 122 x, ty, pos, af, g⟩).run Try.prog w = .ok (.value (.pointer (some ⟨w.heap.size, 0, none⟩))) (w.alloc (.cells #[v0] 122)) := by
 simp only [execOp, ha.eval hx]
 cases v0 <;> first | (simp [Value.oneCell'] at h1; done) | simp [go_sem, Value.cells]
theorem QJT {x0 x1 : Operand} {v0 v1 : Value} (h0 : evS σ x0 = some v0) (h1 : evS σ x1 = some v1) : ZJ Try.prog n σ w ⟨dst, .makeFunc (.func 81) #[] #[x0, x1], ty, pos, af, g⟩ (.func (.func 81) #[] #[v0, v1]) := fun a ha => by
 simp only [execOp, List.map_toArray, List.map_cons, List.map_nil, ha.eval h0, ha.eval h1]
 simp [go_sem]
theorem QLF {x0 x1 : Operand} {z0_0 z1_0 : Int} (h0 : evS σ x0 = some (.int .i64 z0_0)) (h1 : evS σ x1 = some (.int .i64 z1_0)) (a : Act) (ha : Env n σ a) : (execOp a.eval ⟨dst, .buildSlice 168 2 #[(0, x0), (1, x1)], ty, pos, af, g⟩).run Try.prog w = .ok (.value (.slice (some ⟨w.heap.size, 0, none⟩) 2 2)) (w.alloc (.cells #[.int .i64 z0_0, .int .i64 z1_0] 136)) := by
 simp only [execOp, List.map_toArray, List.map_cons, List.map_nil, ha.eval h0, ha.eval h1]
 go_simp
theorem QNH {A : Option Addr} {m c : Nat} (hx : evS σ x = some (.slice A m c)) : ZJ Try.prog n σ w ⟨dst, .call { callee := .builtin .len, args := #[x], argTypes := #[168] }, ty, pos, af, g⟩ (.int .i64 (m : Int)) := fun a ha => by
 simp only [execOp, resolve, List.map_toArray, List.map_cons, List.map_nil, ha.eval hx]
 simp [go_sem]
theorem QKp {b o m c k : Nat} (hx : evS σ x = some (.slice (some ⟨b, o, none⟩) m c)) (hy : evS σ y = some (.int .i64 (k : Int))) (hk : k < m) : ZJ Try.prog n σ w ⟨dst, .indexAddr 168 x y, ty, pos, af, g⟩ (.pointer (some ⟨b, o + k, none⟩)) := fun a ha => by
 have k0 : (0 : Int) ≤ (k : Int) := Int.natCast_nonneg _;have k1 : (k : Int) < (m : Int) := by omega
 simp only [execOp, ha.eval hx, ha.eval hy]
 simp [go_sem, k0, k1]
theorem QKn {b o : Nat} {v0 : Value} (hx : evS σ x = some (.pointer (some ⟨b, o, none⟩))) (c0 : w.cell? ⟨b, o, none⟩ = some v0) : ZJ Try.prog n σ w ⟨dst, .load 136 x, ty, pos, af, g⟩ (v0) := fun a ha => by
 simp only [execOp, ha.eval hx]
 simp [go_sem, c0]
theorem QCT {b o m c hi : Nat} (hx : evS σ x = some (.slice (some ⟨b, o, none⟩) m c)) (hh : evS σ y = some (.int .i64 (hi : Int))) (h2 : hi ≤ c) : ZJ Try.prog n σ w ⟨dst, .slice 24 x none (some y) none, ty, pos, af, g⟩ (.slice (some ⟨b, o, none⟩) hi c) := fun a ha => by
 have k1 : (0 : Int) ≤ (hi : Int) := Int.natCast_nonneg _;have k3 : (hi : Int) ≤ (c : Int) := by omega
 simp only [execOp, Option.map_some, Option.map_none, ha.eval hx, ha.eval hh]
 by_cases e : c = 0
 ·subst e; obtain rfl : hi = 0 := by omega
  simp [go_sem]
 ·simp [go_sem, k1, k3, h2, e]
theorem cF57 : cF 57 := fun _ _ => by simp [go_sem]
theorem QGU {x0 : Operand} {v0_0 v0_1 : Value} (h0 : evS σ x0 = some (.agg #[v0_0, v0_1]))  (a : Act) (ha : Env n σ a) : (execOp a.eval ⟨dst, .buildSlice 25 1 #[(0, x0)], ty, pos, af, g⟩).run Try.prog w = .ok (.value (.slice (some ⟨w.heap.size, 0, none⟩) 1 1)) (w.alloc (.cells #[v0_0, v0_1] 87)) := by
 simp only [execOp, List.map_toArray, List.map_cons, List.map_nil, ha.eval h0]
 go_simp
theorem cF82 : cF 82 := fun _ _ => by simp [go_sem]
theorem QAe {x0 x1 : Operand} {b0 : Bool} {z1 : Int} (h0 : evS σ x0 = some (.bool b0)) (h1 : evS σ x1 = some (.int .i64 z1)) : ZJ Try.prog n σ w ⟨dst, .build 87 #[(0, x0), (1, x1)], ty, pos, af, g⟩ (.agg #[.bool b0, .int .i64 z1]) := fun a ha => by
 simp only [execOp, List.map_toArray, List.map_cons, List.map_nil, ha.eval h0, ha.eval h1]
 go_simp
theorem QE2 {x0 x1 : Operand} {v0_0 : Value} {v0_1 : Value} {v0_2 : Value} {v0_3 : Value} {v0_4 : Value} {v0_5 : Value} {v0_6 : Value} {v0_7 : Value} {v0_8 : Value} {v0_9 : Value} {v0_10 : Value} {v0_11 : Value} {v0_12 : Value} {v0_13 : Value} {v0_14 : Value} {A1 : Option Addr} {m1 : Nat} {c1 : Nat} (h0 : evS σ x0 = some (.agg #[v0_0, v0_1, v0_2, v0_3, v0_4, v0_5, v0_6, v0_7, v0_8, v0_9, v0_10, v0_11, v0_12, v0_13, v0_14])) (h1 : evS σ x1 = some (.slice A1 m1 c1)) : ZJ Try.prog n σ w ⟨dst, .build 124 #[(0, x0), (1, x1)], ty, pos, af, g⟩ (.agg #[v0_0, v0_1, v0_2, v0_3, v0_4, v0_5, v0_6, v0_7, v0_8, v0_9, v0_10, v0_11, v0_12, v0_13, v0_14, .slice A1 m1 c1]) := fun a ha => by
 simp only [execOp, List.map_toArray, List.map_cons, List.map_nil, ha.eval h0, ha.eval h1]
 go_simp
theorem QH8 {v0 v1 v2 v3 v4 v5 v6 v7 v8 v9 v10 v11 v12 v13 v14 v15 : Value} (hx : evS σ x = some (.agg #[v0, v1, v2, v3, v4, v5, v6, v7, v8, v9, v10, v11, v12, v13, v14, v15])) (a : Act) (ha : Env n σ a) : (execOp a.eval ⟨dst, .box 124 x, ty, pos, af, g⟩).run Try.prog w = .ok (.value (.pointer (some ⟨w.heap.size, 0, none⟩))) (w.alloc (.cells #[v0, v1, v2, v3, v4, v5, v6, v7, v8, v9, v10, v11, v12, v13, v14, v15] 124)) := by
 simp only [execOp, ha.eval hx]
 simp [go_sem]
theorem QHm {b o m c lo r : Nat} (hx : evS σ x = some (.slice (some ⟨b, o, none⟩) m c)) (hl : evS σ y = some (.int .i64 (lo : Int))) (h1 : lo ≤ m) (hr : (if c = lo then o else o + lo * 5) = r) : ZJ Try.prog n σ w ⟨dst, .slice 24 x (some y) none none, ty, pos, af, g⟩ (.slice (some ⟨b, r, none⟩) (m - lo) (c - lo)) := fun a ha => by
 have k0 : (0 : Int) ≤ (lo : Int) := Int.natCast_nonneg _;have k2 : (lo : Int) ≤ (m : Int) := by omega
 subst hr
 simp only [execOp, Option.map_some, Option.map_none, ha.eval hx, ha.eval hl]
 by_cases e : c = lo
 ·subst e; simp [go_sem, k0, k2, h1]
 ·simp [go_sem, k0, k2, h1, e]
end
end Go.Proofs.Ytlbfnimilcnihaa
