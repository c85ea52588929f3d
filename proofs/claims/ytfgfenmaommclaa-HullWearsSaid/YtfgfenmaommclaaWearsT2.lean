/- E24, E16, E17, E25, E19, E20, E21, E27, E29, E30, E31, E32, HuBase, HuCurve, HuOpen, HuVol, HuLife, HuShip, HuAdv, HuSmall, HuWear, HuLift2, ExX1, X1, ExX2, X2, ExX3: what HullWearsProof needs of them (merged by trimpack.py). -/
import Derived.Test.YtfgfenmaommclaaWearsT1
set_option linter.unusedVariables false
set_option linter.unusedSimpArgs false
namespace Go.Proofs.Ytfgfenmaommclaa
open Go Go.RowKit
/-- what is no row, from block b on, is as it was -/
def ZP (b : Nat) (W W' : World) : Prop := ∀ (j : Nat) (o : Obj), b ≤ j → W.heap[j]? = some o → o.isCells = false → W'.heap[j]? = some o
theorem ZP.of {b : Nat} {W W' : World} (h : KeepsOthers W W') : ZP b W W' := fun j o _ hj hc => h.same j o hj hc
theorem ZP.trans {b : Nat} {A B C : World} (h : ZP b A B) (k : ZP b B C) : ZP b A C := fun j o hb hj hc => k j o hb (h j o hb hj hc) hc
theorem ZP.mono {b c : Nat} {A B : World} (h : ZP b A B) (hc : b ≤ c) : ZP c A B := fun j o hb hj h2 => h j o (Nat.le_trans hc hb) hj h2
theorem ZP.refl (b : Nat) (A : World) : ZP b A A := fun _ _ _ h _ => h
theorem ZP.below {b : Nat} {A B : World} (h : Below A.heap.size A B) : ZP b A B := .of (QFW h)
/-- abides what is new, and what turns in blocks of the types U from block b on -/
def QAP (b : Nat) (U : List Nat) (A B : World) : Prop := ∃ row, A.grownBy B row ∧ ∀ g, row = some g → b ≤ g ∧ ∃ T cs, memB U T = true ∧ Blk A g T cs
section
variable {b : Nat} {U : List Nat} {A B : World}
theorem QAP.of_below (h : Below A.heap.size A B) : QAP b U A B := ⟨none, ⟨h.os, h.tape, h.output, h.size, fun k hk _ => h.block k hk⟩, fun _ h => by cases h⟩
theorem QAP.blk {g T : Nat} {cs : Array Value} (h : QAP b U A B) (hq : Blk A g T cs) (hT : memB U T = false) : Blk B g T cs := by
 obtain ⟨row, hg, hr⟩ := h;refine hq.grown hg fun e => ?_
 obtain ⟨_, T', cs', h1, h2⟩ := hr g e.symm
 unfold Blk at hq h2
 rw [hq] at h2
 injection h2 with h2
 injection h2 with _ h3
 rw [← h3, hT] at h1
 cases h1
theorem QAP.row {base e size n : Nat} {v : Value} {xs : List Value} (h : QAP b U A B) (ho : A.ownsRow base e size v n xs) (hT : memB U e = false) : B.ownsRow base e size v n xs := by
 obtain ⟨hl, h0 | ⟨g, cap, cur, hv, hb, hk, h1⟩⟩ := ho
 ·exact ⟨hl, .inl h0⟩
 ·exact ⟨hl, .inr ⟨g, cap, cur, hv, hb, h.blk (cs := cur) hk hT, h1⟩⟩
theorem QAP.other {k : Nat} {o : Obj} (h : QAP b U A B) (hk : A.heap[k]? = some o) (hc : o.isCells = false) : B.heap[k]? = some o := by
 obtain ⟨row, hg, hr⟩ := h;refine (hg.block k (Array.getElem?_eq_some_iff.1 hk).1 fun e => ?_).trans hk
 obtain ⟨_, T', cs', h1, h2⟩ := hr k e.symm
 unfold Blk at h2
 rw [hk] at h2
 injection h2 with h2
 subst h2
 cases hc
theorem QAP.size (h : QAP b U A B) : A.heap.size ≤ B.heap.size := by
 obtain ⟨row, hg, _⟩ := h
 exact hg.size
theorem QAP.below {w0 : World} (h : QAP b U A B) (hb : Below b w0 A) (hs : b ≤ A.heap.size) : Below b w0 B := by
 obtain ⟨row, hg, hr⟩ := h
 exact hb.grown hg hs fun g hgr => (hr g hgr).1
theorem Kp.turn {n0 : Nat} {S : List Nat} {w0 : World} {g : Nat} (h : Kp n0 S w0 A) (hg : A.grownBy B (some g)) (h1 : w0.heap.size ≤ g) (h2 : n0 ≤ w0.heap.size) : Kp n0 S w0 B :=
 ⟨hg.os.trans h.os, hg.tape.trans h.tape, hg.output.trans h.output, Nat.le_trans h.size hg.size, fun k hk => (hg.block k (by have := h.size; omega) (fun e => by injection e; omega)).trans (h.low k hk),
  fun k T cs hq hT => (h.blk k T cs hq hT).grown hg fun e => by injection e with e; have := hq.lt; omega⟩
end
/-- abides what is new, what turns in blocks of the types U from block b on, and what is no row from block m on -/
def Soft (b m : Nat) (U : List Nat) (A B : World) : Prop := ∃ row, A.grownBy B row ∧ ∀ g, row = some g → (b ≤ g ∧ ∃ T cs, memB U T = true ∧ Blk A g T cs) ∨ (m ≤ g ∧ ∃ o : Obj, A.heap[g]? = some o ∧ o.isCells = false)
def QBM (b m : Nat) (U : List Nat) (J : List It → World → Prop) : Prop := ∀ s A B, J s A → Soft b m U A B → J s B
section
variable {b m : Nat} {U : List Nat} {A B : World}
theorem Soft.of_turns (h : QAP b U A B) : Soft b m U A B := let ⟨row, hg, hr⟩ := h; ⟨row, hg, fun g e => .inl (hr g e)⟩
theorem Soft.of_below (h : Below A.heap.size A B) : Soft b m U A B := .of_turns (.of_below h)
theorem Soft.mono {m' : Nat} (h : Soft b m U A B) (hm : m' ≤ m) : Soft b m' U A B := let ⟨row, hg, hr⟩ := h; ⟨row, hg, fun g e => by
 rcases hr g e with h1 | ⟨h1, h2⟩
 ·exact .inl h1
 ·exact .inr ⟨Nat.le_trans hm h1, h2⟩⟩
theorem Soft.blk {g T : Nat} {cs : Array Value} (h : Soft b m U A B) (hq : Blk A g T cs) (hT : memB U T = false) : Blk B g T cs := by
 obtain ⟨row, hg, hr⟩ := h;refine hq.grown hg fun e => ?_
 rcases hr g e.symm with ⟨_, T', cs', h1, h2⟩ | ⟨_, o, h1, h2⟩
 ·unfold Blk at hq h2
  rw [hq] at h2
  injection h2 with h2
  injection h2 with _ h3
  rw [← h3, hT] at h1
  cases h1
 ·unfold Blk at hq
  rw [hq] at h1
  injection h1 with h1
  subst h1
  cases h2
theorem Soft.row {base e size n : Nat} {v : Value} {xs : List Value} (h : Soft b m U A B) (ho : A.ownsRow base e size v n xs) (hT : memB U e = false) : B.ownsRow base e size v n xs := by
 obtain ⟨hl, h0 | ⟨g, cap, cur, hv, hb, hk, h1⟩⟩ := ho
 ·exact ⟨hl, .inl h0⟩
 ·exact ⟨hl, .inr ⟨g, cap, cur, hv, hb, h.blk (cs := cur) hk hT, h1⟩⟩
theorem Soft.below {w0 : World} (h : Soft b m U A B) (hb : Below b w0 A) (hs : b ≤ A.heap.size) (hm : b ≤ m) : Below b w0 B := by
 obtain ⟨row, hg, hr⟩ := h
 exact hb.grown hg hs fun g hgr => by rcases hr g hgr with h1 | h1 <;> omega
theorem Soft.other {k : Nat} {o : Obj} (h : Soft b m U A B) (hk : A.heap[k]? = some o) (hc : o.isCells = false) (hkm : k < m) : B.heap[k]? = some o := by
 obtain ⟨row, hg, hr⟩ := h;refine (hg.block k (Array.getElem?_eq_some_iff.1 hk).1 fun e => ?_).trans hk
 rcases hr k e.symm with ⟨_, T', cs', h1, h2⟩ | ⟨h1, _⟩
 ·unfold Blk at h2
  rw [hk] at h2
  injection h2 with h2
  subst h2
  cases hc
 ·omega
theorem Soft.size (h : Soft b m U A B) : A.heap.size ≤ B.heap.size := by
 obtain ⟨row, hg, _⟩ := h
 exact hg.size
theorem QBM.own {J : List It → World → Prop} (h : QBM b m U J) : OwnFrom m J := fun s W W' row hs hg hr => h s W W' hs ⟨row, hg, fun g e => .inr (hr g e)⟩
theorem QF1 : QBM b m U fun _ _ => False := fun _ _ _ h _ => h
end
section
variable {P : Program} {n : Nat} {ds : List Deferred} {σ : Sg} {w : World} {Q : Exit → Act → World → Prop}
end
section
variable {P : Program} {ops : Array Oper} {Q : Exit → Act → World → Prop} {n l : Nat}
theorem QC6 {o : Oper} {a : Act} {w : World} {K : Act → World → Prop} (hnd : ∀ c, o.op ≠ .defer c) (h : o.wp P a w K Q) : o.wpIn (Fence.wide.inRound l) n P a w K Q := by
 refine ⟨fun _ _ => trivial, ?_⟩
 rw [Oper.semAt_eq _ _ _ hnd]
 unfold Oper.wp at h
 generalize (execOp a.eval o).run P w = r at h ⊢
 have hd : ((Fence.wide.inRound l).depth.isSome = true → 1 ≤ n) := fun h => by simp [Fence.wide] at h
 cases r with
 | ok x w' =>
  cases x
  case value => exact h
  case skip => exact h
  case defer => exact h
  case enter f args => exact ⟨hd, ((callsIn_wide.2 h).inRound l).mono fun e w'' he => by cases e <;> exact he⟩
  case row row args =>
   refine ⟨hd, fun c cs _ => ?_⟩
   obtain ⟨v, w'', hv, hs⟩ := h c cs
   exact ⟨v, w'', hv, stepsIn_wide.2 hs⟩
  all_goals exact h.elim
 | halt x w' => cases x <;> exact h
/-- no operation is a defer statement: by reckoning -/
def QCi (ops : Array Oper) : Bool := ops.all fun o => match o.op with | .defer _ => false | _ => true
theorem QBe (h : QCi ops = true) (i : Nat) (o : Oper) (ho : ops[i]? = some o) (c) : o.op ≠ .defer c := by
 intro e;obtain ⟨hi, rfl⟩ := Array.getElem?_eq_some_iff.1 ho;have := Array.all_eq_true.1 h i hi;rw [e] at this
 cases this
end
section
variable {P : Program} {n : Nat} {σ : Sg} {w : World} {Q : Exit → Act → World → Prop} {L : List Oper}
/-! ### With deferred calls, outside of a round -/
def addD (ds : List Deferred) (a : Act) : Act := ⟨a.tmps, a.defers ++ ds⟩
theorem QF6 (ds : List Deferred) (a : Act) (d : Option Tmp) (v : Value) : (addD ds a).put d v = addD ds (a.put d v) := by cases d <;> rfl
theorem QEm (ds : List Deferred) (a : Act) : (addD ds a).eval = a.eval := by
 funext x
 cases x <;> rfl
theorem QEd {ds : List Deferred} (h : LetsOut (fun e a' w' => Q e (addD ds a') w')) : LetsOut Q := by
 obtain ⟨a, w, h⟩ := h
 exact ⟨_, w, h⟩
theorem QGu {ds : List Deferred} {o : Oper} {a : Act} {w : World} {K : Act → World → Prop} (h : o.wp P a w (fun a' w' => K (addD ds a') w') (fun e a' w' => Q e (addD ds a') w')) : o.wp P (addD ds a) w K Q := by
 unfold Oper.wp at h ⊢
 rw [QEm]
 generalize (execOp a.eval o).run P w = r at h ⊢
 have pd := fun d v => QF6 ds a d v
 cases r with
 | ok x w' =>
  cases x
  case value v => rw [Oper.upon_value] at h ⊢; rw [pd]; exact h
  case skip => rw [Oper.upon_skip] at h ⊢; rw [pd]; exact h
  case defer d =>
   rw [Oper.upon_defer] at h ⊢;have e : ({ addD ds a with defers := d :: (addD ds a).defers } : Act).put o.dst undef = addD ds (({ a with defers := d :: a.defers } : Act).put o.dst undef) := by cases o.dst <;> rfl
   rw [e]
   exact h
  case enter f args =>
   rw [Oper.upon_enter] at h ⊢;refine h.mono fun e w'' he => ?_
   cases e with
   | returned v => show K ((addD ds a).put o.dst v) w''; rw [pd]; exact he
   | panicked c => exact he
   | outgrown => exact QEd he
  case row row args =>
   intro c cs;obtain ⟨v, w'', hv, hs⟩ := h c cs
   exact ⟨v, w'', by show K ((addD ds a).put o.dst v) w''; rw [pd]; exact hv, hs⟩
  all_goals exact h.elim
 | halt x w' => cases x <;> exact h
theorem QET {ds : List Deferred} : ∀ (is : List Nat) (a : Act) (w : World), wpOps P L.toArray (fun e a' w' => Q e (addD ds a') w') is a w → wpOps P L.toArray Q is (addD ds a) w
 | [], _, _, h => h
 | i :: rest, a, w, h => by
  unfold wpOps at h ⊢
  cases ho : L.toArray[i]? with
  | none =>
   simp only [ho] at h ⊢
   exact QET rest a w h
  | some o =>
   simp only [ho] at h ⊢
   by_cases hw : Region.wanted o (yielded L.toArray a.tmps) = true
   ·rw [if_pos hw] at h
    rw [if_pos (show Region.wanted o (yielded L.toArray (addD ds a).tmps) = true from hw)]
    rcases h with h | h
    ·exact .inl (QGu (Oper.wp_mono (fun a' w' h' => QET rest a' w' h') h))
    ·refine .inr ⟨?_, QEd h.2⟩
     unfold Oper.asks
     rw [QEm]
     exact h.1
   ·rw [if_neg hw] at h
    rw [if_neg (show ¬Region.wanted o (yielded L.toArray (addD ds a).tmps) = true from hw), QF6]
    exact QET rest _ w h
theorem ECI.regionD {id : Nat} {k : Nat} {ds : List Deferred} (h : ∀ a, Env n σ a → RO P L.toArray (fun e a' w' => Q e (addD ds a') w') a w) : ECI none k P n ds (.region id L.toArray true) Q σ w := fun a ha => by
 refine wpIn_wide.2 (wp_region_draw fun t => ?_)
 have h1 := QET _ _ _ (h ⟨a.tmps, []⟩ ha.env t);have e : addD ds ⟨a.tmps, []⟩ = a := by
  obtain ⟨tm, df⟩ := a;have : df = ds := ha.ds;subst this
  rfl
 rw [e] at h1
 exact h1
theorem EX.ofD {ds : List Deferred} (h : EXI n ds Q .normal σ w) : EX n (fun e a' w' => Q e (addD ds a') w') .normal σ w := fun a ha => h _ ⟨⟨ha.size, rfl, ha.get⟩, by show a.defers ++ ds = ds; rw [ha.defers]; rfl⟩
end
theorem QIm {w w' : World} {base e size n : Nat} {v : Value} {xs : List Value} {row : Option Nat} (h : w.ownsRow base e size v n xs) (hg : w.grownBy w' row) (hr : ∀ r, row = some r → ∃ o : Obj, w.heap[r]? = some o ∧ o.isCells = false) : w'.ownsRow base e size v n xs := by
 refine h.kept hg ?_;obtain ⟨_, ⟨rfl, _⟩ | ⟨k, cap, cur, rfl, _, hk, _⟩⟩ := h
 ·exact .inl rfl
 ·refine .inr fun e1 => ?_
  obtain ⟨o, h1, h2⟩ := hr k e1.symm;rw [hk] at h1
  injection h1 with h1
  subst h1
  cases h2
theorem YA.below {n0 : Nat} {ds : List Deferred} {W W' : World} (h : YA n0 ds W) (hb : Below W.heap.size W W') : YA n0 ds W' := fun d hd => by
 obtain ⟨D, h1, h2, h3⟩ := h d hd
 exact ⟨D, h1, h2, (hb.block D (Array.getElem?_eq_some_iff.1 h3).1).trans h3⟩
theorem YA.cons {n0 D : Nat} {ds : List Deferred} {W : World} (h : YA n0 ds W) (hD : n0 ≤ D) (hd : W.heap[D]? = some (.deferred (some []))) : YA n0 ({ target := .collected D, args := #[] } :: ds) W := fun d hm => by
 rcases List.mem_cons.1 hm with rfl | h1
 ·exact ⟨D, hD, rfl, hd⟩
 ·exact h d h1
/-- the marks of a world that has been, still there -/
structure MarksIn (n0 : Nat) (ds : List Deferred) (W0 W : World) : Prop where
 marks : YA n0 ds W
 old : YA n0 ds W0
theorem YA.refl {n0 : Nat} {ds : List Deferred} {W : World} (h : YA n0 ds W) : MarksIn n0 ds W W := ⟨h, h⟩
theorem MarksIn.below {n0 : Nat} {ds : List Deferred} {W0 W W' : World} (h : MarksIn n0 ds W0 W) (hb : Below W.heap.size W W') : MarksIn n0 ds W0 W' := ⟨h.marks.below hb, h.old⟩
theorem MarksIn.fresh {n0 D : Nat} {ds : List Deferred} {W0 W : World} (h : MarksIn n0 ds W0 W) (hD : W0.heap.size ≤ D) (hm : ({ target := .collected D, args := #[] } : Deferred) ∈ ds) : False := by
 obtain ⟨D', _, h2, h3⟩ := h.old _ hm;have := (Array.getElem?_eq_some_iff.1 h3).1
 injection h2 with h2 _
 injection h2 with h2
 omega
theorem MarksIn.grown {n0 B : Nat} {ds : List Deferred} {W0 W W' : World} {row : Option Nat} (h : MarksIn n0 ds W0 W) (h3 : W0.heap.size ≤ B) (hg : W.grownBy W' row) (hr : ∀ r, row = some r → B ≤ r) : MarksIn n0 ds W0 W' := ⟨fun d hd => by
 obtain ⟨D, k1, k2, k3⟩ := h.marks d hd;obtain ⟨D', _, k5, k6⟩ := h.old d hd;have e : D' = D := by rw [k2] at k5; injection k5 with k5 _; injection k5 with k5; exact k5.symm
 subst e;have hlt := (Array.getElem?_eq_some_iff.1 k6).1
 exact ⟨D', k1, k2, (hg.block D' (Array.getElem?_eq_some_iff.1 k3).1 (fun e => by have := hr D' e.symm; omega)).trans k3⟩, h.old⟩
/-- a store into a block of cells leaves what is no cells -/
theorem Zi {w w' : World} {g T : Nat} {cs : Array Value} (h : Blk w g T cs) (hg : w.grownBy w' (some g)) : KeepsOthers w w' := ⟨hg.size, fun j o ho hc => by
 refine (hg.block j (Array.getElem?_eq_some_iff.1 ho).1 fun e => ?_).trans ho
 injection e with e
 subst e
 unfold Blk at h
 rw [h] at ho
 injection ho with ho
 subst ho
 cases hc⟩
theorem QIl {n0 : Nat} {w w' : World} {base e size n : Nat} {v : Value} {xs : List Value} (h : w.ownsRow base e size v n xs) (ht : Took n0 w w') : w'.ownsRow base e size v n xs := by
 obtain ⟨hl, h0 | ⟨g, cap, cur, hv, hb, hk, h1⟩⟩ := h
 ·exact ⟨hl, .inl h0⟩
 ·exact ⟨hl, .inr ⟨g, cap, cur, hv, hb, ht.blk g e cur hk, h1⟩⟩
section
variable {P : Program} {ops : Array Oper} {Q : Exit → Act → World → Prop} {n l : Nat}
theorem QBQ (hQ : ¬ LetsOut Q) : ∀ (L : List Oper) (a : Act) (w : World), (∀ o ∈ L, ∀ c, o.op ≠ .defer c) → wpList P ops Q L a w → wpListIn (Fence.wide.inRound l) n P ops Q L a w
 | [], _, _, _, h => h
 | o :: rest, a, w, hnd, h => by
  unfold wpListIn
  unfold wpList at h
  have hr : ∀ o ∈ rest, ∀ c, o.op ≠ .defer c := fun o ho => hnd o (List.mem_cons_of_mem _ ho)
  by_cases hw : Region.wanted o (yielded ops a.tmps) = true
  ·simp only [hw, if_true] at h ⊢
   rcases h with h | h
   ·exact Oper.wpIn_mono (fun a' w' h' => QBQ hQ rest a' w' hr h') (QC6 (hnd o (List.mem_cons_self ..)) h)
   ·exact absurd h.2 hQ
  ·simp only [hw, if_false, Bool.false_eq_true] at h ⊢
   exact ⟨fun _ _ => trivial, QBQ hQ rest _ _ hr h⟩
theorem QEZ {ds : List Deferred} : ∀ (L : List Oper) (a : Act) (w : World), wpList P ops (fun e a' w' => Q e (addD ds a') w') L a w → wpList P ops Q L (addD ds a) w
 | [], _, _, h => h
 | o :: rest, a, w, h => by
  unfold wpList at h ⊢
  by_cases hw : Region.wanted o (yielded ops a.tmps) = true
  ·rw [if_pos hw] at h
   rw [if_pos (show Region.wanted o (yielded ops (addD ds a).tmps) = true from hw)]
   rcases h with h | h
   ·exact .inl (QGu (Oper.wp_mono (fun a' w' h' => QEZ rest a' w' h') h))
   ·refine .inr ⟨?_, QEd h.2⟩
    unfold Oper.asks
    rw [QEm]
    exact h.1
  ·rw [if_neg hw] at h
   rw [if_neg (show ¬Region.wanted o (yielded ops (addD ds a).tmps) = true from hw), QF6]
   exact QEZ rest _ w h
end
theorem QFK {L : List Oper} (h : QCi L.toArray = true) : ∀ o ∈ L, ∀ c, o.op ≠ .defer c := fun o ho => by
 obtain ⟨i, hi, rfl⟩ := List.getElem_of_mem ho
 exact QBe h i _ (by simp [hi])
theorem Zj {id : Nat} {Q : Exit → Act → World → Prop} (h : ¬LetsOut Q) : ¬LetsOut (Exit.inBlock id Q) := h
theorem Zc {K : Act → World → Prop} {Q : Exit → Act → World → Prop} (h : ¬LetsOut Q) : ¬LetsOut (Exit.then K Q) := h
theorem Zo : ¬LetsOut (fun (_ : Exit) (_ : Act) (_ : World) => False) := fun ⟨_, _, h⟩ => h
section
variable {P : Program} {n : Nat} {σ : Sg} {w : World} {Q : Exit → Act → World → Prop} {L : List Oper}
theorem ECI.regionL {id l : Nat} (hQ : ¬LetsOut Q) (hnd : QCi L.toArray = true) (h : EL P n L Q L σ w) : ECI (some l) 0 P n [] (.region id L.toArray false) Q σ w := fun a ha =>
 wpIn_region_lit (QBQ hQ L a w (QFK hnd) (h a ha.e))
theorem ECI.regionLD {id : Nat} {k : Nat} {ds : List Deferred} (h : EL P n L (fun e a' w' => Q e (addD ds a') w') L σ w) : ECI none k P n ds (.region id L.toArray false) Q σ w := fun a ha => by
 refine wpIn_wide.2 (wp_region_lit ?_);have h1 := QEZ (ds := ds) L ⟨a.tmps, []⟩ w (h ⟨a.tmps, []⟩ ha.env);have e : addD ds ⟨a.tmps, []⟩ = a := by
  obtain ⟨tm, df⟩ := a;have : df = ds := ha.ds;subst this
  rfl
 rw [e] at h1
 exact h1
theorem EX.toI {e : Exit} (h : EXI n [] Q e σ w) : EX n Q e σ w := fun a ha => h a ha.g
end
section
variable {ro : Option Nat} {k : Nat} {P : Program} {n : Nat} {ds : List Deferred} {σ : Sg} {w : World} {Q : Exit → Act → World → Prop} {L : List Oper} {rest : List Oper}
theorem ELI.skip {d ty j t : Nat} {b : Bool} {op : Op} {pos : String} {af : Array Edge} {u : Value} (hj : ZQ L j = some t) (ht : σ t = some u) (hb : QAz b u = false) (hd : Nat.blt d n = true) (next : ELI ro k P n ds L Q rest (ins σ d undef) w) : ELI ro k P n ds L Q (⟨some d, op, ty, pos, af, some (j, b)⟩ :: rest) σ w := fun a ha => by
 have hw : Region.wanted (⟨some d, op, ty, pos, af, some (j, b)⟩ : Oper) (yielded L.toArray a.tmps) = false := by
  simp only [Region.wanted, QDu ha hj ht]
  cases u <;> first | rfl | (simp only [QAz] at hb; simpa using hb)
 unfold wpListIn
 rw [hw, if_neg (by simp)]
 exact ⟨fun _ _ => trivial, next _ (ha.put hd undef)⟩
end
section
variable {P : Program} {n : Nat} {σ : Sg} {w : World}
end
theorem QAe {b m : Nat} {U : List Nat} {A : World} {D : Nat} {o : Obj} (o' : Obj) (hm : m ≤ D) (hd : A.heap[D]? = some o) (hc : o.isCells = false) : Soft b m U A (A.putObj D o') :=
 ⟨some D, grownBy_putObj' A D o', fun g e => by injection e with e; subst e; exact .inr ⟨hm, o, hd, hc⟩⟩
section
variable {P : Program} {w : World}
end
section
variable {P : Program} {n : Nat} {σ : Sg} {w : World} {Q : Exit → Act → World → Prop} {L : List Oper} {rest : List Oper}
end
section
variable {P : Program} {n : Nat} {σ : Sg} {L : List Oper} {cls : List (List Nat)} {alc : List Nat} {val : Nat → Value} {a : Act} {w1 : World} {i : Nat} {Q : Exit → Act → World → Prop}
end
theorem QHf {w w' : World} {base e size n : Nat} {v : Value} {xs : List Value} {gs : List Nat} (h : w.ownsRow base e size v n xs) (ht : Touch w w' gs) (hn : ∀ g, v.ownBlock = some g → g ∉ gs) : w'.ownsRow base e size v n xs := by
 obtain ⟨hl, ⟨h1, h2⟩ | ⟨g, cap, cur, h1, hb, hg, hr⟩⟩ := h
 ·exact ⟨hl, .inl ⟨h1, h2⟩⟩
 ·refine ⟨hl, .inr ⟨g, cap, cur, h1, hb, ?_, hr⟩⟩
  have hlt : g < w.heap.size := Blk.lt hg
  exact (ht.block g hlt (hn g (by rw [h1]; rfl))).trans hg
/-- the block that a pointer or a slice points to -/
def blk0 : Value → Option Nat
 | .pointer (some a) => some a.block
 | .slice (some a) _ _ => some a.block
 | _ => none
section
variable {P : Program} {n : Nat} {σ : Sg} {w : World} {Q : Exit → Act → World → Prop} {L : List Oper}
end
section
variable {P : Program} {n : Nat} {σ : Sg} {w : World} {L : List Oper} {cls : List (List Nat)} {alc : List Nat} {val : Nat → Value} {a : Act} {w1 : World} {i m : Nat} {Q : Exit → Act → World → Prop} {Φ : Nat → (Nat → Value) → World → Prop}
abbrev HKA (L : List Oper) (cls : List (List Nat)) (alc : List Nat) (Φ : Nat → (Nat → Value) → World → Prop) (i : Nat) (val : Nat → Value) (a : Act) (w1 : World) : Act → World → Prop :=
 fun a' w' => ∃ v, a' = a.put (ZQ L i) v ∧ Below w1.heap.size w1 w' ∧ Φ i (res (upd val i v) i (clsAt cls i)) w' ∧ (i ∈ alc → blk0 v = some w1.heap.size ∧ w1.heap.size < w'.heap.size)
theorem hka (h : wpOp P L.toArray Q i (HK L cls alc Φ i val a w1) a w1) : wpOp P L.toArray Q i (HKA L cls alc Φ i val a w1) a w1 :=
 wpOp_mono (fun a' w' ⟨v, h1, h2, h3, h4⟩ => ⟨v, h1, h2, h3, fun hi => by
  obtain ⟨h5, h6⟩ := h4 hi
  exact ⟨by rw [h5]; rfl, h6⟩⟩) h
end
section
variable {P : Program} {w : World}
theorem QHX {t tn e : TypeId} {size bytes base m ty : Nat} (E : Elem P t e size bytes) (htn : P.underlying tn = some (.int .i64)) (h0 : 0 < m) (hm : m ≤ 1048576) (hby : bytes ≤ 1048576) (hbase : base ≤ w.heap.size) :
  ∃ g c w', (Builtin.append_ #[t, tn] ty #[.slice none 0 0, .int .i64 (m : Int)]).run P w = .ok (.slice (some ⟨g, 0, none⟩) m c) w' ∧ m ≤ c ∧ w'.ownsRow base e size (.slice (some ⟨g, 0, none⟩) 0 c) 0 [] ∧ Below w.heap.size w w' := by
 obtain ⟨i, z, hi, hz, hsize, hb, hzs⟩ := E.hi;subst hsize;have hmm : m * i.bytes ≤ 1048576 * i.bytes := Nat.mul_le_mul_right _ hm;have h1 := Lib.run_append_nil_zeros (P := P) w t tn ty e i z .i64 .i64 E.ht htn hi hz m h0 E.hs (by omega) (by omega)
 have hge := grownCap_ge w m 0 e;have hcm : grownCap w m 0 e ≤ maxLen := grownCap_le_maxLen w m 0 e (by simp only [maxLen]; omega)
 refine ⟨_, _, _, h1, hge, ?_, ?_⟩
 ·refine World.ownsRow_made w.drew _ _ hbase hcm ?_
  simp only [Array.size_append, size_zeroCells, hzs, ← Nat.add_mul]
  congr 1
  omega
 ·exact ⟨rfl, rfl, rfl, by simp, fun j hj => by
   simp only [World.alloc, World.drew]
   rw [Array.getElem?_push_lt hj, Array.getElem?_eq_getElem hj]⟩
theorem QB8 {t tn : TypeId} {s x : Operand} {o : Oper} {v v' : Value} {src : Value} {w' : World} {a : Act} (ho : o.op = .call { callee := .builtin .append, args := #[s, x], argTypes := #[t, tn] }) (hs : a.eval s = v) (hx : a.eval x = src) (hr : (Builtin.append_ #[t, tn] o.type #[v, src]).run P w = .ok v' w') :
  (execOp a.eval o).run P w = .ok (.value v') w' := by
 unfold execOp
 simp only [ho, resolve, invoke, builtin, Sem.run_bind, Sem.run_pure, Result.andThen_ok, List.map_toArray, List.map_cons, List.map_nil, hs, hx, hr]
end
section
variable {P : Program} {n : Nat} {σ : Sg} {w : World} {Q : Exit → Act → World → Prop} {L : List Oper} {rest : List Oper}
theorem EL.growZ {d ty t tn e size bytes base m : Nat} {s x : Operand} {pos : String} {af : Array Edge} (E : Elem P t e size bytes) (htn : P.underlying tn = some (.int .i64)) (hs : evS σ s = some (.slice none 0 0)) (hx : evS σ x = some (.int .i64 (m : Nat))) (h0 : 0 < m) (hm : m ≤ 1048576) (hby : Nat.ble bytes 1048576 = true) (hbase : base ≤ w.heap.size) (hd : Nat.blt d n = true)
  (next : ∀ g c w', m ≤ c → w'.ownsRow base e size (.slice (some ⟨g, 0, none⟩) 0 c) 0 [] → Below w.heap.size w w' → EL P n L Q rest (ins σ d (.slice (some ⟨g, 0, none⟩) m c)) w') : EL P n L Q (⟨some d, .call { callee := .builtin .append, args := #[s, x], argTypes := #[t, tn] }, ty, pos, af, none⟩ :: rest) σ w := by
 intro a ha;obtain ⟨g, c, w', h1, h2, h3, h4⟩ := QHX (P := P) (w := w) (ty := ty) E htn h0 hm (by simpa [Nat.ble_eq] using hby) hbase
 exact QAQ (ZX rfl _) (QB8 rfl (ha.eval hs) (ha.eval hx) h1) (next g c w' h2 h3 h4 _ (ha.put hd _))
end
/-- what taking the marks does, to all that is no mark -/
structure TookO (n0 : Nat) (w w' : World) : Prop where
 took : Took n0 w w'
 keep : ∀ (j : Nat) (o : Obj), w.heap[j]? = some o → (∀ x, o ≠ .deferred x) → w'.heap[j]? = some o
theorem QBK {P : Program} {fn : Func} {tmps : Array Value} {R : Ending → World → Prop} {n0 k : Nat} : ∀ (ds : List Deferred) (w : World), YA n0 ds w → ds.Nodup → (∀ w', TookO n0 w w' → ∃ v, (results fn tmps).run P w' = .ok v w' ∧ R (.returned v) w') → LeavesInM Fence.wide k P fn tmps R ds .returning w
 | [], w, _, _, h => h w ⟨⟨Below.refl _ _, rfl, fun _ _ _ h => h⟩, fun _ _ h _ => h⟩
 | d :: ds, w, hm, hd, h => by
  obtain ⟨D, hD, rfl, hw⟩ := hm d (List.mem_cons_self ..);have ho : ∀ j, j ≠ D → (w.putObj D (.deferred none)).heap[j]? = w.heap[j]? := fun j hj => World.putObj_heap_other hj
  refine ⟨by simp, .inl ⟨D, _, rfl, run_takeDeferred hw, QBK (n0 := n0) ds _ (fun d' hd' => ?_) (List.nodup_cons.1 hd).2 fun w' ht => h w' ?_⟩⟩
  ·obtain ⟨D', h1, rfl, h3⟩ := hm d' (List.mem_cons_of_mem _ hd')
   refine ⟨D', h1, rfl, (ho D' fun e => ?_).trans h3⟩
   subst e
   exact (List.nodup_cons.1 hd).1 hd'
  ·have hk : Kp n0 [] w (w.putObj D (.deferred none)) := Kp.putObj _ hD hw rfl
   refine ⟨⟨hk.below.trans ht.took.below, ht.took.size.trans (by simp), fun g T cs hg => ht.took.blk g T cs (hk.blk g T cs hg rfl)⟩, fun j o hj hn => ht.keep j o ((ho j fun e => ?_).trans hj) hn⟩
   subst e;rw [hw] at hj
   injection hj with hj
   exact hn _ hj.symm
section
variable {P : Program} {n : Nat} {ds : List Deferred} {σ : Sg} {w : World}
theorem EXI.doneO {fn : Func} {R : Ending → World → Prop} {n0 : Nat} {v : Value} (hm : YA n0 ds w) (hd : ds.Nodup) (hr : ∀ w', TookO n0 w w' → ∀ a, Env n σ a → (results fn a.tmps).run P w' = .ok v w') (h : ∀ w', TookO n0 w w' → R (.returned v) w') : EXI n ds (bodyPostM Fence.wide 0 P fn R) .ret σ w := fun a ha => by
 show LeavesInM Fence.wide 0 P fn a.tmps R a.defers .returning w
 rw [ha.ds]
 exact QBK ds w hm hd fun w' ht => ⟨v, hr w' ht ⟨a.tmps, []⟩ ha.env, h w' ht⟩
end
section
variable {A B : World} {n0 g : Nat} {S : List Nat} {o : Obj}
theorem Kp.other (hn : n0 ≤ g) (ho : A.heap[g]? = some o) (hc : o.isCells = false) (hg : A.grownBy B (some g)) : Kp n0 S A B :=
 ⟨hg.os, hg.tape, hg.output, hg.size, fun k hk => hg.block k (by have := (Array.getElem?_eq_some_iff.1 ho).1; omega) (fun e => by injection e; omega),
  fun k T cs hq _ => hq.grown hg fun e => by
   injection e with e
   subst e
   unfold Blk at hq
   rw [ho] at hq
   injection hq with hq
   subst hq
   cases hc⟩
theorem ZP.low {b : Nat} (hg : A.grownBy B (some g)) (h : g < b) : ZP b A B := fun j o hb hj _ => (hg.block j (Array.getElem?_eq_some_iff.1 hj).1 fun e => by injection e; omega).trans hj
theorem YA.other {ds : List Deferred} (h : YA n0 ds A) (ho : A.heap[g]? = some o) (hn : ∀ x, o ≠ .deferred x) (hg : A.grownBy B (some g)) : YA n0 ds B := fun d hd => by
 obtain ⟨D, h1, h2, h3⟩ := h d hd;refine ⟨D, h1, h2, (hg.block D (Array.getElem?_eq_some_iff.1 h3).1 fun e => ?_).trans h3⟩
 injection e with e
 subst e;rw [h3] at ho
 injection ho with ho
 exact hn _ ho.symm
theorem YA.keepsFrom {ds : List Deferred} {b : Nat} (h : YA n0 ds A) (hb : b ≤ n0) (hk : ZP b A B) : YA n0 ds B := fun d hd => by
 obtain ⟨D, h1, h2, h3⟩ := h d hd
 exact ⟨D, h1, h2, hk D _ (by omega) h3 rfl⟩
theorem MarksIn.other {ds : List Deferred} {W0 : World} (h : MarksIn n0 ds W0 A) (ho : A.heap[g]? = some o) (hn : ∀ x, o ≠ .deferred x) (hg : A.grownBy B (some g)) : MarksIn n0 ds W0 B := ⟨h.marks.other ho hn hg, h.old⟩
theorem MarksIn.soft {ds : List Deferred} {W0 : World} {b m : Nat} {U : List Nat} (h : MarksIn n0 ds W0 A) (hm : W0.heap.size ≤ m) (hs : Soft b m U A B) : MarksIn n0 ds W0 B := by
 obtain ⟨row, hg, hr⟩ := hs;refine ⟨fun d hd => ?_, h.old⟩
 obtain ⟨D, k1, k2, k3⟩ := h.marks d hd;obtain ⟨D', _, k5, k6⟩ := h.old d hd;have e : D' = D := by rw [k2] at k5; injection k5 with k5 _; injection k5 with k5; exact k5.symm
 subst e;have hlt := (Array.getElem?_eq_some_iff.1 k6).1;refine ⟨D', k1, k2, (hg.block D' (Array.getElem?_eq_some_iff.1 k3).1 (fun e => ?_)).trans k3⟩
 rcases hr D' e.symm with ⟨_, T, cs, _, h2⟩ | ⟨h1, _⟩
 ·unfold Blk at h2
  rw [k3] at h2
  cases h2
 ·omega
end
theorem Soft.mono2 {b m c : Nat} {U : List Nat} {A B : World} (h : Soft b m U A B) (hb : c ≤ b) (hm : c ≤ m := by omega) : Soft c c U A B := let ⟨row, hg, hr⟩ := h; ⟨row, hg, fun g e => by
 rcases hr g e with ⟨h1, h3⟩ | ⟨h1, h2⟩
 ·exact .inl ⟨Nat.le_trans hb h1, h3⟩
 ·exact .inr ⟨Nat.le_trans hm h1, h2⟩⟩
/-- what stays in a round: kept by what is new, and by turning the loop's own object l -/
structure FrOk (Fr : World → World → Prop) (l : Nat) : Prop where
 below : ∀ {A B : World}, Below A.heap.size A B → Fr A B
 put : ∀ {A : World} {o o' : Obj}, A.heap[l]? = some o → o.isCells = false → Fr A (A.putObj l o')
 trans : ∀ {A B C : World}, Fr A B → Fr B C → A.heap.size ≤ B.heap.size → Fr A C
def QIB (Fr : Nat → World → World → Prop) (n0 : Nat) (S : List Nat) (l : Nat) (J Jx : List It → World → Prop) (pre : List It) (W : World) (e : Ending) (W' : World) : Prop :=
 Kp n0 S W W' ∧ ZP (l + 1) W W' ∧ Fr l W W' ∧ ((e = .returned (.bool true) ∧ J pre W') ∨ (e = .returned (.bool false) ∧ Jx pre W'))
def QHI (Fr : Nat → World → World → Prop) (U : List Nat) (P : Program) (gf : Nat) (caps : Array Value) (ok : It → World → Prop) (n0 : Nat) (S : List Nat) (all : List (List Int)) (w : World) : Prop :=
 ∀ (l : Nat) (J Jx : List It → World → Prop) (W : World), Below w.heap.size w W → w.heap.size ≤ l → l < W.heap.size → QBM (l + 1) (l + 1) U J → QBM (l + 1) (l + 1) U Jx →
  (∀ pre x W1, ok x W1 → J pre W1 → (pre ++ [x]).map (·.1) <+: all → QLU P l #[x.2] W1 (QIB Fr n0 S l J Jx (pre ++ [x]) W1)) →
  J [] W → Calls P gf (#[.func (.yield l) #[] #[]] ++ caps) W fun e W' => (∃ v, e = .returned v) ∧ Kp n0 S W W' ∧ ((∃ xs : List It, xs.map (·.1) = all ∧ J xs W') ∨ (∃ pre : List It, pre ≠ [] ∧ pre.map (·.1) <+: all ∧ Jx pre W'))
section
variable {P : Program} {n : Nat} {ds : List Deferred} {σ : Sg} {w : World} {Q : Exit → Act → World → Prop}
/-- a range over a function whose body answers for more (Fr); its variable is no box; the body may leave by ret (its exit: ret) -/
theorem QGo {U : List Nat} {Fr : Nat → World → World → Prop} {k : Nat} {g : Operand} {d : Nat} {assign body : Code} {gf : Nat} {caps : Array Value} (hg : evS σ g = some (.func (.func gf) #[] caps)) (eg : ∀ args w, (callFunc gf args).run P w = .ok (.enter gf args) w) (hd : Nat.blt d n = true)
  {ok : It → World → Prop} {n0 : Nat} {S : List Nat} {all : List (List Int)} (hit : QHI Fr U P gf caps ok n0 S all w) (hF : FrOk (Fr (w.heap.size + 1)) (w.heap.size + 1)) (hn0 : n0 ≤ w.heap.size)
  (I Ix : List It → World → Prop) (hIS : QBM w.heap.size w.heap.size U I) (hIxS : QBM w.heap.size w.heap.size U Ix) (h0 : I [] w) (hok : OwnFrom w.heap.size ok) (σ1 : It → Sg)
  (hassign : ∀ l x W K, (∀ a', EnvG n [] (σ1 x) a' → K a' W) → ECI (some l) 0 P n [] assign (Exit.then K (fun _ _ _ => False)) (ins σ d x.2) W)
  (hbody : ∀ l pre x W, (pre ++ [x]).map (·.1) <+: all → ok x W → I pre W → w.heap.size + 2 ≤ W.heap.size → ECI (some l) 0 P n [] body (fun e _ W' => ZP w.heap.size W W' ∧ Kp n0 S W W' ∧ Fr (w.heap.size + 1) W W' ∧ ((e = .normal ∧ I (pre ++ [x]) W') ∨ (e = .ret ∧ Ix (pre ++ [x]) W'))) (σ1 x) W)
  (hdone : ∀ D xs W, w.heap.size ≤ D → xs.map (·.1) = all → I xs W → Kp n0 S w W → W.heap[D]? = some (.deferred (some [])) → EXI n ({ target := .collected D, args := #[] } :: ds) Q .normal σ W)
  (hstop : ∀ D pre W, w.heap.size ≤ D → pre ≠ [] → pre.map (·.1) <+: all → Ix pre W → Kp n0 S w W → W.heap[D]? = some (.deferred (some [])) → EXI n ({ target := .collected D, args := #[] } :: ds) Q .ret σ W) :
  ECI none k P n ds (.rangeFunc g #[d] assign body) Q σ w := fun a ha => by
 have hI := hIS.own;have hIx := hIxS.own;refine wpIn_rangeFunc fun fn hfn => ?_
 obtain ⟨rec, hrec⟩ : ∃ rec : LoopState → Option Code → Loop, rec = fun st pe => { state := st, pending := pe, fn, tmps := a.tmps, params := #[d], assign, body, defers := w.heap.size } := ⟨_, rfl⟩
 obtain ⟨W1, eW1⟩ : ∃ W1, W1 = (w.alloc (.deferred (some []))).alloc (.loop (rec .ready none)) := ⟨_, rfl⟩;have hL := World.alloc_heap_new (w.alloc (.deferred (some []))) (.loop (rec .ready none));rw [World.size_alloc, ← eW1] at hL;have hD : W1.heap[w.heap.size]? = some (.deferred (some [])) := by rw [eW1]; exact (Below.heap_alloc _ _ _ (by simp)).trans (World.alloc_heap_new w _)
 have hs1 : W1.heap.size = w.heap.size + 2 := by rw [eW1]; simp
 have hI1 : I [] W1 := by rw [eW1]; exact hI.alloc _ (hI.alloc _ h0)
 have hB1 : Below w.heap.size w W1 := by rw [eW1]; exact ((Below.refl w.heap.size w).alloc (Nat.le_refl _) _).alloc (by simp) _
 have hK1 : Kp n0 S w W1 := by rw [eW1]; exact (Kp.alloc w hn0 _).trans (Kp.alloc _ (by simp; omega) _)
 refine ⟨w.heap.size + 1, [{ target := .collected w.heap.size, args := #[] }], W1, { target := .fn (.func gf) caps, args := #[.func (.yield (w.heap.size + 1)) #[] #[]] }, W1, gf, #[.func (.yield (w.heap.size + 1)) #[] #[]] ++ caps, W1, ?_, ?_, ?_, ?_, QDT _ _, ?_⟩
 ·rw [eW1, hrec]; exact run_enterLoop_outer _ _ _ _ _
 ·simp only [resolve, ha.eval hg]
  simp [go_sem]
 ·intro f' hf'; trivial
 ·simp [invoke, go_sem, eg]
 ·refine CallsIn.mono (QDc (hit (w.heap.size + 1) (fun pre W => I pre W ∧ w.heap.size + 2 ≤ W.heap.size ∧ W.heap[w.heap.size + 1]? = some (.loop (rec .ready none)) ∧ W.heap[w.heap.size]? = some (.deferred (some [])))
   (fun pre W => Ix pre W ∧ w.heap.size + 2 ≤ W.heap.size ∧ W.heap[w.heap.size + 1]? = some (.loop (rec .done (some .ret))) ∧ W.heap[w.heap.size]? = some (.deferred (some [])))
   W1 hB1 (by omega) (by omega) ?_ ?_ ?_ ⟨hI1, by omega, hL, hD⟩)) ?_
  ·rintro s A B ⟨h1, h2, h3, h4⟩ hb
   exact ⟨hIS s A B h1 (hb.mono2 (by omega)), Nat.le_trans h2 hb.size, hb.other h3 rfl (by omega), hb.other h4 rfl (by omega)⟩
  ·rintro s A B ⟨h1, h2, h3, h4⟩ hb
   exact ⟨hIxS s A B h1 (hb.mono2 (by omega)), Nat.le_trans h2 hb.size, hb.other h3 rfl (by omega), hb.other h4 rfl (by omega)⟩
  ·rintro pre x W hokx ⟨hi, hsz, hl, hk⟩ hpf
   have hlt : w.heap.size + 1 < W.heap.size := by omega
   have hy := run_yield (P := P) (args := #[x.2]) hl (by rw [hrec]; rfl)
   rw [hrec] at hy;refine ⟨fn, _, assign, body, hy, roundIn_of_wpIn hfn (hassign (w.heap.size + 1) x W _ (fun a' ha' => ?_) _ (QKK ha hd))⟩
   refine ⟨_, run_beginRound hl (by rw [hrec]), ?_⟩
   obtain ⟨W2, eW2⟩ : ∃ W2, W2 = W.putObj (w.heap.size + 1) (.loop { rec .ready none with state := .busy }) := ⟨_, rfl⟩;have hl2 : W2.heap[w.heap.size + 1]? = some (.loop { rec .ready none with state := .busy }) := by rw [eW2]; exact World.putObj_heap_same hlt
   have hk2 : W2.heap[w.heap.size]? = some (.deferred (some [])) := by rw [eW2]; exact (World.putObj_heap_other (by omega)).trans hk
   have hw2 : Kp n0 S W W2 := by rw [eW2]; exact Kp.putObj _ (by omega) hl rfl
   have hkw2 : ZP (w.heap.size + 1 + 1) W W2 := fun j o hj ho _ => by rw [eW2]; exact (World.putObj_heap_other (by omega)).trans ho
   have hF2 : Fr (w.heap.size + 1) W W2 := by rw [eW2]; exact hF.put hl rfl
   have hi2 : I pre W2 := by rw [eW2]; exact hI.putObj _ hi (by omega) hl rfl
   have hok2 : ok x W2 := by rw [eW2]; exact hok.putObj _ hokx (by omega) hl rfl
   have hsz2 : w.heap.size + 2 ≤ W2.heap.size := Nat.le_trans hsz hw2.size;rw [← eW2];refine wpIn_mono (hbody (w.heap.size + 1) pre x W2 hpf hok2 hi2 hsz2 a' ha') ?_
   rintro e a3 W3 ⟨hk3, hp3, hf3, h3⟩
   have hl3 := hk3 _ _ (by omega) hl2 rfl
   have hd3 := hk3 _ _ (by omega) hk2 rfl
   have fin : ∀ jump : Option Code, ∃ W4, (Instr.endRound (w.heap.size + 1) jump).run P W3 = .ok (.bool jump.isNone) W4 ∧ W4 = W3.putObj (w.heap.size + 1) (.loop (rec (if jump.isNone then .ready else .done) jump)) ∧ (Kp n0 S W W4 ∧ ZP (w.heap.size + 1 + 1) W W4 ∧ Fr (w.heap.size + 1) W W4) ∧ w.heap.size + 2 ≤ W4.heap.size ∧ W4.heap[w.heap.size + 1]? = some (.loop (rec (if jump.isNone then .ready else .done) jump)) ∧ W4.heap[w.heap.size]? = some (.deferred (some [])) := fun jump => by
    have hr := run_endRound (P := P) jump hl3;rw [hrec] at hr ⊢;have hk4 : Kp n0 S W3 (W3.putObj (w.heap.size + 1) (.loop (rec (if jump.isNone then .ready else .done) jump))) := Kp.putObj _ (by omega) hl3 rfl
    rw [hrec] at hk4
    exact ⟨_, hr, rfl, ⟨hw2.trans (hp3.trans hk4), (hkw2.trans (hk3.mono (by omega))).trans fun j o hj ho _ => (World.putObj_heap_other (by omega)).trans ho, hF.trans (hF.trans hF2 hf3 hw2.size) (hF.put hl3 rfl) (Nat.le_trans hw2.size hp3.size)⟩, Nat.le_trans hsz2 (Nat.le_trans hp3.size hk4.size), World.putObj_heap_same (Array.getElem?_eq_some_iff.1 hl3).1, (World.putObj_heap_other (by omega)).trans hd3⟩
   rcases h3 with ⟨rfl, hi3⟩ | ⟨rfl, hi3⟩
   ·obtain ⟨W4, hr, e4, k4, s4, l4, d4⟩ := fin none
    exact ⟨_, W4, hr, k4.1, k4.2.1, k4.2.2, .inl ⟨rfl, by rw [e4]; exact hI.putObj _ hi3 (by omega) hl3 rfl, s4, l4, d4⟩⟩
   ·obtain ⟨W4, hr, e4, k4, s4, l4, d4⟩ := fin (some .ret)
    exact ⟨_, W4, hr, k4.1, k4.2.1, k4.2.2, .inr ⟨rfl, by rw [e4]; exact hIx.putObj _ hi3 (by omega) hl3 rfl, s4, l4, d4⟩⟩
  ·rintro e W2 ⟨⟨v, rfl⟩, hkk, ⟨xs, hS, hi, hsz, hl, hk⟩ | ⟨pre, hne, hS, hi, hsz, hl, hk⟩⟩
   ·refine ⟨none, _, by have := run_endLoop (P := P) hl (by rw [hrec]; simp); rw [hrec] at this; exact this, ?_⟩
    exact hdone w.heap.size xs _ (Nat.le_refl _) hS (hI.putObj _ hi (by omega) hl rfl) (hK1.trans (hkk.trans (Kp.putObj _ (by omega) hl rfl))) ((World.putObj_heap_other (by omega)).trans hk) _ ⟨ha.env, by rw [List.singleton_append, ha.ds]⟩
   ·refine ⟨some .ret, _, by have := run_endLoop (P := P) hl (by rw [hrec]; simp); rw [hrec] at this; exact this, wpIn_ret ?_⟩
    exact hstop w.heap.size pre _ (Nat.le_refl _) hne hS (hIx.putObj _ hi (by omega) hl rfl) (hK1.trans (hkk.trans (Kp.putObj _ (by omega) hl rfl))) ((World.putObj_heap_other (by omega)).trans hk) _ ⟨ha.env, by rw [List.singleton_append, ha.ds]⟩
end
section
variable {P : Program} {ops : Array Oper} {Q : Exit → Act → World → Prop}
variable {F : Fence} {kk : Nat}
theorem QE1 (hback : QCU ops = true) (I : Array Bool → Act → World → Prop)
  (hstep : ∀ (L : Array Bool) (a : Act) (w : World) (i : Nat) (o : Oper), L.size = ops.size → I L a w → L.getD i true = false → ops[i]? = some o → (∀ e ∈ o.after, Region.binds .any e = true → L.getD e.on false = true) →
   wpOpIn F kk P ops Q i (I (L.setIfInBounds i true)) a w)
  (hend : ∀ (L : Array Bool) (a : Act) (w : World), L.size = ops.size → I L a w → (∀ i, i < ops.size → L.getD i false = true) → Q .normal a w) :
  ∀ (fuel : Nat) (L : Array Bool) (a : Act) (w : World), L.size = ops.size → QC7 ops.size L ≤ fuel → I L a w → wpAnyIn F kk P .any ops Q fuel L a w := by
 have hall : ∀ (L : Array Bool), L.size = ops.size → Region.ready .any ops L = [] → ∀ i, i < ops.size → L.getD i false = true := by
  intro L hs hr i
  induction i using Nat.strongRecOn with
  | ind i ih =>
   intro hi
   rcases Bool.eq_false_or_eq_true (L.getD i false) with h | h
   ·exact h
   ·exfalso
    have hm : i ∈ Region.ready .any ops L := by
     refine mem_ready.2 ⟨?_, ops[i], Array.getElem?_eq_getElem hi, fun e he hb => ?_⟩
     ·simp [Array.getD, hs, hi] at h ⊢
      exact h
     ·have := QDf hback (Array.getElem?_eq_getElem hi) he hb
      exact ih e.on this (by omega)
    rw [hr] at hm
    cases hm
 intro fuel
 induction fuel with
 | zero =>
  intro L a w hs hf hI;have hr : Region.ready .any ops L = [] := by
   refine List.eq_nil_iff_forall_not_mem.2 fun i hi => ?_
   obtain ⟨h1, o, ho, _⟩ := mem_ready.1 hi;have := QBd (Array.getElem?_eq_some_iff.1 ho).1 hs h1
   omega
  exact ⟨hr, hend L a w hs hI (hall L hs hr)⟩
 | succ fuel ih =>
  intro L a w hs hf hI;refine ⟨fun hr => hend L a w hs hI (hall L hs hr), fun i hi => ?_⟩
  obtain ⟨h1, o, ho, h2⟩ := mem_ready.1 hi;have hlt := QBd (Array.getElem?_eq_some_iff.1 ho).1 hs h1
  exact wpOpIn_mono (fun a' w' h => ih _ a' w' (by simpa using hs) (by omega) h) (hstep L a w i o hs hI h1 ho h2)
theorem QCX {id : Nat} {a : Act} {w : World} (hm : P.follows .mixedOrders = true) (hback : QCU ops = true) (I : Array Bool → Act → World → Prop)
  (h0 : I (Array.replicate ops.size false) a { w with drawn := w.drawn + 1 })
  (hstep : ∀ (L : Array Bool) (a : Act) (w : World) (i : Nat) (o : Oper), L.size = ops.size → I L a w → L.getD i true = false → ops[i]? = some o → (∀ e ∈ o.after, Region.binds .any e = true → L.getD e.on false = true) →
   wpOpIn F kk P ops Q i (I (L.setIfInBounds i true)) a w)
  (hend : ∀ (L : Array Bool) (a : Act) (w : World), L.size = ops.size → I L a w → (∀ i, i < ops.size → L.getD i false = true) → Q .normal a w) : (Code.region id ops true).wpIn F kk P Q a w := by
 refine wpIn_region_any hm (QE1 hback I hstep hend _ _ _ _ (by simp) ?_ h0)
 unfold QC7
 exact Nat.le_trans (List.length_filter_le _ _) (by simp)
end
section
variable {P : Program} {n : Nat} {σ : Sg} {w : World} {Q : Exit → Act → World → Prop} {L : List Oper}
theorem ELI.ends {ro : Option Nat} {k m : Nat} {ds : List Deferred} {val : Nat → Value} {rest : List Oper} {cs : List Value} (hv : QHJ val 0 cs) (hl : Nat.ble m (lenV cs) = true) (h : ELI ro k P n ds L Q rest (sgEnd L σ (nthV cs) m) w) : ELI ro k P n ds L Q rest (sgEnd L σ val m) w := by
 have e : sgEnd L σ val m = sgEnd L σ (nthV cs) m := QAg m fun j hj => by
  have := QDm hv j (by rw [← Ya]; have := Nat.le_of_ble_eq_true hl; omega)
  rwa [Nat.zero_add] at this
 rw [e]
 exact h
end
theorem Za {A B C D E : World → Prop} : ¬LetsOut (fun e _ W' => A W' ∧ B W' ∧ C W' ∧ ((e = Exit.normal ∧ D W') ∨ (e = Exit.ret ∧ E W'))) := fun ⟨_, _, h⟩ => by
 rcases h.2.2.2 with ⟨h1, _⟩ | ⟨h1, _⟩ <;> cases h1
theorem Soft.none {b m : Nat} {U : List Nat} {A B : World} (h : Soft b m [] A B) : Soft b m U A B := let ⟨row, hg, hr⟩ := h; ⟨row, hg, fun g e => by
 rcases hr g e with ⟨_, T, cs, h1, _⟩ | h2
 ·cases h1
 ·exact .inr h2⟩
theorem Kp.soft {n0 b m : Nat} {S : List Nat} {W A B : World} (h : Kp n0 S W A) (hs : Soft b m [] A B) (hm : n0 ≤ m) (hn : n0 ≤ W.heap.size) : Kp n0 S W B := by
 obtain ⟨row, hg, hr⟩ := hs
 cases row with
 | none => exact h.trans (Kp.of_below ⟨hg.os, hg.tape, hg.output, hg.size, fun k hk => hg.block k hk (fun e => by cases e)⟩ (Nat.le_trans hn h.size))
 | some g =>
  rcases hr g rfl with ⟨_, T, cs, h1, _⟩ | ⟨h1, o, h2, h3⟩
  ·cases h1
  ·exact h.trans (Kp.other (by omega) h2 h3 hg)
theorem QAF {P : Program} {fn : Func} {tmps : Array Value} {R : Ending → World → Prop} {n0 k : Nat} {Z : World → Prop} (hZ : ∀ A D, Z A → n0 ≤ D → A.heap[D]? = some (.deferred (some [])) → Z (A.putObj D (.deferred none))) : ∀ (ds : List Deferred) (w : World), YA n0 ds w → ds.Nodup → Z w → (∀ w', TookO n0 w w' → Z w' → ∃ v, (results fn tmps).run P w' = .ok v w' ∧ R (.returned v) w') → LeavesInM Fence.wide k P fn tmps R ds .returning w
 | [], w, _, _, hz, h => h w ⟨⟨Below.refl _ _, rfl, fun _ _ _ h => h⟩, fun _ _ h _ => h⟩ hz
 | d :: ds, w, hm, hd, hz, h => by
  obtain ⟨D, hD, rfl, hw⟩ := hm d (List.mem_cons_self ..);have ho : ∀ j, j ≠ D → (w.putObj D (.deferred none)).heap[j]? = w.heap[j]? := fun j hj => World.putObj_heap_other hj
  refine ⟨by simp, .inl ⟨D, _, rfl, run_takeDeferred hw, QAF (n0 := n0) hZ ds _ (fun d' hd' => ?_) (List.nodup_cons.1 hd).2 (hZ _ _ hz hD hw) fun w' ht => h w' ?_⟩⟩
  ·obtain ⟨D', h1, rfl, h3⟩ := hm d' (List.mem_cons_of_mem _ hd')
   refine ⟨D', h1, rfl, (ho D' fun e => ?_).trans h3⟩
   subst e
   exact (List.nodup_cons.1 hd).1 hd'
  ·have hk : Kp n0 [] w (w.putObj D (.deferred none)) := Kp.putObj _ hD hw rfl
   refine ⟨⟨hk.below.trans ht.took.below, ht.took.size.trans (by simp), fun g T cs hg => ht.took.blk g T cs (hk.blk g T cs hg rfl)⟩, fun j o hj hn => ht.keep j o ((ho j fun e => ?_).trans hj) hn⟩
   subst e;rw [hw] at hj
   injection hj with hj
   exact hn _ hj.symm
section
variable {P : Program} {n : Nat} {ds : List Deferred} {σ : Sg} {w : World}
theorem EXI.doneZ {fn : Func} {R : Ending → World → Prop} {n0 : Nat} {v : Value} {Z : World → Prop} (hm : YA n0 ds w) (hd : ds.Nodup) (hz : Z w) (hZ : ∀ A D, Z A → n0 ≤ D → A.heap[D]? = some (.deferred (some [])) → Z (A.putObj D (.deferred none))) (hr : ∀ w', TookO n0 w w' → ∀ a, Env n σ a → (results fn a.tmps).run P w' = .ok v w') (h : ∀ w', TookO n0 w w' → Z w' → R (.returned v) w') : EXI n ds (bodyPostM Fence.wide 0 P fn R) .ret σ w := fun a ha => by
 show LeavesInM Fence.wide 0 P fn a.tmps R a.defers .returning w
 rw [ha.ds]
 exact QAF hZ ds w hm hd hz fun w' ht hz' => ⟨v, hr w' ht ⟨a.tmps, []⟩ ha.env, h w' ht hz'⟩
theorem EXI.doneZN {fn : Func} {R : Ending → World → Prop} {n0 : Nat} {v : Value} {Z : World → Prop} (hm : YA n0 ds w) (hd : ds.Nodup) (hz : Z w) (hZ : ∀ A D, Z A → n0 ≤ D → A.heap[D]? = some (.deferred (some [])) → Z (A.putObj D (.deferred none))) (hr : ∀ w', TookO n0 w w' → ∀ a, Env n σ a → (results fn a.tmps).run P w' = .ok v w') (h : ∀ w', TookO n0 w w' → Z w' → R (.returned v) w') : EXI n ds (bodyPostM Fence.wide 0 P fn R) .normal σ w := fun a ha => by
 show LeavesInM Fence.wide 0 P fn a.tmps R a.defers .returning w
 rw [ha.ds]
 exact QAF hZ ds w hm hd hz fun w' ht hz' => ⟨v, hr w' ht ⟨a.tmps, []⟩ ha.env, h w' ht hz'⟩
end
section
variable {P : Program} {n : Nat} {L : List Oper} {Q : Exit → Act → World → Prop} {cls : List (List Nat)} {alc : List Nat} {w1 : World} {Φ : Nat → (Nat → Value) → World → Prop} {i j t : Nat} {b : Bool} {val : Nat → Value} {a : Act} {σ : Sg}
theorem QG6 {o : Oper} {v : Value} {w' : World} (ha : Env n σ a) (ho : nthO L i = some o) (hg : o.guard = some (j, b)) (hj : ZQ L j = some t) (ht : σ t = some (.bool b)) (hr : (execOp a.eval o).run P w1 = .ok (.value v) w') (hb : Below w1.heap.size w1 w') (hΦ : Φ i (res (upd val i v) i (clsAt cls i)) w') (halc : i ∈ alc → v = .pointer (some ⟨w1.heap.size, 0, none⟩) ∧ w1.heap.size < w'.heap.size) :
  wpOp P L.toArray Q i (HK L cls alc Φ i val a w1) a w1 := by
 obtain ⟨h1, h2⟩ := opL ho
 unfold wpOp
 simp only [h1]
 rw [if_pos (by simp [Region.wanted, hg, Ym ha hj ht])]
 left
 unfold Oper.wp
 rw [hr]
 exact ⟨v, by rw [h2], hb, hΦ, halc⟩
theorem Zz {o : Oper} {v : Value} (ha : Env n σ a) (ho : nthO L i = some o) (hg : o.guard = some (j, b)) (hj : ZQ L j = some t) (ht : σ t = some (.bool b)) (hr : ZE P n σ w1 o v) (hΦ : Φ i (res (upd val i v) i (clsAt cls i)) w1) (halc : memB alc i = false) : wpOp P L.toArray Q i (HK L cls alc Φ i val a w1) a w1 :=
 QG6 ha ho hg hj ht (hr a ha) ⟨rfl, rfl, rfl, Nat.le_refl _, fun _ _ => rfl⟩ hΦ fun h => by rw [ZA.2 h] at halc; cases halc
theorem QFa {o : Oper} {m c : Nat} {cs : Array Value} {T : TypeId} (ha : Env n σ a) (ho : nthO L i = some o) (hg : o.guard = some (j, b)) (hj : ZQ L j = some t) (ht : σ t = some (.bool b)) (hr : ∀ a, Env n σ a → (execOp a.eval o).run P w1 = .ok (.value (.slice (some ⟨w1.heap.size, 0, none⟩) m c)) (w1.alloc (.cells cs T))) (halc : memB alc i = false)
  (hΦ : ∀ g w', Blk w' g T cs → Below w1.heap.size w1 w' → w1.heap.size ≤ g → Φ i (res (upd val i (.slice (some ⟨g, 0, none⟩) m c)) i (clsAt cls i)) w') : wpOp P L.toArray Q i (HK L cls alc Φ i val a w1) a w1 :=
 QG6 ha ho hg hj ht (hr a ha) ((Below.refl _ _).alloc (Nat.le_refl _) _) (hΦ _ _ (Blk.new w1 T cs) ((Below.refl _ _).alloc (Nat.le_refl _) _) (Nat.le_refl _)) fun h => by rw [ZA.2 h] at halc; cases halc
theorem QFb {o : Oper} {f : FuncId} {args : Array Value} {R : Ending → World → Prop} (ha : Env n σ a) (ho : nthO L i = some o) (hg : o.guard = some (j, b)) (hj : ZQ L j = some t) (ht : σ t = some (.bool b)) (hr : ∀ a, Env n σ a → (execOp a.eval o).run P w1 = .ok (.enter f args) w1) (hc : Calls P f args w1 R)
  (halc : memB alc i = false) (hΦ : ∀ e w', R e w' → ∃ v, e = .returned v ∧ Below w1.heap.size w1 w' ∧ Φ i (res (upd val i v) i (clsAt cls i)) w') : wpOp P L.toArray Q i (HK L cls alc Φ i val a w1) a w1 := by
 obtain ⟨h1, h2⟩ := opL ho
 unfold wpOp
 simp only [h1]
 rw [if_pos (by simp [Region.wanted, hg, Ym ha hj ht])]
 left
 unfold Oper.wp
 rw [hr a ha, Oper.upon_enter];refine hc.mono fun e w' he => ?_
 obtain ⟨v, rfl, hb, hp⟩ := hΦ e w' he
 exact ⟨v, by rw [h2], hb, hp, fun h => by rw [ZA.2 h] at halc; cases halc⟩
theorem Yb {o : Oper} {u : Value} (ha : Env n σ a) (ho : nthO L i = some o) (hg : o.guard = some (j, b)) (hj : ZQ L j = some t) (ht : σ t = some u) (hb : QAz b u = false) (hΦ : Φ i (res (upd val i undef) i (clsAt cls i)) w1) (halc : memB alc i = false) : wpOp P L.toArray Q i (HK L cls alc Φ i val a w1) a w1 := by
 obtain ⟨h1, h2⟩ := opL ho;have hw : Region.wanted o (yielded L.toArray a.tmps) = false := by
  simp only [Region.wanted, hg, Ym ha hj ht]
  cases u <;> first | rfl | (simp only [QAz] at hb; simpa using hb)
 unfold wpOp
 simp only [h1]
 rw [hw, if_neg (by simp)]
 exact ⟨undef, by rw [h2], ⟨rfl, rfl, rfl, Nat.le_refl _, fun _ _ => rfl⟩, hΦ, fun h => by rw [ZA.2 h] at halc; cases halc⟩
end
theorem Ye {α : Type} {l : List α} {d : α} {i : Nat} (hi : i < l.length) : l.getD i d = l[i] := by simp [List.getD, hi]
/-- a row of a table of volumes, a hold, a section, a hull -/
structure HRow where
 draft : Int
 vol : Int
def ZL : HRow := ⟨0, 0⟩
structure Hold where
 pos : Int
 lots : Int
def Z6 : Hold := ⟨0, 0⟩
structure Sec where
 len : Int
 light : Int
 trim : Int
 curve : List HRow
 holds : List Hold
def sec0 : Sec := ⟨0, 0, 0, [], []⟩
structure Hul where
 lot : Int
 secs : List Sec
def QCw (p x : HRow) : Bool := inB (p.draft + 1) 1000 x.draft && inB (p.vol + 1) 100000 x.vol
def YF (l : List HRow) (k : Nat) : Bool := (List.range k).all fun i => QCw (l.getD i ZL) (l.getD (i + 1) ZL)
def YI (l : List HRow) : Bool := inB 2 20 (l.length : Nat) && ((decide ((l.getD 0 ZL).draft = 0) && decide ((l.getD 0 ZL).vol = 0)) && YF l (l.length - 1))
def QDQ (m : Int) (x : Hold) : Bool := inB 0 m x.pos && inB 0 20 x.lots
def secB (s : Sec) : Bool := inB 1 100 s.len && (inB 0 10000 s.light && (inB 1 100000 s.trim && (YI s.curve && s.holds.all (QDQ s.len))))
def sumS (f : Sec → Int) (l : List Sec) : Int := (l.map f).sum
def YS (c : List HRow) : Int := (c.getD (c.length - 1) ZL).draft
def limS (l : List Sec) : Int := l.foldl (fun m s => min m (YS s.curve)) 1000
def YN (l : List Sec) : Int := sumS (fun s => (s.holds.length : Nat)) l
def hulB (h : Hul) : Bool := (inB 1 1000 h.lot && inB 1 6 (h.secs.length : Nat)) && (h.secs.all secB && (decide (sumS Sec.len h.secs ≤ 200) && decide (YN h.secs ≤ 4)))
/-- the moment of the sections, and the holds with their arms -/
def momS (long : Int) : Int → List Sec → Int
 | _, [] => 0
 | at_, s :: l => s.light * (2 * at_ + s.len - long) + momS long (at_ + s.len) l
def armH (long at_ : Int) (x : Hold) : Hold := ⟨2 * (at_ + x.pos) - long, x.lots⟩
def armsS (long : Int) : Int → List Sec → List Hold
 | _, [] => []
 | at_, s :: l => s.holds.map (armH long at_) ++ armsS long (at_ + s.len) l
def QAo (h : Hul) : Int := sumS Sec.len h.secs
def momH (h : Hul) : Int := momS (QAo h) 0 h.secs
def ZN (h : Hul) : List Hold := armsS (QAo h) 0 h.secs
def limH (h : Hul) : Int := limS h.secs
/-! ### The first number for which something is true -/
def fstN (p : Nat → Bool) : Nat → Nat
 | 0 => 0
 | n + 1 => if fstN p n < n then fstN p n else if p n = true then n else n + 1
theorem QBB (p : Nat → Bool) : ∀ n, fstN p n ≤ n
 | 0 => Nat.le_refl _
 | n + 1 => by
  have := QBB p n
  unfold fstN
  split
  ·omega
  ·split <;> omega
theorem fstN_is (p : Nat → Bool) : ∀ n, (∀ i, i < fstN p n → p i = false) ∧ (fstN p n < n → p (fstN p n) = true)
 | 0 => ⟨fun i hi => absurd hi (Nat.not_lt_zero _), fun h => absurd h (Nat.not_lt_zero _)⟩
 | n + 1 => by
  have ⟨h1, h2⟩ := fstN_is p n;have h3 := QBB p n
  unfold fstN
  split
  ·rename_i h4; exact ⟨h1, fun _ => h2 h4⟩
  ·rename_i h4
   have h5 : fstN p n = n := by omega
   split
   ·rename_i h6; exact ⟨fun i hi => h1 i (by omega), fun _ => h6⟩
   ·rename_i h6
    refine ⟨fun i hi => ?_, fun h => absurd h (Nat.lt_irrefl _)⟩
    by_cases h7 : i < n
    ·exact h1 i (by omega)
    ·rw [show i = n by omega]; simpa using h6
theorem QKB {p : Nat → Bool} {n r : Nat} (h1 : r ≤ n) (h2 : ∀ i, i < r → p i = false) (h3 : r < n → p r = true) : r = fstN p n := by
 have h4 := QBB p n;have ⟨h5, h6⟩ := fstN_is p n
 rcases Nat.lt_trichotomy r (fstN p n) with h | h | h
 ·have := h5 r h; rw [h3 (by omega)] at this; cases this
 ·exact h
 ·have := h2 _ h; rw [h6 (by omega)] at this; cases this
theorem QEi {p : Nat → Bool} {n i : Nat} (hi : i < n) (h : p i = true) : fstN p n ≤ i := by
 rcases Nat.lt_or_ge i (fstN p n) with h1 | h1
 ·have := (fstN_is p n).1 i h1; rw [h] at this; cases this
 ·exact h1
/-! ### Volumes -/
def atS (c : List HRow) (d : Int) : Nat := fstN (fun i => decide (d ≤ (c.getD (i + 1) ZL).draft)) (c.length - 1)
def volC (c : List HRow) (d : Int) : Int := (c.getD (atS c d) ZL).vol + (d - (c.getD (atS c d) ZL).draft) * ((c.getD (atS c d + 1) ZL).vol - (c.getD (atS c d) ZL).vol) / ((c.getD (atS c d + 1) ZL).draft - (c.getD (atS c d) ZL).draft)
def volH (h : Hul) (d : Int) : Int := sumS (fun s => volC s.curve d) h.secs
/-! ### Loads -/
def sumI (l : List Int) : Int := l.sum
def momL (lot : Int) : List Hold → List Int → Int
 | x :: xs, n :: l => n * lot * x.pos + momL lot xs l
 | _, _ => 0
def momT (h : Hul) (l : List Int) : Int := momH h + momL h.lot (ZN h) l
def absI (n : Int) : Int := max n (-n)
def QDD (h : Hul) (lots : Int) : Int := 1000 * (sumS Sec.light h.secs + h.lot * lots)
def QBH (h : Hul) (lots density : Int) : Int := (QDD h lots + density - 1) / density
def meanN (h : Hul) (lots density : Int) : Nat := fstN (fun d => decide (QBH h lots density ≤ volH h d)) (limH h + 1).toNat
def Zm (h : Hul) (l : List Int) : Int := (absI (momT h l) + 4 * sumS Sec.trim h.secs - 1) / (4 * sumS Sec.trim h.secs)
/-- how deep a hull lies -/
structure Flt where
 mean : Bd
 deep : Bd
 head : Int
def flt0 : Flt := ⟨bd0, bd0, 0⟩
def Yt (m : Int) : Int := if m < 0 then -1 else if 0 < m then 1 else 0
def fltT (h : Hul) (l : List Int) (d : Bd) : Flt := ⟨⟨meanN h (sumI l) d.hi, meanN h (sumI l) d.lo⟩, ⟨meanN h (sumI l) d.hi + Zm h l, meanN h (sumI l) d.lo + Zm h l⟩, Yt (momT h l)⟩
def Yf (h : Hul) (l : List Int) (d : Bd) : Bool := decide ((fltT h l d).deep.hi ≤ limH h)
/-- the error of a hull, a load, a density -/
def Z0 : List Hold → List Int → Bool
 | x :: xs, n :: l => inB 0 x.lots n && Z0 xs l
 | _, _ => true
def denB (d : Bd) : Bool := bdOk 900 1100 d
def Z8 (h : Hul) (l : List Int) (d : Bd) : Int := if hulB h = true then (if l.length = (ZN h).length then (if Z0 (ZN h) l = true then (if denB d = true then (if Yf h l d = true then 0 else 8) else 2) else 3) else 4) else 2
def YH (h : Hul) (l : List Int) (d : Bd) : Flt := if Z8 h l d = 0 then fltT h l d else flt0
/-! ### How they are read -/
def hrowC (r : HRow) : List Value := [.int .i64 r.draft, .int .i64 r.vol]
def hrowsC (l : List HRow) : List Value := l.flatMap hrowC
def holdC (x : Hold) : List Value := [.int .i64 x.pos, .int .i64 x.lots]
def holdsC (l : List Hold) : List Value := l.flatMap holdC
def secC (p : Sec × (Value × Value)) : List Value := [.int .i64 p.1.len, .int .i64 p.1.light, .int .i64 p.1.trim, p.2.1, p.2.2]
theorem QH0 (b : HRow) : (hrowC b).length = 2 := rfl
theorem QD8 (b : Hold) : (holdC b).length = 2 := rfl
theorem QC1 (p : Sec × (Value × Value)) : (secC p).length = 5 := rfl
theorem QGE (l : List HRow) : ∀ u ∈ hrowsC l, u.oneCell' = true := flat_one (by intro x u hu; simp [hrowC] at hu; rcases hu with rfl | rfl <;> rfl) l
theorem holdsC_one (l : List Hold) : ∀ u ∈ holdsC l, u.oneCell' = true := flat_one (by intro x u hu; simp [holdC] at hu; rcases hu with rfl | rfl <;> rfl) l
def uu : Value × Value := (undef, undef)
/-- a hull that is read: vs are the curves and the holds of its sections -/
structure RdSecs (w : World) (B : Nat) (v : Value) (l : List Sec) (vs : List (Value × Value)) : Prop where
 len : vs.length = l.length
 rd : Rd w B 5 v l.length ((l.zip vs).flatMap secC)
 curve : ∀ i, i < l.length → Rd w B 2 (vs.getD i uu).1 (l.getD i sec0).curve.length (hrowsC (l.getD i sec0).curve)
 holds : ∀ i, i < l.length → Rd w B 2 (vs.getD i uu).2 (l.getD i sec0).holds.length (holdsC (l.getD i sec0).holds)
section
variable {w w' : World} {B B' : Nat} {v : Value} {l : List Sec} {vs : List (Value × Value)}
theorem RdSecs.keep (h : RdSecs w B v l vs) (hk : ∀ p : Addr, p.block < B → w'.cell? p = w.cell? p) : RdSecs w' B v l vs := ⟨h.len, h.rd.keep hk, fun i hi => (h.curve i hi).keep hk, fun i hi => (h.holds i hi).keep hk⟩
theorem RdSecs.more (h : RdSecs w B v l vs) (hB : B ≤ B') : RdSecs w B' v l vs := ⟨h.len, h.rd.more hB, fun i hi => (h.curve i hi).more hB, fun i hi => (h.holds i hi).more hB⟩
theorem RdSecs.below (h : RdSecs w B v l vs) (hb : Below B w w') : RdSecs w' B v l vs := h.keep fun _ hp => hb.cell hp
theorem RdSecs.go (h : RdSecs w w.heap.size v l vs) (hb : Below w.heap.size w w') : RdSecs w' w'.heap.size v l vs := (h.below hb).more hb.size
theorem RdSecs.shape (h : RdSecs w B v l vs) : ∃ A c, v = .slice A l.length c := by
 obtain ⟨A, c, e, _⟩ := h.rd.shape
 exact ⟨A, c, e⟩
end
/-- the cells of one element of a list that is read -/
theorem Yi {α : Type} {f : α → List Value} {z : Nat} (hz : ∀ x, (f x).length = z) (h0 : 0 < z) (l : List α) (d : α) {k : Nat} (hk : k < l.length) {w : World} {B : Nat} {A : Option Addr} {n c : Nat} (hr : Rd w B z (.slice A n c) n (l.flatMap f)) :
  ∃ b off, A = some ⟨b, off, none⟩ ∧ b < B ∧ ∀ j u, (f (l.getD k d))[j]? = some u → w.cell? ⟨b, off + k * z + j, none⟩ = some u := by
 have hl : n * z = l.length * z := by rw [← hr.len, flat_len hz l]
 have hn : n = l.length := Nat.eq_of_mul_eq_mul_right h0 hl;obtain ⟨b, off, rfl, hb, hc⟩ := hr.at_ (by omega)
 refine ⟨b, off, rfl, hb, fun j u hu => ?_⟩
 rw [Ye hk] at hu;have hj : j < z := by
  have := (List.getElem?_eq_some_iff.1 hu).1;rw [hz] at this
  exact this
 have g := flat_get hz l k hk j hj;rw [hu] at g;have := hc (k * z + j) u g;rw [← Nat.add_assoc] at this
 exact this
structure HRowAt (w : World) (b o : Nat) (s : HRow) : Prop where
 c0 : w.cell? ⟨b, o, none⟩ = some (.int .i64 s.draft)
 c1 : w.cell? ⟨b, o + 1, none⟩ = some (.int .i64 s.vol)
theorem Z9 (l : List HRow) (k : Nat) (hk : k < l.length) (w : World) (B : Nat) (A : Option Addr) (n c : Nat) (hr : Rd w B 2 (.slice A n c) n (hrowsC l)) :
  ∃ b off, A = some ⟨b, off, none⟩ ∧ b < B ∧ HRowAt w b (off + k * 2) (l.getD k ZL) := by
 obtain ⟨b, off, h1, h2, h3⟩ := Yi QH0 (by omega) l ZL hk hr
 exact ⟨b, off, h1, h2, h3 0 _ rfl, h3 1 _ rfl⟩
structure HoldAt (w : World) (b o : Nat) (s : Hold) : Prop where
 c0 : w.cell? ⟨b, o, none⟩ = some (.int .i64 s.pos)
 c1 : w.cell? ⟨b, o + 1, none⟩ = some (.int .i64 s.lots)
theorem YV (l : List Hold) (k : Nat) (hk : k < l.length) (w : World) (B : Nat) (A : Option Addr) (n c : Nat) (hr : Rd w B 2 (.slice A n c) n (holdsC l)) :
  ∃ b off, A = some ⟨b, off, none⟩ ∧ b < B ∧ HoldAt w b (off + k * 2) (l.getD k Z6) := by
 obtain ⟨b, off, h1, h2, h3⟩ := Yi QD8 (by omega) l Z6 hk hr
 exact ⟨b, off, h1, h2, h3 0 _ rfl, h3 1 _ rfl⟩
structure SecAt (w : World) (b o : Nat) (s : Sec) (p : Value × Value) : Prop where
 c0 : w.cell? ⟨b, o, none⟩ = some (.int .i64 s.len)
 c1 : w.cell? ⟨b, o + 1, none⟩ = some (.int .i64 s.light)
 c2 : w.cell? ⟨b, o + 2, none⟩ = some (.int .i64 s.trim)
 c3 : w.cell? ⟨b, o + 3, none⟩ = some p.1
 c4 : w.cell? ⟨b, o + 4, none⟩ = some p.2
theorem RdSecs.cells {w : World} {B : Nat} {A : Option Addr} {n c : Nat} {l : List Sec} {vs : List (Value × Value)} (h : RdSecs w B (.slice A n c) l vs) (k : Nat) (hk : k < l.length) :
  ∃ b off, A = some ⟨b, off, none⟩ ∧ b < B ∧ SecAt w b (off + k * 5) (l.getD k sec0) (vs.getD k uu) := by
 have hz : (l.zip vs).length = l.length := by simp [h.len]
 obtain ⟨A', c', e, _⟩ := h.rd.shape
 injection e with e1 e2 e3
 subst e1; subst e2; subst e3;obtain ⟨b, off, h1, h2, h3⟩ := Yi QC1 (by omega) (l.zip vs) (sec0, uu) (hz ▸ hk) h.rd
 have e : (l.zip vs).getD k (sec0, uu) = (l.getD k sec0, vs.getD k uu) := by
  have hv : k < vs.length := by rw [h.len]; exact hk
  rw [Ye hk, Ye hv, Ye (show k < (l.zip vs).length by omega), List.getElem_zip]
 rw [e] at h3
 exact ⟨b, off, h1, h2, h3 0 _ rfl, h3 1 _ rfl, h3 2 _ rfl, h3 3 _ rfl, h3 4 _ rfl⟩
theorem Ys (l : List Int) (k : Nat) (hk : k < l.length) (w : World) (B : Nat) (A : Option Addr) (n c : Nat) (hr : Rd w B 1 (.slice A n c) n (ints l)) :
  ∃ b off, A = some ⟨b, off, none⟩ ∧ b < B ∧ w.cell? ⟨b, off + k, none⟩ = some (.int .i64 (l.getD k 0)) := by
 have hl : n * 1 = l.length := by rw [← hr.len, ints_len]
 obtain ⟨b, off, rfl, hb, hc⟩ := hr.at_ (by omega)
 have e : l.getD k 0 = l[k] := by simp [hk]
 rw [e]
 exact ⟨b, off, rfl, hb, hc k _ (by simp [ints, hk])⟩
theorem QCK (l : List HRow) (k : Nat) : YF l (k + 1) = (YF l k && QCw (l.getD k ZL) (l.getD (k + 1) ZL)) := by
 unfold YF
 rw [List.range_succ, List.all_append]
 simp
theorem QE_ {l : List HRow} {n : Nat} (h : YF l n = true) {k : Nat} (hk : k < n) : QCw (l.getD k ZL) (l.getD (k + 1) ZL) = true := by
 unfold YF at h
 exact List.all_eq_true.1 h k (List.mem_range.2 hk)
theorem QIR {l : List HRow} {n k : Nat} (hk : k < n) (h : QCw (l.getD k ZL) (l.getD (k + 1) ZL) = false) : YF l n = false := by
 cases h1 : YF l n with
 | false => rfl
 | true => rw [QE_ h1 hk] at h; cases h
theorem QF0 {l : List HRow} {n k : Nat} (h : YF l n = true) (hk : k ≤ n) : YF l k = true := by
 unfold YF at h ⊢
 exact List.all_eq_true.2 fun i hi => List.all_eq_true.1 h i (List.mem_range.2 (by have := List.mem_range.1 hi; omega))
theorem QCv {l : List HRow} (h0 : (l.getD 0 ZL).draft = 0) (h1 : (l.getD 0 ZL).vol = 0) : ∀ k, YF l k = true → (0 ≤ (l.getD k ZL).draft ∧ (l.getD k ZL).draft ≤ 1000) ∧ 0 ≤ (l.getD k ZL).vol ∧ (l.getD k ZL).vol ≤ 100000
 | 0, _ => by rw [h0, h1]; omega
 | k + 1, h => by
  rw [QCK, Bool.and_eq_true] at h;have h2 := QCv h0 h1 k h.1;have h3 := h.2
  simp only [QCw, Bool.and_eq_true, inB_iff] at h3
  omega
/-- what a valid table is -/
structure CurveOk (c : List HRow) : Prop where
 len : 2 ≤ c.length ∧ c.length ≤ 20
 d0 : (c.getD 0 ZL).draft = 0
 v0 : (c.getD 0 ZL).vol = 0
 steps : YF c (c.length - 1) = true
theorem QCH {c : List HRow} (h : YI c = true) : CurveOk c := by
 simp only [YI, Bool.and_eq_true, inB_iff, decide_eq_true_eq] at h
 exact ⟨by omega, h.2.1.1, h.2.1.2, h.2.2⟩
theorem CurveOk.bd {c : List HRow} (h : CurveOk c) {k : Nat} (hk : k < c.length) : (0 ≤ (c.getD k ZL).draft ∧ (c.getD k ZL).draft ≤ 1000) ∧ 0 ≤ (c.getD k ZL).vol ∧ (c.getD k ZL).vol ≤ 100000 :=
 QCv h.d0 h.v0 k (QF0 h.steps (by omega))
theorem CurveOk.up {c : List HRow} (h : CurveOk c) {k : Nat} (hk : k + 1 < c.length) : (c.getD k ZL).draft < (c.getD (k + 1) ZL).draft ∧ (c.getD k ZL).vol < (c.getD (k + 1) ZL).vol := by
 have h1 := QE_ h.steps (k := k) (by omega)
 simp only [QCw, Bool.and_eq_true, inB_iff] at h1
 omega
theorem CurveOk.mono {c : List HRow} (h : CurveOk c) {i : Nat} : ∀ {j : Nat}, i ≤ j → j < c.length → (c.getD i ZL).draft ≤ (c.getD j ZL).draft ∧ (c.getD i ZL).vol ≤ (c.getD j ZL).vol
 | 0, h1, _ => by rw [show i = 0 by omega]; omega
 | j + 1, h1, h2 => by
  by_cases e : i = j + 1
  ·rw [e]; omega
  ·have h3 := h.mono (i := i) (j := j) (by omega) (by omega)
   have h4 := h.up h2
   omega
/-- where a draft lies in a table -/
theorem CurveOk.at_ {c : List HRow} (h : CurveOk c) {d : Int} (h0 : 0 ≤ d) (h1 : d ≤ YS c) : atS c d + 1 < c.length ∧ d ≤ (c.getD (atS c d + 1) ZL).draft ∧ (c.getD (atS c d) ZL).draft ≤ d := by
 have h2 := h.len;have h3 : atS c d ≤ c.length - 2 := by
  unfold atS
  exact QEi (by omega) (decide_eq_true (by unfold YS at h1; rw [show c.length - 2 + 1 = c.length - 1 by omega]; exact h1))
 have ⟨h4, h5⟩ := fstN_is (fun i => decide (d ≤ (c.getD (i + 1) ZL).draft)) (c.length - 1)
 refine ⟨by omega, ?_, ?_⟩
 ·have := h5 (show atS c d < _ by omega)
  exact of_decide_eq_true this
 ·by_cases e : atS c d = 0
  ·rw [e, h.d0]; exact h0
  ·have := h4 (atS c d - 1) (show _ < atS c d by omega)
   have := of_decide_eq_false this;rw [show atS c d - 1 + 1 = atS c d by omega] at this
   omega
theorem Z5 {α : Type} {l : List α} {d : α} {i : Nat} (hi : i < l.length) : l.take (i + 1) = l.take i ++ [l.getD i d] := by
 rw [List.take_succ_eq_append_getElem hi, Ye hi]
theorem QCu (f : Sec → Int) (l r : List Sec) : sumS f (l ++ r) = sumS f l + sumS f r := by simp [sumS, List.sum_append]
theorem QIP (f : Sec → Int) (s : Sec) : sumS f [s] = f s := by simp [sumS]
theorem YT (f : Sec → Int) {l : List Sec} {i : Nat} (hi : i < l.length) : sumS f (l.take (i + 1)) = sumS f (l.take i) + f (l.getD i sec0) := by
 rw [Z5 (d := sec0) hi, QCu, QIP]
theorem YU (f : Sec → Int) (s : Sec) (l : List Sec) : sumS f (s :: l) = f s + sumS f l := by simp [sumS]
theorem QAB {f : Sec → Int} {lo hi : Int} : ∀ {l : List Sec}, (∀ s ∈ l, lo ≤ f s ∧ f s ≤ hi) → lo * (l.length : Nat) ≤ sumS f l ∧ sumS f l ≤ hi * (l.length : Nat)
 | [], _ => by simp [sumS]
 | s :: l, h => by
  have h1 := h s (by simp)
  have h2 := QAB (l := l) fun x hx => h x (by simp [hx])
  rw [YU, List.length_cons, Int.natCast_add, Int.mul_add, Int.mul_add]
  simp only [Int.natCast_one, Int.mul_one] at *
  omega
theorem QHt {l : List Sec} {i : Nat} (hi : i < l.length) : limS (l.take (i + 1)) = min (limS (l.take i)) (YS (l.getD i sec0).curve) := by
 rw [Z5 (d := sec0) hi, limS, List.foldl_append]
 rfl
theorem QFL (long : Int) : ∀ (l r : List Sec) (a : Int), momS long a (l ++ r) = momS long a l + momS long (a + sumS Sec.len l) r
 | [], r, a => by simp [momS, sumS]
 | s :: l, r, a => by rw [List.cons_append, momS, QFL long l r, momS, YU, Int.add_assoc a, Int.add_assoc]
theorem QHk (long : Int) {l : List Sec} {i : Nat} (hi : i < l.length) : momS long 0 (l.take (i + 1)) = momS long 0 (l.take i) + (l.getD i sec0).light * (2 * sumS Sec.len (l.take i) + (l.getD i sec0).len - long) := by
 rw [Z5 (d := sec0) hi, QFL]
 simp [momS]
theorem QED (long : Int) : ∀ (l r : List Sec) (a : Int), armsS long a (l ++ r) = armsS long a l ++ armsS long (a + sumS Sec.len l) r
 | [], r, a => by simp [armsS, sumS]
 | s :: l, r, a => by rw [List.cons_append, armsS, QED long l r, armsS, YU, Int.add_assoc a, List.append_assoc]
theorem QGS (long : Int) {l : List Sec} {i : Nat} (hi : i < l.length) : armsS long 0 (l.take (i + 1)) = armsS long 0 (l.take i) ++ (l.getD i sec0).holds.map (armH long (sumS Sec.len (l.take i))) := by
 rw [Z5 (d := sec0) hi, QED]
 simp [armsS]
theorem QBE (long : Int) : ∀ (l : List Sec) (a : Int), ((armsS long a l).length : Int) = YN l
 | [], _ => rfl
 | s :: l, a => by
  have := QBE long l (a + s.len)
  unfold YN at this ⊢
  rw [armsS, List.length_append, List.length_map, YU]
  omega
theorem QGA {l : List Sec} {i : Nat} : YN (l.take i) ≤ YN l := by
 have h : YN l = YN (l.take i) + YN (l.drop i) := by
  unfold YN
  rw [← QCu, List.take_append_drop]
 have h2 : 0 ≤ YN (l.drop i) := by
  have := (QAB (f := fun s => (s.holds.length : Nat)) (lo := 0) (hi := 9223372036854775807000) (l := []) (by simp)).1
  rw [← QBE 0 (l.drop i) 0]
  exact Int.natCast_nonneg _
 omega
/-- what a valid section is -/
structure SecOk (s : Sec) : Prop where
 len : 1 ≤ s.len ∧ s.len ≤ 100
 light : 0 ≤ s.light ∧ s.light ≤ 10000
 trim : 1 ≤ s.trim ∧ s.trim ≤ 100000
 curve : CurveOk s.curve
 holds : ∀ x ∈ s.holds, (0 ≤ x.pos ∧ x.pos ≤ s.len) ∧ 0 ≤ x.lots ∧ x.lots ≤ 20
theorem QF3 {s : Sec} (h : secB s = true) : SecOk s := by
 simp only [secB, Bool.and_eq_true, inB_iff] at h
 refine ⟨h.1, h.2.1, h.2.2.1, QCH h.2.2.2.1, fun x hx => ?_⟩
 have := List.all_eq_true.1 h.2.2.2.2 x hx
 simp only [QDQ, Bool.and_eq_true, inB_iff] at this
 exact this
theorem SecOk.last {s : Sec} (h : SecOk s) : 1 ≤ YS s.curve ∧ YS s.curve ≤ 1000 := by
 have h1 := h.curve.len;have h2 := h.curve.bd (k := s.curve.length - 1) (by omega)
 have h3 := h.curve.up (k := 0) (by omega)
 have h4 := h.curve.mono (i := 0 + 1) (j := s.curve.length - 1) (by omega) (by omega)
 have h5 := h.curve.d0
 unfold YS
 omega
structure SecsOk (l : List Sec) (n : Nat) : Prop where
 long : 0 ≤ sumS Sec.len l ∧ sumS Sec.len l ≤ 100 * n
 light : 0 ≤ sumS Sec.light l ∧ sumS Sec.light l ≤ 10000 * n
 trim : 0 ≤ sumS Sec.trim l ∧ sumS Sec.trim l ≤ 100000 * n
 lim : 1 ≤ limS l ∧ limS l ≤ 1000
theorem QAS {l : List Sec} {n : Nat} (h : ∀ s ∈ l, SecOk s) (hn : l.length ≤ n) : SecsOk l n := by
 have h1 := QAB (f := Sec.len) (lo := 0) (hi := 100) fun s hs => by have := (h s hs).len; omega
 have h2 := QAB (f := Sec.light) (lo := 0) (hi := 10000) fun s hs => by have := (h s hs).light; omega
 have h3 := QAB (f := Sec.trim) (lo := 0) (hi := 100000) fun s hs => by have := (h s hs).trim; omega
 refine ⟨by omega, by omega, by omega, ?_⟩
 have key : ∀ (l : List Sec) (m : Int), (∀ s ∈ l, SecOk s) → 1 ≤ m → m ≤ 1000 → 1 ≤ l.foldl (fun m s => min m (YS s.curve)) m ∧ l.foldl (fun m s => min m (YS s.curve)) m ≤ 1000 := by
  intro l
  induction l with
  | nil => intro m _ h1 h2; exact ⟨h1, h2⟩
  | cons s l ih =>
   intro m hs h1 h2;have := (hs s (by simp)).last
   rw [List.foldl_cons]
   exact ih _ (fun x hx => hs x (by simp [hx])) (by omega) (by omega)
 exact key l 1000 h (by omega) (by omega)
theorem QEa {l : List Sec} : ∀ s ∈ l, limS l ≤ YS s.curve := by
 have key : ∀ (l : List Sec) (m : Int), l.foldl (fun m s => min m (YS s.curve)) m ≤ m ∧ ∀ s ∈ l, l.foldl (fun m s => min m (YS s.curve)) m ≤ YS s.curve := by
  intro l
  induction l with
  | nil => intro m; exact ⟨Int.le_refl _, by simp⟩
  | cons s l ih =>
   intro m;rw [List.foldl_cons];have h := ih (min m (YS s.curve));refine ⟨by omega, fun x hx => ?_⟩
   rcases List.mem_cons.1 hx with rfl | hx
   ·omega
   ·exact h.2 x hx
 exact (key l 1000).2
theorem QEh {a b A B : Int} (h1 : 0 ≤ a) (h2 : a ≤ A) (h3 : -B ≤ b) (h4 : b ≤ B) : -(A * B) ≤ a * b ∧ a * b ≤ A * B := by
 have hA : 0 ≤ A := by omega
 have hB : 0 ≤ B := by omega
 constructor
 ·have k1 : a * (-B) ≤ a * b := Int.mul_le_mul_of_nonneg_left h3 h1
  have k2 : a * B ≤ A * B := Int.mul_le_mul_of_nonneg_right h2 hB;rw [Int.mul_neg] at k1
  omega
 ·have k1 : a * b ≤ a * B := Int.mul_le_mul_of_nonneg_left h4 h1
  have k2 : a * B ≤ A * B := Int.mul_le_mul_of_nonneg_right h2 hB
  omega
theorem QEU {long : Int} (hl : 0 ≤ long ∧ long ≤ 200) : ∀ (l : List Sec) (a : Int), (∀ s ∈ l, SecOk s) → 0 ≤ a → a + sumS Sec.len l ≤ 200 → -(7000000 * (l.length : Nat)) ≤ momS long a l ∧ momS long a l ≤ 7000000 * (l.length : Nat)
 | [], _, _, _, _ => by simp [momS]
 | s :: l, a, h, ha, hs => by
  have h1 := h s (by simp)
  have h2 := (QAS (n := l.length) (fun x hx => h x (List.mem_cons_of_mem _ hx)) (Nat.le_refl _)).long
  rw [YU] at hs;have h3 := QEU hl l (a + s.len) (fun x hx => h x (List.mem_cons_of_mem _ hx)) (by have := h1.len; omega) (by omega)
  have h4 := QEh (a := s.light) (A := 10000) (b := 2 * a + s.len - long) (B := 700) h1.light.1 h1.light.2 (by have := h1.len; omega) (by have := h1.len; omega)
  rw [momS, List.length_cons, Int.natCast_add, Int.mul_add]
  simp only [Int.natCast_one, Int.mul_one] at *
  omega
/-- what a valid hull is -/
structure HulOk (h : Hul) : Prop where
 lot : 1 ≤ h.lot ∧ h.lot ≤ 1000
 some : 1 ≤ h.secs.length ∧ h.secs.length ≤ 6
 secs : ∀ s ∈ h.secs, SecOk s
 long : sumS Sec.len h.secs ≤ 200
 many : YN h.secs ≤ 4
theorem QBS {h : Hul} (hh : hulB h = true) : HulOk h := by
 simp only [hulB, Bool.and_eq_true, inB_iff, decide_eq_true_eq] at hh
 exact ⟨hh.1.1, by omega, fun s hs => QF3 (List.all_eq_true.1 hh.2.1 s hs), hh.2.2.1, hh.2.2.2⟩
theorem QBl {h : Hul} : inB 1 1000 h.lot = false ∨ inB 1 6 (h.secs.length : Nat) = false ∨ h.secs.all secB = false ∨ 200 < sumS Sec.len h.secs ∨ 4 < YN h.secs → hulB h = false := fun hh => by
 unfold hulB
 rcases hh with e | e | e | e | e
 ·rw [e]; rfl
 ·rw [e, Bool.and_false]; rfl
 ·rw [e]; simp
 ·rw [decide_eq_false (by omega : ¬ sumS Sec.len h.secs ≤ 200)]; simp
 ·rw [decide_eq_false (by omega : ¬ YN h.secs ≤ 4)]; simp
theorem QGF (l r : List Hold) : holdsC (l ++ r) = holdsC l ++ holdsC r := by simp [holdsC]
theorem QKd {l : List Sec} {i : Nat} (hi : i < l.length) (h : secB (l.getD i sec0) = false) : l.all secB = false := by
 cases e : l.all secB with
 | false => rfl
 | true => rw [List.all_eq_true.1 e _ (getD_mem hi)] at h; cases h
/-- the cells of a ship -/
def QGe (h : Hul) (v hv : Value) : Array Value := #[.int .i64 h.lot, v, hv, .int .i64 (sumS Sec.len h.secs), .int .i64 (sumS Sec.light h.secs), .int .i64 (momS (sumS Sec.len h.secs) 0 h.secs), .int .i64 (sumS Sec.trim h.secs), .int .i64 (limS h.secs)]
/-- sections whose tables and holds are not too many -/
def Zl (l : List Sec) : Prop := ∀ s ∈ l, s.curve.length ≤ 1048576 ∧ s.holds.length ≤ 1048576
theorem QFN {l : List Sec} (h : Zl l) (k : Nat) (hk : l.length ≤ 6) : 0 ≤ YN (l.take k) ∧ YN (l.take k) ≤ 6291456 := by
 have h1 := QAB (f := fun s => ((s.holds.length : Nat) : Int)) (lo := 0) (hi := 1048576) (l := l.take k) fun s hs => by have := h s (List.mem_of_mem_take hs); omega
 have h2 : (l.take k).length ≤ 6 := by rw [List.length_take]; omega
 unfold YN
 omega
theorem QJh {l : List Sec} {k : Nat} (hk : k < l.length) : (l.take (k + 1)).all secB = ((l.take k).all secB && secB (l.getD k sec0)) := by
 rw [Z5 (d := sec0) hk, List.all_append]
 simp
theorem QJu {l : List Sec} (h : l.all secB = true) : ∀ s ∈ l, SecOk s := fun s hs => QF3 (List.all_eq_true.1 h s hs)
theorem QHT {h : Hul} (hh : HulOk h) {k : Nat} (hk : k < h.secs.length) : sumS Sec.len (h.secs.take k) + (h.secs.getD k sec0).len ≤ sumS Sec.len h.secs := by
 have h1 : sumS Sec.len h.secs = sumS Sec.len (h.secs.take (k + 1)) + sumS Sec.len (h.secs.drop (k + 1)) := by rw [← QCu, List.take_append_drop]
 have h2 := (QAS (n := (h.secs.drop (k + 1)).length) (l := h.secs.drop (k + 1)) (fun s hs => hh.secs s (List.mem_of_mem_drop hs)) (Nat.le_refl _)).long
 rw [YT Sec.len hk] at h1
 omega
theorem QJf (long at_ : Int) (xs : List Hold) {l : List Hold} {j : Nat} (hj : j < l.length) : xs ++ (l.take (j + 1)).map (armH long at_) = xs ++ (l.take j).map (armH long at_) ++ [armH long at_ (l.getD j Z6)] := by
 rw [Z5 (d := Z6) hj, List.map_append, List.append_assoc]
 rfl
theorem QJe {h : Hul} (hh : HulOk h) {long at_ : Int} {k j : Nat} (hk : k < h.secs.length) : (armsS long 0 (h.secs.take k) ++ ((h.secs.getD k sec0).holds.take j).map (armH long at_)).length ≤ 4 := by
 have h1 := QBE long (h.secs.take k) 0;have h2 := QGA (l := h.secs) (i := k + 1);have h3 := hh.many;have h4 : YN (h.secs.take (k + 1)) = YN (h.secs.take k) + ((h.secs.getD k sec0).holds.length : Nat) := YT (fun s => ((s.holds.length : Nat) : Int)) hk
 rw [List.length_append, List.length_map, List.length_take]
 omega
theorem QCj {n m k : Int} (hm : 0 < m) (h : n ≤ k * m) : n / m ≤ k := by
 have h1 := Int.ediv_le_ediv hm h
 rwa [Int.mul_ediv_cancel _ (by omega)] at h1
/-- a volume within one step of a table -/
def segV (a b : HRow) (d : Int) : Int := a.vol + (d - a.draft) * (b.vol - a.vol) / (b.draft - a.draft)
theorem QCd {a b : HRow} {d : Int} (h1 : a.draft < b.draft) (h2 : a.vol < b.vol) (h3 : a.draft ≤ d) (h4 : d ≤ b.draft) : a.vol ≤ segV a b d ∧ segV a b d ≤ b.vol := by
 unfold segV
 have h5 : 0 ≤ (d - a.draft) * (b.vol - a.vol) := Int.mul_nonneg (by omega) (by omega)
 have h6 : 0 ≤ (d - a.draft) * (b.vol - a.vol) / (b.draft - a.draft) := Int.ediv_nonneg h5 (by omega)
 have h7 : (d - a.draft) * (b.vol - a.vol) / (b.draft - a.draft) ≤ b.vol - a.vol := by
  refine QCj (by omega) ?_
  rw [Int.mul_comm (b.vol - a.vol)]
  exact Int.mul_le_mul_of_nonneg_right (by omega) (by omega)
 omega
theorem QHU {a b : HRow} {d d' : Int} (h1 : a.draft < b.draft) (h2 : a.vol < b.vol) (h3 : d ≤ d') : segV a b d ≤ segV a b d' := by
 unfold segV
 have h4 : (d - a.draft) * (b.vol - a.vol) ≤ (d' - a.draft) * (b.vol - a.vol) := Int.mul_le_mul_of_nonneg_right (by omega) (by omega)
 have h5 := Int.ediv_le_ediv (show 0 < b.draft - a.draft by omega) h4
 omega
theorem QCr (c : List HRow) (d : Int) : volC c d = segV (c.getD (atS c d) ZL) (c.getD (atS c d + 1) ZL) d := rfl
theorem QJd {c : List HRow} (h : CurveOk c) {d d' : Int} (h0 : 0 ≤ d) (h1 : d ≤ d') (h2 : d' ≤ YS c) : atS c d ≤ atS c d' := by
 have h3 := h.at_ (d := d') (by omega) h2
 unfold atS at h3 ⊢
 exact QEi (by omega) (decide_eq_true (by omega))
theorem QHP {c : List HRow} (h : CurveOk c) {d d' : Int} (h0 : 0 ≤ d) (h1 : d ≤ d') (h2 : d' ≤ YS c) : volC c d ≤ volC c d' := by
 have h3 := h.at_ (d := d) h0 (by omega)
 have h4 := h.at_ (d := d') (by omega) h2
 have h5 := QJd h h0 h1 h2;have u1 := h.up h3.1;have u2 := h.up h4.1;rw [QCr, QCr]
 by_cases e : atS c d = atS c d'
 ·rw [e] at u1 ⊢
  exact QHU u1.1 u1.2 h1
 ·have b1 := (QCd u1.1 u1.2 h3.2.2 h3.2.1).2
  have b2 := (QCd u2.1 u2.2 h4.2.2 h4.2.1).1;have b3 := (h.mono (i := atS c d + 1) (j := atS c d') (by omega) (by omega)).2
  omega
theorem QEH {c : List HRow} (h : CurveOk c) {d : Int} (h0 : 0 ≤ d) (h2 : d ≤ YS c) : 0 ≤ volC c d ∧ volC c d ≤ 100000 := by
 have h3 := h.at_ (d := d) h0 h2;have u1 := h.up h3.1;have b1 := QCd u1.1 u1.2 h3.2.2 h3.2.1;have b2 := h.bd h3.1;have b3 := h.bd (k := atS c d) (by omega)
 rw [QCr]
 omega
/-- what is reckoned on the way -/
theorem QIK {c : List HRow} (h : CurveOk c) {d : Int} (h0 : 0 ≤ d) (h2 : d ≤ YS c) :
  (0 ≤ d - (c.getD (atS c d) ZL).draft ∧ d - (c.getD (atS c d) ZL).draft ≤ 1000) ∧
  (0 ≤ (c.getD (atS c d + 1) ZL).vol - (c.getD (atS c d) ZL).vol ∧ (c.getD (atS c d + 1) ZL).vol - (c.getD (atS c d) ZL).vol ≤ 100000) ∧
  (0 ≤ (d - (c.getD (atS c d) ZL).draft) * ((c.getD (atS c d + 1) ZL).vol - (c.getD (atS c d) ZL).vol) ∧ (d - (c.getD (atS c d) ZL).draft) * ((c.getD (atS c d + 1) ZL).vol - (c.getD (atS c d) ZL).vol) ≤ 1000 * 100000) ∧
  (1 ≤ (c.getD (atS c d + 1) ZL).draft - (c.getD (atS c d) ZL).draft ∧ (c.getD (atS c d + 1) ZL).draft - (c.getD (atS c d) ZL).draft ≤ 1000) := by
 have h3 := h.at_ (d := d) h0 h2;have u1 := h.up h3.1;have b2 := h.bd h3.1;have b3 := h.bd (k := atS c d) (by omega)
 have k1 : 0 ≤ d - (c.getD (atS c d) ZL).draft ∧ d - (c.getD (atS c d) ZL).draft ≤ 1000 := by omega
 have k2 : 0 ≤ (c.getD (atS c d + 1) ZL).vol - (c.getD (atS c d) ZL).vol ∧ (c.getD (atS c d + 1) ZL).vol - (c.getD (atS c d) ZL).vol ≤ 100000 := by omega
 exact ⟨k1, k2, ⟨Int.mul_nonneg k1.1 k2.1, Int.mul_le_mul k1.2 k2.2 k2.1 (by omega)⟩, by omega, by omega⟩
theorem QDy {f g : Sec → Int} : ∀ {l : List Sec}, (∀ s ∈ l, f s ≤ g s) → sumS f l ≤ sumS g l
 | [], _ => Int.le_refl _
 | s :: l, h => by
  have h1 := h s (by simp)
  have h2 := QDy (l := l) fun x hx => h x (by simp [hx])
  rw [YU, YU]
  omega
theorem HulOk.lim {h : Hul} (hh : HulOk h) : 1 ≤ limS h.secs ∧ limS h.secs ≤ 1000 := (QAS (n := 6) hh.secs hh.some.2).lim
theorem QHO {h : Hul} (hh : HulOk h) {d d' : Int} (h0 : 0 ≤ d) (h1 : d ≤ d') (h2 : d' ≤ limH h) : volH h d ≤ volH h d' :=
 QDy fun s hs => QHP (hh.secs s hs).curve h0 h1 (Int.le_trans h2 (QEa s hs))
theorem QHN {h : Hul} (hh : HulOk h) {d : Int} (h0 : 0 ≤ d) (h2 : d ≤ limH h) (k : Nat) : 0 ≤ sumS (fun s => volC s.curve d) (h.secs.take k) ∧ sumS (fun s => volC s.curve d) (h.secs.take k) ≤ 600000 := by
 have := QAB (f := fun s => volC s.curve d) (lo := 0) (hi := 100000) (l := h.secs.take k) fun s hs => QEH (hh.secs s (List.mem_of_mem_take hs)).curve h0 (Int.le_trans h2 (QEa s (List.mem_of_mem_take hs)))
 have h3 := hh.some.2;have h4 : (h.secs.take k).length ≤ 6 := by rw [List.length_take]; omega
 omega
/-! ### What is true from one number on -/
def UpB (p : Nat → Bool) (n : Nat) : Prop := ∀ i j, i ≤ j → j < n → p i = true → p j = true
theorem QIM {p : Nat → Bool} {n : Nat} (h : UpB p n) {i : Nat} (hi : i < n) : p i = true ↔ fstN p n ≤ i := by
 constructor
 ·exact QEi hi
 ·intro h1
  exact h _ i h1 hi ((fstN_is p n).2 (by omega))
theorem up_vol {h : Hul} (hh : HulOk h) (need : Int) : UpB (fun d => decide (need ≤ volH h d)) (limH h + 1).toNat := fun i j h1 h2 h3 => by
 have h4 := of_decide_eq_true h3;have h5 := QHO hh (d := i) (d' := j) (by omega) (by omega) (by omega)
 exact decide_eq_true (by omega)
theorem QLX {c : List HRow} (h : CurveOk c) (d : Int) : UpB (fun i => decide (d ≤ (c.getD (i + 1) ZL).draft)) (c.length - 1) := fun i j h1 h2 h3 => by
 have h4 := of_decide_eq_true h3;have h5 := (h.mono (i := i + 1) (j := j + 1) (by omega) (by omega)).1
 exact decide_eq_true (by omega)
structure Plate where
 thick : Bd
 wear : Bd
def Zd : Plate := ⟨bd0, bd0⟩
def Z3 (p : Plate) : Bool := bdOk 0 100000 p.thick && bdOk 0 1000 p.wear
def Zx (thick wear least : Int) : Int := if thick < least then -1 else if wear = 0 then 1000 else min ((thick - least) / wear) 1000
def yLo (least : Int) (p : Plate) : Int := Zx p.thick.lo p.wear.hi least
def yHi (least : Int) (p : Plate) : Int := Zx p.thick.hi p.wear.lo least
/-- the least numbers of years of the first k plates, and the first plate that has the lower one -/
structure LifeV where
 lo : Int
 hi : Int
 plate : Int
def Y5 (least : Int) (s : LifeV) (p : Plate) (k : Int) : LifeV := if yLo least p < s.lo then ⟨yLo least p, min s.hi (yHi least p), k⟩ else ⟨s.lo, min s.hi (yHi least p), s.plate⟩
def YO (b0 least : Int) (l : List Plate) : Nat → LifeV
 | 0 => ⟨b0, b0, 0⟩
 | k + 1 => Y5 least (YO b0 least l k) (l.getD k Zd) k
def QLl (l : List Plate) (least : Int) : LifeV := YO 1001 least l l.length
def Yr (l : List Plate) (least : Int) : Int := if l.length = 0 then 4 else if 50 < l.length then 5 else if l.all Z3 = false then 2 else if inB 0 100000 least = false then 3 else 0
theorem YW (t w m : Int) (hw : 0 ≤ w) : -1 ≤ Zx t w m ∧ Zx t w m ≤ 1000 := by
 unfold Zx
 by_cases h1 : t < m
 ·rw [if_pos h1]; omega
 ·rw [if_neg h1]
  by_cases h2 : w = 0
  ·rw [if_pos h2]; omega
  ·rw [if_neg h2]
   have : 0 ≤ (t - m) / w := Int.ediv_nonneg (by omega) (by omega)
   omega
/-- the number of years is where the count stops -/
theorem QCo {t w m y : Int} (hw : 0 ≤ w) (h1 : -1 ≤ y) (h2 : y ≤ 1000) (h3 : y = -1 ∨ m ≤ t - y * w) (h4 : y = 1000 ∨ t - (y + 1) * w < m) : Zx t w m = y := by
 unfold Zx
 by_cases e : y = -1
 ·subst e
  rcases h4 with h | h
  ·omega
  ·rw [show (-1 + 1 : Int) = 0 by omega, Int.zero_mul] at h
   rw [if_pos (by omega)]
 ·have h3 : m ≤ t - y * w := by rcases h3 with h | h; exact absurd h e; exact h
  have h5 : 0 ≤ y * w := Int.mul_nonneg (by omega) hw
  rw [if_neg (by omega)]
  by_cases e2 : w = 0
  ·subst e2
   rw [if_pos rfl]
   rcases h4 with h | h
   ·exact h.symm
   ·rw [Int.mul_zero] at h h3; omega
  ·rw [if_neg e2]
   have h6 : y ≤ (t - m) / w := (Int.le_ediv_iff_mul_le (by omega)).2 (by omega)
   rcases h4 with h | h
   ·omega
   ·have h7 : (t - m) / w < y + 1 := (Int.ediv_lt_iff_lt_mul (by omega)).2 (by omega)
    omega
theorem QCp {t t' w w' m : Int} (hw : 0 ≤ w') (h1 : t ≤ t') (h2 : w' ≤ w) : Zx t w m ≤ Zx t' w' m := by
 by_cases h3 : t < m
 ·have := (YW t' w' m hw).1
  have e : Zx t w m = -1 := by unfold Zx; rw [if_pos h3]
  omega
 ·by_cases e2 : w' = 0
  ·have e : Zx t' w' m = 1000 := by unfold Zx; rw [if_neg (by omega), if_pos e2]
   have := (YW t w m (by omega)).2
   omega
  ·have h4 : 0 < w' := by omega
   unfold Zx
   rw [if_neg h3, if_neg (by omega), if_neg (by omega), if_neg e2]
   have h5 : (t - m) / w ≤ (t' - m) / w' := by
    refine (Int.le_ediv_iff_mul_le h4).2 ?_;have h6 : (t - m) / w * w' ≤ (t - m) / w * w := Int.mul_le_mul_of_nonneg_left h2 (Int.ediv_nonneg (by omega) (by omega))
    have h7 : (t - m) / w * w ≤ t - m := Int.ediv_mul_le _ (by omega)
    omega
   omega
theorem QFS {b0 least : Int} {l : List Plate} (hb : 1000 < b0) (hl : ∀ p ∈ l, Z3 p = true) : ∀ k, k ≤ l.length → (-1 ≤ (YO b0 least l k).lo ∧ (YO b0 least l k).lo ≤ b0) ∧ (-1 ≤ (YO b0 least l k).hi ∧ (YO b0 least l k).hi ≤ b0) ∧ 0 ≤ (YO b0 least l k).plate ∧ (YO b0 least l k).plate ≤ k
 | 0, _ => ⟨⟨by show -1 ≤ b0; omega, Int.le_refl _⟩, ⟨by show -1 ≤ b0; omega, Int.le_refl _⟩, Int.le_refl _, Int.le_refl _⟩
 | k + 1, hk => by
  have h := QFS (least := least) hb hl k (by omega)
  have hp := hl _ (getD_mem (d := Zd) (show k < l.length by omega))
  simp only [Z3, bdOk, Bool.and_eq_true, inB_iff, decide_eq_true_eq] at hp
  have y1 := YW (l.getD k Zd).thick.lo (l.getD k Zd).wear.hi least (by omega)
  have y2 := YW (l.getD k Zd).thick.hi (l.getD k Zd).wear.lo least (by omega)
  rw [YO, Y5]
  unfold yLo yHi
  split <;> (simp only; omega)
theorem QAE {least : Int} {s : LifeV} {p : Plate} {k : Int} (h : yLo least p < s.lo) : Y5 least s p k = ⟨yLo least p, min s.hi (yHi least p), k⟩ := if_pos h
theorem QAq {least : Int} {s : LifeV} {p : Plate} {k : Int} (h : ¬ yLo least p < s.lo) : Y5 least s p k = ⟨s.lo, min s.hi (yHi least p), s.plate⟩ := if_neg h
theorem QGq {p : Plate} (h : Z3 p = true) (least : Int) : (-1 ≤ yLo least p ∧ yLo least p ≤ 1000) ∧ -1 ≤ yHi least p ∧ yHi least p ≤ 1000 := by
 simp only [Z3, bdOk, Bool.and_eq_true, inB_iff, decide_eq_true_eq] at h
 exact ⟨YW _ _ _ (by omega), YW _ _ _ (by omega)⟩
theorem QI6 {b0 least : Int} {l : List Plate} (h0 : 1000 < b0) (hl : ∀ p ∈ l, Z3 p = true) (hk : 0 < l.length) : YO b0 least l 1 = ⟨yLo least (l.getD 0 Zd), yHi least (l.getD 0 Zd), 0⟩ := by
 have hy := QGq (hl _ (getD_mem (d := Zd) hk)) least
 show Y5 least ⟨b0, b0, 0⟩ (l.getD 0 Zd) ((0 : Nat) : Int) = _
 rw [QAE (show yLo least (l.getD 0 Zd) < b0 by omega), Int.min_eq_right (show yHi least (l.getD 0 Zd) ≤ b0 by omega)]
 rfl
/-- what the lower number of years, its plate, and the upper one are -/
structure LifeIs (least : Int) (l : List Plate) (k : Nat) (s : LifeV) : Prop where
 plate : ∃ j : Nat, j < k ∧ s.plate = j ∧ yLo least (l.getD j Zd) = s.lo ∧ ∀ i, i < j → s.lo < yLo least (l.getD i Zd)
 lo : ∀ i, i < k → s.lo ≤ yLo least (l.getD i Zd)
 hi : ∀ i, i < k → s.hi ≤ yHi least (l.getD i Zd)
 hit : ∃ i, i < k ∧ s.hi = yHi least (l.getD i Zd)
theorem QEb {b0 least : Int} {l : List Plate} (h0 : 1000 < b0) (hl : ∀ p ∈ l, Z3 p = true) : ∀ k, k < l.length → LifeIs least l (k + 1) (YO b0 least l (k + 1))
 | 0, hk => by
  rw [QI6 h0 hl hk]
  exact ⟨⟨0, by omega, rfl, rfl, fun i hi => absurd hi (by omega)⟩, fun i hi => by rw [show i = 0 by omega]; exact Int.le_refl _, fun i hi => by rw [show i = 0 by omega]; exact Int.le_refl _, 0, by omega, rfl⟩
 | k + 1, hk => by
  have h := QEb (least := least) h0 hl k (by omega)
  obtain ⟨j, hj, hjp, hjl, hjf⟩ := h.plate;obtain ⟨t, ht, hth⟩ := h.hit
  show LifeIs least l (k + 1 + 1) (Y5 least (YO b0 least l (k + 1)) (l.getD (k + 1) Zd) ((k + 1 : Nat) : Int))
  by_cases hc : yLo least (l.getD (k + 1) Zd) < (YO b0 least l (k + 1)).lo
  ·rw [QAE hc]
   refine ⟨⟨k + 1, by omega, rfl, rfl, fun i hi => ?_⟩, fun i hi => ?_, fun i hi => ?_, ?_⟩
   ·have := h.lo i hi; simp only; omega
   ·by_cases e : i = k + 1
    ·rw [e]; exact Int.le_refl _
    ·have := h.lo i (by omega); simp only; omega
   ·by_cases e : i = k + 1
    ·rw [e]; exact Int.min_le_right _ _
    ·exact Int.le_trans (Int.min_le_left _ _) (h.hi i (by omega))
   ·by_cases e : (YO b0 least l (k + 1)).hi ≤ yHi least (l.getD (k + 1) Zd)
    ·exact ⟨t, by omega, by simp only; rw [Int.min_eq_left e]; exact hth⟩
    ·exact ⟨k + 1, by omega, by simp only; rw [Int.min_eq_right (by omega)]⟩
  ·rw [QAq hc]
   refine ⟨⟨j, by omega, hjp, hjl, hjf⟩, fun i hi => ?_, fun i hi => ?_, ?_⟩
   ·by_cases e : i = k + 1
    ·rw [e]; simp only; omega
    ·exact h.lo i (by omega)
   ·by_cases e : i = k + 1
    ·rw [e]; exact Int.min_le_right _ _
    ·exact Int.le_trans (Int.min_le_left _ _) (h.hi i (by omega))
   ·by_cases e : (YO b0 least l (k + 1)).hi ≤ yHi least (l.getD (k + 1) Zd)
    ·exact ⟨t, by omega, by simp only; rw [Int.min_eq_left e]; exact hth⟩
    ·exact ⟨k + 1, by omega, by simp only; rw [Int.min_eq_right (by omega)]⟩
/-! ### How they are read -/
def plateC (p : Plate) : List Value := [.int .i64 p.thick.lo, .int .i64 p.thick.hi, .int .i64 p.wear.lo, .int .i64 p.wear.hi]
def platesC (l : List Plate) : List Value := l.flatMap plateC
theorem QC3 (b : Plate) : (plateC b).length = 4 := rfl
theorem QAj (l : List Plate) : ∀ u ∈ platesC l, u.oneCell' = true := flat_one (by intro x u hu; simp [plateC] at hu; rcases hu with rfl | rfl | rfl | rfl <;> rfl) l
structure PlateAt (w : World) (b o : Nat) (s : Plate) : Prop where
 c0 : w.cell? ⟨b, o, none⟩ = some (.int .i64 s.thick.lo)
 c1 : w.cell? ⟨b, o + 1, none⟩ = some (.int .i64 s.thick.hi)
 c2 : w.cell? ⟨b, o + 2, none⟩ = some (.int .i64 s.wear.lo)
 c3 : w.cell? ⟨b, o + 3, none⟩ = some (.int .i64 s.wear.hi)
theorem Zv (l : List Plate) (k : Nat) (hk : k < l.length) (w : World) (B : Nat) (A : Option Addr) (n c : Nat) (hr : Rd w B 4 (.slice A n c) n (platesC l)) :
  ∃ b off, A = some ⟨b, off, none⟩ ∧ b < B ∧ PlateAt w b (off + k * 4) (l.getD k Zd) := by
 obtain ⟨b, off, h1, h2, h3⟩ := Yi QC3 (by omega) l Zd hk hr
 exact ⟨b, off, h1, h2, h3 0 _ rfl, h3 1 _ rfl, h3 2 _ rfl, h3 3 _ rfl⟩
/-- a ship in memory -/
structure RdShip (w : World) (B g : Nat) (h : Hul) (v hv : Value) (vs : List (Value × Value)) : Prop where
 box : Blk w g 125 (QGe h v hv)
 lt : g < B
 secs : RdSecs w B v h.secs vs
 holds : Rd w B 2 hv (ZN h).length (holdsC (ZN h))
section
variable {w w' : World} {B B' g : Nat} {h : Hul} {v hv : Value} {vs : List (Value × Value)}
theorem RdShip.below (hr : RdShip w B g h v hv vs) (hb : Below B w w') : RdShip w' B g h v hv vs := ⟨hr.box.below hb hr.lt, hr.lt, hr.secs.below hb, hr.holds.below hb⟩
theorem RdShip.more (hr : RdShip w B g h v hv vs) (hB : B ≤ B') : RdShip w B' g h v hv vs := ⟨hr.box, Nat.lt_of_lt_of_le hr.lt hB, hr.secs.more hB, hr.holds.more hB⟩
theorem RdShip.go (hr : RdShip w w.heap.size g h v hv vs) (hb : Below w.heap.size w w') : RdShip w' w'.heap.size g h v hv vs := (hr.below hb).more hb.size
theorem RdShip.c {j : Nat} {u : Value} (hr : RdShip w B g h v hv vs) (hj : (QGe h v hv)[j]? = some u) : w.cell? ⟨g, j, none⟩ = some u := (hr.box.cell j).trans hj
end
theorem QJg {long : Int} : ∀ (l : List Sec) (a : Int), (∀ s ∈ l, SecOk s) → 0 ≤ a → a + sumS Sec.len l ≤ long → ∀ x ∈ armsS long a l, (-long ≤ x.pos ∧ x.pos ≤ long) ∧ 0 ≤ x.lots ∧ x.lots ≤ 20
 | [], _, _, _, _, x, hx => by simp [armsS] at hx
 | s :: l, a, h, ha, hs, x, hx => by
  have h1 := h s (by simp)
  have h2 := (QAS (n := l.length) (fun x hx => h x (List.mem_cons_of_mem _ hx)) (Nat.le_refl _)).long
  rw [YU] at hs;have h3 := h1.len
  rcases List.mem_append.1 hx with hx | hx
  ·obtain ⟨y, hy, rfl⟩ := List.mem_map.1 hx
   have h4 := h1.holds y hy
   simp only [armH]
   omega
  ·exact QJg l (a + s.len) (fun x hx => h x (List.mem_cons_of_mem _ hx)) (by omega) (by omega) x hx
structure ArmsOk (xs : List Hold) : Prop where
 many : xs.length ≤ 4
 at_ : ∀ x ∈ xs, (-200 ≤ x.pos ∧ x.pos ≤ 200) ∧ 0 ≤ x.lots ∧ x.lots ≤ 20
theorem HulOk.arms {h : Hul} (hh : HulOk h) : ArmsOk (ZN h) := by
 have h1 := QBE (QAo h) h.secs 0;have h2 := hh.many;refine ⟨by unfold ZN; omega, fun x hx => ?_⟩
 have h3 := QJg (long := QAo h) h.secs 0 hh.secs (by omega) (by unfold QAo; omega) x hx
 have h4 := hh.long
 unfold QAo at h3
 omega
theorem HulOk.bds {h : Hul} (hh : HulOk h) : (0 ≤ QAo h ∧ QAo h ≤ 200) ∧ (0 ≤ sumS Sec.light h.secs ∧ sumS Sec.light h.secs ≤ 60000) ∧ (1 ≤ sumS Sec.trim h.secs ∧ sumS Sec.trim h.secs ≤ 600000) ∧ (-42000000 ≤ momH h ∧ momH h ≤ 42000000) := by
 have h1 := QAS (n := 6) hh.secs hh.some.2;have h2 := hh.long;have h3 := hh.some;have h4 := QEU (long := QAo h) ⟨h1.long.1, h2⟩ h.secs 0 hh.secs (by omega) (by omega)
 have h5 := (QAB (f := Sec.trim) (lo := 1) (hi := 100000) fun s hs => (hh.secs s hs).trim)
 have := h1.light;have := h1.long
 unfold momH QAo at *
 refine ⟨by omega, by omega, by omega, by omega⟩
/-! ### Loads -/
theorem QBP : ∀ (k : Nat) (xs : List Hold) (l : List Int), k < xs.length → k < l.length → Z0 (xs.take (k + 1)) (l.take (k + 1)) = (Z0 (xs.take k) (l.take k) && inB 0 (xs.getD k Z6).lots (l.getD k 0))
 | 0, x :: xs, n :: l, _, _ => by simp [Z0]
 | k + 1, x :: xs, n :: l, h1, h2 => by
  have := QBP k xs l (by simpa using h1) (by simpa using h2)
  simp only [List.take_succ_cons, Z0, List.getD_cons_succ] at this ⊢
  rw [this, Bool.and_assoc]
 | 0, [], _, h, _ => by simp at h
 | 0, _ :: _, [], _, h => by simp at h
 | _ + 1, [], _, h, _ => by simp at h
 | _ + 1, _ :: _, [], _, h => by simp at h
theorem QDJ : ∀ (k : Nat) (xs : List Hold) (l : List Int), Z0 xs l = true → Z0 (xs.take k) (l.take k) = true
 | 0, _, _, _ => by simp [Z0]
 | _ + 1, [], _, _ => by simp [Z0]
 | _ + 1, _ :: _, [], _ => by simp [Z0]
 | k + 1, x :: xs, n :: l, h => by
  simp only [Z0, Bool.and_eq_true, List.take_succ_cons] at h ⊢
  exact ⟨h.1, QDJ k xs l h.2⟩
theorem QFP {xs : List Hold} {l : List Int} {k : Nat} (h1 : k < xs.length) (h2 : k < l.length) (h : inB 0 (xs.getD k Z6).lots (l.getD k 0) = false) : Z0 xs l = false := by
 cases e : Z0 xs l with
 | false => rfl
 | true =>
  have h3 := QDJ (k + 1) xs l e;rw [QBP k xs l h1 h2, h, Bool.and_false] at h3
  cases h3
theorem QI1 {xs : List Hold} {l : List Int} {k : Nat} (h : Z0 xs l = true) (h1 : k < xs.length) (h2 : k < l.length) : 0 ≤ l.getD k 0 ∧ l.getD k 0 ≤ (xs.getD k Z6).lots := by
 cases e : inB 0 (xs.getD k Z6).lots (l.getD k 0) with
 | true => exact inB_iff.1 e
 | false => rw [QFP h1 h2 e] at h; cases h
theorem QB_ (lot : Int) : ∀ (k : Nat) (xs : List Hold) (l : List Int), k < xs.length → k < l.length → momL lot (xs.take (k + 1)) (l.take (k + 1)) = momL lot (xs.take k) (l.take k) + l.getD k 0 * lot * (xs.getD k Z6).pos
 | 0, x :: xs, n :: l, _, _ => by simp [momL]
 | k + 1, x :: xs, n :: l, h1, h2 => by
  have := QB_ lot k xs l (by simpa using h1) (by simpa using h2)
  simp only [List.take_succ_cons, momL, List.getD_cons_succ] at this ⊢
  rw [this, Int.add_assoc]
 | 0, [], _, h, _ => by simp at h
 | 0, _ :: _, [], _, h => by simp at h
 | _ + 1, [], _, h, _ => by simp at h
 | _ + 1, _ :: _, [], _, h => by simp at h
theorem QB4 {l : List Int} {k : Nat} (h : k < l.length) : sumI (l.take (k + 1)) = sumI (l.take k) + l.getD k 0 := by
 unfold sumI
 rw [Z5 (d := (0 : Int)) h, List.sum_append]
 simp
/-- a load that fits -/
structure LoadOk (xs : List Hold) (l : List Int) : Prop where
 arms : ArmsOk xs
 len : l.length = xs.length
 fits : Z0 xs l = true
theorem LoadOk.at_ {xs : List Hold} {l : List Int} (h : LoadOk xs l) {k : Nat} (hk : k < l.length) : (0 ≤ l.getD k 0 ∧ l.getD k 0 ≤ 20) ∧ (-200 ≤ (xs.getD k Z6).pos ∧ (xs.getD k Z6).pos ≤ 200) := by
 have h1 := QI1 h.fits (k := k) (by have := h.len; omega) hk
 have h2 := h.arms.at_ _ (getD_mem (d := Z6) (show k < xs.length by have := h.len; omega))
 omega
theorem LoadOk.mul {xs : List Hold} {l : List Int} (h : LoadOk xs l) {lot : Int} (hl : 1 ≤ lot ∧ lot ≤ 1000) {k : Nat} (hk : k < l.length) : (0 ≤ l.getD k 0 * lot ∧ l.getD k 0 * lot ≤ 20000) ∧ (-4000000 ≤ l.getD k 0 * lot * (xs.getD k Z6).pos ∧ l.getD k 0 * lot * (xs.getD k Z6).pos ≤ 4000000) := by
 have h1 := h.at_ hk;have h2 : 0 ≤ l.getD k 0 * lot ∧ l.getD k 0 * lot ≤ 20 * 1000 := ⟨Int.mul_nonneg h1.1.1 (by omega), Int.mul_le_mul h1.1.2 hl.2 (by omega) (by omega)⟩
 have h3 := QEh (a := l.getD k 0 * lot) (A := 20000) (b := (xs.getD k Z6).pos) (B := 200) h2.1 (by omega) h1.2.1 h1.2.2
 exact ⟨by omega, by omega⟩
theorem LoadOk.mom {xs : List Hold} {l : List Int} (h : LoadOk xs l) {lot : Int} (hl : 1 ≤ lot ∧ lot ≤ 1000) : ∀ k, k ≤ l.length → -(4000000 * (k : Int)) ≤ momL lot (xs.take k) (l.take k) ∧ momL lot (xs.take k) (l.take k) ≤ 4000000 * k
 | 0, _ => by simp [momL]
 | k + 1, hk => by
  have h1 := h.mom hl k (by omega)
  have h2 := (h.mul hl (k := k) (by omega)).2
  rw [QB_ lot k xs l (by have := h.len; omega) (by omega)]
  omega
theorem LoadOk.sum {xs : List Hold} {l : List Int} (h : LoadOk xs l) : ∀ k, k ≤ l.length → 0 ≤ sumI (l.take k) ∧ sumI (l.take k) ≤ 20 * k
 | 0, _ => by simp [sumI]
 | k + 1, hk => by
  have h1 := h.sum k (by omega)
  have h2 := (h.at_ (k := k) (by omega)).1
  rw [QB4 (by omega)]
  omega
theorem LoadOk.many {xs : List Hold} {l : List Int} (h : LoadOk xs l) : l.length ≤ 4 := h.len ▸ h.arms.many
theorem LoadOk.sumAll {xs : List Hold} {l : List Int} (h : LoadOk xs l) : 0 ≤ sumI l ∧ sumI l ≤ 80 := by
 have h1 := h.sum l.length (Nat.le_refl _);have h2 := h.many;rw [List.take_length] at h1
 omega
theorem LoadOk.momAll {xs : List Hold} {l : List Int} (h : LoadOk xs l) {lot : Int} (hl : 1 ≤ lot ∧ lot ≤ 1000) : -16000000 ≤ momL lot xs l ∧ momL lot xs l ≤ 16000000 := by
 have h1 := h.mom hl l.length (Nat.le_refl _);have h2 := h.many;rw [List.take_length, h.len, List.take_length] at h1;rw [h.len] at h2
 omega
/-! ### Drafts -/
theorem QGw {h : Hul} (hh : HulOk h) {n : Int} (h1 : 0 ≤ n) (h2 : n ≤ 80) : (0 ≤ h.lot * n ∧ h.lot * n ≤ 80000) ∧ (0 ≤ QDD h n ∧ QDD h n ≤ 140000000) := by
 have h3 := hh.bds;have h4 := hh.lot;have h5 : 0 ≤ h.lot * n ∧ h.lot * n ≤ 1000 * 80 := ⟨Int.mul_nonneg (by omega) h1, Int.mul_le_mul h4.2 h2 h1 (by omega)⟩
 unfold QDD
 omega
theorem QJ2 {h : Hul} {n d : Int} (h0 : 0 ≤ QDD h n) (hd : 900 ≤ d) : (QDD h n + d - 1).tdiv d = QBH h n d := by
 unfold QBH
 exact Int.tdiv_eq_ediv_of_nonneg (by omega)
theorem QJ3 {h : Hul} (hh : HulOk h) {n d : Int} (h1 : 0 ≤ n) (h2 : n ≤ 80) (hd : 900 ≤ d) : 0 ≤ QBH h n d ∧ QBH h n d ≤ 140000000 := by
 have h3 := (QGw hh h1 h2).2
 unfold QBH
 constructor
 ·exact Int.ediv_nonneg (by omega) (by omega)
 ·refine QCj (by omega) ?_
  have : (140000000 : Int) * 900 ≤ 140000000 * d := Int.mul_le_mul_of_nonneg_left hd (by omega)
  omega
theorem QEX (h : Hul) (n d : Int) : meanN h n d ≤ (limH h + 1).toNat := QBB _ _
theorem QJm {m : Int} (h1 : -58000000 ≤ m) (h2 : m ≤ 58000000) : 0 ≤ absI m ∧ absI m ≤ 58000000 := by unfold absI; omega
theorem QJt {h : Hul} (hh : HulOk h) {l : List Int} (h0 : 0 ≤ absI (momT h l)) : (absI (momT h l) + 4 * sumS Sec.trim h.secs - 1).tdiv (4 * sumS Sec.trim h.secs) = Zm h l := by
 have := hh.bds.2.2.1
 unfold Zm
 exact Int.tdiv_eq_ediv_of_nonneg (by omega)
theorem QA7 {h : Hul} (hh : HulOk h) {l : List Int} (hl : LoadOk (ZN h) l) : -58000000 ≤ momT h l ∧ momT h l ≤ 58000000 := by
 have h1 := hh.bds.2.2.2;have h2 := hl.momAll hh.lot
 unfold momT
 omega
theorem QEM {h : Hul} (hh : HulOk h) {l : List Int} (hl : LoadOk (ZN h) l) : 0 ≤ Zm h l ∧ Zm h l ≤ 58000000 := by
 have h1 := QA7 hh hl;have h2 := QJm h1.1 h1.2;have h3 := hh.bds.2.2.1
 unfold Zm
 constructor
 ·exact Int.ediv_nonneg (by omega) (by omega)
 ·refine QCj (by omega) ?_
  have : 58000000 * 4 ≤ 58000000 * (4 * sumS Sec.trim h.secs) := Int.mul_le_mul_of_nonneg_left (by omega) (by omega)
  omega
def loadsL : List Hold → Int → List (List Int)
 | [], t => if t = 0 then [[]] else []
 | x :: xs, t => (List.range (min x.lots t + 1).toNat).flatMap fun n => (loadsL xs (t - (n : Nat))).map fun r => ((n : Nat) : Int) :: r
theorem QB5 (x : Int) (l : List Int) : sumI (x :: l) = x + sumI l := by simp [sumI]
theorem QA9 : ∀ {xs : List Hold} {t : Int} {r : List Int}, 0 ≤ t → (∀ x ∈ xs, 0 ≤ x.lots) → (r ∈ loadsL xs t ↔ (r.length = xs.length ∧ Z0 xs r = true) ∧ sumI r = t)
 | [], t, r, h0, _ => by
  unfold loadsL
  by_cases e : t = 0
  ·rw [if_pos e, List.mem_singleton]
   constructor
   ·rintro rfl; exact ⟨⟨rfl, rfl⟩, by rw [e]; rfl⟩
   ·rintro ⟨⟨h1, _⟩, _⟩; exact List.length_eq_zero_iff.1 h1
  ·rw [if_neg e]
   constructor
   ·intro h; cases h
   ·rintro ⟨⟨h1, _⟩, h2⟩
    rw [List.length_eq_zero_iff.1 h1] at h2
    exact absurd h2.symm e
 | x :: xs, t, r, h0, hx => by
  have hx0 := hx x (by simp)
  unfold loadsL
  simp only [List.mem_flatMap, List.mem_range, List.mem_map]
  constructor
  ·rintro ⟨n, hn, r', hr', rfl⟩
   have h1 := (QA9 (t := t - (n : Nat)) (r := r') (by omega) fun y hy => hx y (List.mem_cons_of_mem _ hy)).1 hr'
   refine ⟨⟨by simp [h1.1.1], ?_⟩, by rw [QB5, h1.2]; omega⟩
   simp only [Z0, Bool.and_eq_true]
   exact ⟨inB_iff.2 ⟨by omega, by omega⟩, h1.1.2⟩
  ·rintro ⟨⟨h1, h2⟩, h3⟩
   cases r with
   | nil => simp at h1
   | cons n r' =>
    simp only [Z0, Bool.and_eq_true] at h2
    have h4 := inB_iff.1 h2.1;rw [QB5] at h3;have h5 : 0 ≤ sumI r' := by
     have key : ∀ {xs : List Hold} {l : List Int}, l.length = xs.length → Z0 xs l = true → 0 ≤ sumI l := by
      intro xs
      induction xs with
      | nil => intro l h _; rw [List.length_eq_zero_iff.1 h]; exact Int.le_refl _
      | cons y ys ih =>
       intro l h hb
       cases l with
       | nil => simp at h
       | cons m l =>
        simp only [Z0, Bool.and_eq_true] at hb
        have := ih (by simpa using h) hb.2
        have := inB_iff.1 hb.1;rw [QB5]
        omega
     exact key (by simpa using h1) h2.2
    refine ⟨n.toNat, by omega, r', (QA9 (by omega) fun y hy => hx y (List.mem_cons_of_mem _ hy)).2 ⟨⟨by simpa using h1, h2.2⟩, by omega⟩, ?_⟩
    rw [Int.toNat_of_nonneg h4.1]
/-- what the search for the best load has found -/
structure Bst where
 best : List Int
 has : Bool
 flo : Bool
 least : Int
def bst0 : Bst := ⟨[], false, false, 0⟩
def okL (h : Hul) (d : Bd) (most : Int) (l : List Int) : Bool := Yf h l d && decide ((fltT h l d).deep.hi ≤ most)
def Z_ (h : Hul) (d : Bd) (most : Int) (s : Bst) (l : List Int) : Bst :=
 if okL h d most l = false then { s with flo := s.flo || Yf h l d }
 else if s.has = false ∨ absI (momT h l) < s.least then ⟨l, true, true, absI (momT h l)⟩ else { s with flo := true }
def Zn (h : Hul) (d : Bd) (most lots : Int) : Bst := (loadsL (ZN h) lots).foldl (Z_ h d most) bst0
/-- what the fold has found -/
structure BstIs (h : Hul) (d : Bd) (most : Int) (ls : List (List Int)) (s : Bst) : Prop where
 has : s.has = true ↔ ∃ l ∈ ls, okL h d most l = true
 flo : s.flo = true ↔ ∃ l ∈ ls, Yf h l d = true
 best : s.has = true → s.best ∈ ls ∧ okL h d most s.best = true
theorem QJW {h : Hul} {d : Bd} {most : Int} {ls : List (List Int)} {s : Bst} {l : List Int} (hs : BstIs h d most ls s) : BstIs h d most (ls ++ [l]) (Z_ h d most s l) := by
 have ex : ∀ p : List Int → Prop, (∃ x ∈ ls ++ [l], p x) ↔ ((∃ x ∈ ls, p x) ∨ p l) := fun p => by
  constructor
  ·rintro ⟨x, hx, hp⟩
   rcases List.mem_append.1 hx with hx | hx
   ·exact .inl ⟨x, hx, hp⟩
   ·rw [List.mem_singleton.1 hx] at hp; exact .inr hp
  ·rintro (⟨x, hx, hp⟩ | hp)
   ·exact ⟨x, List.mem_append_left _ hx, hp⟩
   ·exact ⟨l, by simp, hp⟩
 unfold Z_
 cases hok : okL h d most l with
 | false =>
  rw [if_pos rfl];refine ⟨?_, ?_, ?_⟩
  ·rw [ex, hok]; simpa using hs.has
  ·rw [ex, ← hs.flo]; simp
  ·intro h1; have := hs.best h1; exact ⟨List.mem_append_left _ this.1, this.2⟩
 | true =>
  rw [if_neg (by decide)]
  have hfl : Yf h l d = true := by unfold okL at hok; simp only [Bool.and_eq_true] at hok; exact hok.1
  by_cases hc : s.has = false ∨ absI (momT h l) < s.least
  ·rw [if_pos hc]
   exact ⟨by rw [ex, hok]; simp, by rw [ex, hfl]; simp, fun _ => ⟨by simp, hok⟩⟩
  ·rw [if_neg hc]
   have h1 : s.has = true := by cases e : s.has with
    | true => rfl
    | false => exact absurd (.inl e) hc
   refine ⟨by rw [ex, hok]; simpa using h1, by rw [ex, hfl]; simp, fun h2 => ?_⟩
   have := hs.best h1
   exact ⟨List.mem_append_left _ this.1, this.2⟩
theorem QKM (h : Hul) (d : Bd) (most : Int) : BstIs h d most [] bst0 := ⟨by simp [bst0], by simp [bst0], fun h => by cases h⟩
theorem QFl {h : Hul} {d : Bd} {most : Int} : ∀ (ls xs : List (List Int)) (s : Bst), BstIs h d most xs s → BstIs h d most (xs ++ ls) (ls.foldl (Z_ h d most) s)
 | [], xs, s, hs => by simpa using hs
 | l :: ls, xs, s, hs => by
  have := QFl ls (xs ++ [l]) _ (QJW (l := l) hs)
  simpa using this
theorem QHG (h : Hul) (d : Bd) (most lots : Int) : BstIs h d most (loadsL (ZN h) lots) (Zn h d most lots) := by
 have := QFl (loadsL (ZN h) lots) [] bst0 (QKM h d most);rw [List.nil_append] at this
 exact this
def u8B (n : Int) : Prop := 0 ≤ n ∧ n ≤ 255
structure V4 where
 a : Int
 b : Int
 c : Int
 d : Int
def v40 : V4 := ⟨0, 0, 0, 0⟩
structure V4.Ok (v : V4) : Prop where
 a : u8B v.a
 b : u8B v.b
 c : u8B v.c
 d : u8B v.d
def QAd (v : V4) : Plate := ⟨⟨v.a, v.a + v.b⟩, ⟨v.c.tmod 20, v.c.tmod 20 + v.d.tmod 20⟩⟩
structure Plate.Sm (p : Plate) : Prop where
 t0 : 0 ≤ p.thick.lo
 t1 : p.thick.lo ≤ p.thick.hi
 t2 : p.thick.hi ≤ 510
 w0 : 0 ≤ p.wear.lo
 w1 : p.wear.lo ≤ p.wear.hi
 w2 : p.wear.hi ≤ 38
theorem QEN {n : Int} (h : u8B n) : 0 ≤ n.tmod 20 ∧ n.tmod 20 ≤ 19 := by
 rw [Int.tmod_eq_emod_of_nonneg h.1]
 omega
theorem QIG {v : V4} (h : v.Ok) : (QAd v).Sm := by
 have a := h.a;have b := h.b;have c := QEN h.c;have d := QEN h.d
 unfold u8B at a b
 refine ⟨?_, ?_, ?_, ?_, ?_, ?_⟩ <;> simp only [QAd] <;> omega
theorem Plate.Sm.ok {p : Plate} (h : p.Sm) : Z3 p = true := by
 obtain ⟨a, b, c, d, e, f⟩ := h
 unfold Z3
 simp only [Bool.and_eq_true, bdOk_iff]
 omega
def wearL (l : List V4) : List Plate := (l.take 20).map QAd
theorem QHM (l : List V4) : (wearL l).length = min l.length 20 := by
 rw [wearL, List.length_map, List.length_take, Nat.min_comm]
theorem QIH {l : List V4} (h : ∀ v ∈ l, v.Ok) : ∀ p ∈ wearL l, p.Sm := fun p hp => by
 obtain ⟨v, hv, rfl⟩ := List.mem_map.1 hp
 exact QIG (h v (List.mem_of_mem_take hv))
/-! ### Three ways -/
def QBc (pk : List Int) (i : Nat) (p : Plate) : Int := p.thick.lo + (pk.getD (i % pk.length) 0).tmod (p.thick.hi - p.thick.lo + 1)
def QBb (pk : List Int) (i : Nat) (p : Plate) : Int := p.wear.hi - (pk.getD ((i + 1) % pk.length) 0).tmod (p.wear.hi - p.wear.lo + 1)
def wayT (m : Nat) (pk : List Int) (i : Nat) (p : Plate) : Int := if m = 1 then p.thick.hi else if m = 2 ∧ 0 < pk.length then QBc pk i p else p.thick.lo
def wayW (m : Nat) (pk : List Int) (i : Nat) (p : Plate) : Int := if m = 1 then p.wear.lo else if m = 2 ∧ 0 < pk.length then QBb pk i p else p.wear.hi
theorem QGb {n d : Int} (hn : 0 ≤ n) (hd : 0 < d) : 0 ≤ n.tmod d ∧ n.tmod d < d := by
 rw [Int.tmod_eq_emod_of_nonneg hn]
 exact ⟨Int.emod_nonneg _ (by omega), Int.emod_lt_of_pos _ hd⟩
theorem QCg {pk : List Int} (h : ∀ x ∈ pk, u8B x) (i : Nat) : u8B (pk.getD i 0) := by
 by_cases hi : i < pk.length
 ·rw [show pk.getD i 0 = pk[i] by simp [hi]]
  exact h _ (List.getElem_mem hi)
 ·rw [show pk.getD i 0 = 0 by simp [hi]]
  exact ⟨by omega, by omega⟩
theorem QGs {pk : List Int} (h : ∀ x ∈ pk, u8B x) {p : Plate} (hp : p.Sm) (i : Nat) : (p.thick.lo ≤ QBc pk i p ∧ QBc pk i p ≤ p.thick.hi) ∧ p.wear.lo ≤ QBb pk i p ∧ QBb pk i p ≤ p.wear.hi := by
 obtain ⟨a, b, c, d, e, f⟩ := hp;have h1 := QGb (d := p.thick.hi - p.thick.lo + 1) (QCg h (i % pk.length)).1 (by omega)
 have h2 := QGb (d := p.wear.hi - p.wear.lo + 1) (QCg h ((i + 1) % pk.length)).1 (by omega)
 unfold QBc QBb
 omega
theorem QII {pk : List Int} (h : ∀ x ∈ pk, u8B x) {p : Plate} (hp : p.Sm) (m i : Nat) : (p.thick.lo ≤ wayT m pk i p ∧ wayT m pk i p ≤ p.thick.hi) ∧ p.wear.lo ≤ wayW m pk i p ∧ wayW m pk i p ≤ p.wear.hi := by
 have hb := QGs h hp i;obtain ⟨a, b, c, d, e, f⟩ := hp
 unfold wayT wayW
 by_cases h1 : m = 1
 ·rw [if_pos h1, if_pos h1]; omega
 ·rw [if_neg h1, if_neg h1]
  by_cases h2 : m = 2 ∧ 0 < pk.length
  ·rw [if_pos h2, if_pos h2]; omega
  ·rw [if_neg h2, if_neg h2]; omega
/-- the years of plate i on way m -/
def yWay (least : Int) (m : Nat) (pk : List Int) (l : List Plate) (i : Nat) : Int := Zx (wayT m pk i (l.getD i Zd)) (wayW m pk i (l.getD i Zd)) least
def minK (f : Nat → Int) : Nat → Int
 | 0 => 1000
 | k + 1 => min (minK f k) (f k)
theorem QEV {f : Nat → Int} : ∀ {k i : Nat}, i < k → minK f k ≤ f i
 | k + 1, i, hi => by
  by_cases e : i = k
  ·rw [e]; exact Int.min_le_right _ _
  ·exact Int.le_trans (Int.min_le_left _ _) (QEV (by omega))
theorem QEW {f : Nat → Int} {n : Int} (h0 : n ≤ 1000) : ∀ {k : Nat}, (∀ i, i < k → n ≤ f i) → n ≤ minK f k
 | 0, _ => h0
 | k + 1, h => Int.le_min.2 ⟨QEW h0 fun i hi => h i (by omega), h k (by omega)⟩
theorem QCy {l : List Plate} (h : ∀ p ∈ l, p.Sm) {i : Nat} (hi : i < l.length) : (l.getD i Zd).Sm := by
 rw [show l.getD i Zd = l[i] by simp [hi]]
 exact h _ (List.getElem_mem hi)
section
variable {least : Int} {pk : List Int} {l : List Plate} (hp : ∀ x ∈ pk, u8B x) (hl : ∀ p ∈ l, p.Sm)
include hp hl
theorem QGX (m : Nat) (i : Nat) (hi : i < l.length) : (yLo least (l.getD i Zd) ≤ yWay least m pk l i ∧ yWay least m pk l i ≤ yHi least (l.getD i Zd)) ∧ -1 ≤ yWay least m pk l i ∧ yWay least m pk l i ≤ 1000 := by
 have h1 := QCy hl hi;have h2 := QII hp h1 m i;obtain ⟨a, b, c, d, e, f⟩ := h1
 exact ⟨⟨QCp (by omega) h2.1.1 h2.2.2, QCp (by omega) h2.1.2 h2.2.1⟩, YW _ _ _ (by omega)⟩
omit hp hl in
theorem QK3 (i : Nat) : yWay least 0 pk l i = yLo least (l.getD i Zd) := rfl
omit hp hl in
theorem QK2 (i : Nat) : yWay least 1 pk l i = yHi least (l.getD i Zd) := rfl
/-- what the law asks of the years of a way -/
theorem QHL {s : LifeV} (h : LifeIs least l l.length s) (m : Nat) :
  s.lo ≤ minK (yWay least m pk l) l.length ∧ minK (yWay least m pk l) l.length ≤ s.hi ∧ (m = 0 → minK (yWay least m pk l) l.length = s.lo) ∧ (m = 1 → minK (yWay least m pk l) l.length = s.hi) := by
 obtain ⟨j, hj, _, hjl, _⟩ := h.plate;obtain ⟨i, hi, hih⟩ := h.hit;have hlo : s.lo ≤ 1000 := by
  rw [← hjl]
  exact (YW _ _ _ (Int.le_trans (QCy hl hj).w0 (QCy hl hj).w1)).2
 have hhi : s.hi ≤ 1000 := by
  rw [hih]
  exact (YW _ _ _ (QCy hl hi).w0).2
 have h1 : s.lo ≤ minK (yWay least m pk l) l.length := QEW hlo fun k hk => Int.le_trans (h.lo k hk) (QGX hp hl m k hk).1.1
 have h2 : minK (yWay least m pk l) l.length ≤ s.hi := by
  rw [hih]
  exact Int.le_trans (QEV hi) (QGX hp hl m i hi).1.2
 refine ⟨h1, h2, fun e => ?_, fun e => ?_⟩
 ·subst e
  have := QEV (f := yWay least 0 pk l) hj;rw [QK3, hjl] at this
  omega
 ·subst e
  have := QEW (f := yWay least 1 pk l) (k := l.length) hhi fun k hk => by rw [QK2]; exact h.hi k hk
  omega
omit hp hl in
/-- one plate less: neither end is less -/
theorem QFw {s u : LifeV} (h : LifeIs least l l.length s) {n : Nat} (hn : n ≤ l.length) (h' : LifeIs least (l.take n) (l.take n).length u) : s.lo ≤ u.lo ∧ s.hi ≤ u.hi := by
 have e : (l.take n).length = n := by rw [List.length_take]; omega
 rw [e] at h';have g : ∀ i, i < n → (l.take n).getD i Zd = l.getD i Zd := fun i hi => by
  rw [List.getD_eq_getElem?_getD, List.getD_eq_getElem?_getD, List.getElem?_take_of_lt hi]
 obtain ⟨j, hj, _, hjl, _⟩ := h'.plate;obtain ⟨i, hi, hih⟩ := h'.hit;rw [g j hj] at hjl;rw [g i hi] at hih;rw [← hjl, hih]
 exact ⟨h.lo j (by omega), h.hi i (by omega)⟩
end
/-! ### Rows of four small numbers, of small numbers -/
def v4C (v : V4) : List Value := [.int .u8 v.a, .int .u8 v.b, .int .u8 v.c, .int .u8 v.d]
def v4sC (l : List V4) : List Value := l.flatMap v4C
theorem QJp (b : V4) : (v4C b).length = 4 := rfl
structure V4At (w : World) (b o : Nat) (s : V4) : Prop where
 c0 : w.cell? ⟨b, o, none⟩ = some (.int .u8 s.a)
 c1 : w.cell? ⟨b, o + 1, none⟩ = some (.int .u8 s.b)
 c2 : w.cell? ⟨b, o + 2, none⟩ = some (.int .u8 s.c)
 c3 : w.cell? ⟨b, o + 3, none⟩ = some (.int .u8 s.d)
theorem QHQ (l : List V4) (k : Nat) (hk : k < l.length) (w : World) (B : Nat) (A : Option Addr) (n c : Nat) (hr : Rd w B 4 (.slice A n c) n (v4sC l)) :
  ∃ b off, A = some ⟨b, off, none⟩ ∧ b < B ∧ V4At w b (off + k * 4) (l.getD k v40) := by
 obtain ⟨b, off, h1, h2, h3⟩ := Yi QJp (by omega) l v40 hk hr
 exact ⟨b, off, h1, h2, h3 0 _ rfl, h3 1 _ rfl, h3 2 _ rfl, h3 3 _ rfl⟩
def u8C (n : Int) : List Value := [.int .u8 n]
def u8sC (l : List Int) : List Value := l.flatMap u8C
theorem QJq (b : Int) : (u8C b).length = 1 := rfl
theorem QB2 (l : List Int) (k : Nat) (hk : k < l.length) (w : World) (B : Nat) (A : Option Addr) (n c : Nat) (hr : Rd w B 1 (.slice A n c) n (u8sC l)) :
  ∃ b off, A = some ⟨b, off, none⟩ ∧ b < B ∧ w.cell? ⟨b, off + k, none⟩ = some (.int .u8 (l.getD k 0)) := by
 obtain ⟨b, off, h1, h2, h3⟩ := Yi QJq (by omega) l 0 hk hr
 refine ⟨b, off, h1, h2, ?_⟩;have := h3 0 _ rfl
 rwa [Nat.mul_one, Nat.add_zero] at this
theorem QFx {l : List V4} {k : Nat} (hk : k < l.length) : (l.take (k + 1)).map QAd = (l.take k).map QAd ++ [QAd (l.getD k v40)] := by
 rw [List.take_add_one, List.map_append, List.getElem?_eq_getElem hk]
 simp [hk]
theorem QFG (a b : List Plate) : platesC (a ++ b) = platesC a ++ platesC b := List.flatMap_append
theorem QE2 {i : Nat} {l : List V4} (hx : i = min l.length 20) : (l.take i).map QAd = wearL l := by
 subst hx
 unfold wearL
 rcases Nat.le_total l.length 20 with h1 | h1
 ·rw [Nat.min_eq_left h1, List.take_length, List.take_of_length_le h1]
 ·rw [Nat.min_eq_right h1]
theorem YX {n : Int} (h : u8B n) : IntKind.i64.wrap n = n := IntWalk.i64_in _ ⟨by have := h.1; omega, by have := h.2; omega⟩
theorem QGj (k n : Nat) : (k : Int).tmod (n : Int) = ((k % n : Nat) : Int) := by
 rw [Int.tmod_eq_emod_of_nonneg (Int.natCast_nonneg _), Int.natCast_emod]
end Go.Proofs.Ytfgfenmaommclaa
namespace Go.Proofs.Ytfgfenmaommclaa
open Go Go.ChangeShapes Go.WideShapes Go.Deep Go.RowKit Go.Joins
theorem QH7 {w : World} {x : Addr} {u : Value} (h : w.cell? x = some u) : x.spot = none ∧ x.block < w.heap.size := by
 unfold World.cell? at h
 split at h
 ·rename_i c e f hg
  split at h
  ·cases h
  ·rename_i hs
   refine ⟨by simpa using hs, ?_⟩
   rcases Nat.lt_or_ge x.block w.heap.size with hlt | hge
   ·exact hlt
   ·rw [Array.getElem?_eq_none hge] at hg; cases hg
 ·cases h
section
variable {H : Type} {enc : TypeId × Value → H} {P : Program} {w : World} {base : Nat} {spare : Nat → Bool} {held : Bool}
/-- rows of cells, one behind the other -/
theorem QFE {b off n c s : Nat} {B : Nat} (row : Nat → List Value) (hlen : ∀ i, (row i).length = s) (hs : 0 < s) (hB : b < B) (hnc : n ≤ c)
  (hcell : ∀ i, i < n → ∀ j u, (row i)[j]? = some u → w.cell? ⟨b, off + (i * s + j), none⟩ = some u) :
  Rd w B s (.slice (some ⟨b, off, none⟩) n c) n ((List.range n).flatMap row) := by
 refine ⟨by rw [flat_len hlen, List.length_range], _, _, rfl, hnc, fun _ => ⟨b, off, rfl, hB, fun q u hu => ?_⟩⟩
 have hq : q < n * s := by
  have := (List.getElem?_eq_some_iff.1 hu).1
  rwa [flat_len hlen, List.length_range] at this
 have hk : q / s < n := by
  rw [Nat.div_lt_iff_lt_mul hs]
  exact hq
 have e : q = q / s * s + q % s := by rw [Nat.mul_comm]; exact (Nat.div_add_mod q s).symm
 have hg := flat_get hlen (List.range n) (q / s) (by simpa using hk) (q % s) (Nat.mod_lt _ hs)
 rw [← e, List.getElem_range] at hg;rw [hg] at hu;have := hcell (q / s) hk (q % s) u hu
 rwa [← e] at this
theorem QEx (x : Addr) (n : Nat) (h : x.spot = none) : x.add n = ⟨x.block, x.off + n, none⟩ := by
 obtain ⟨b, o, s⟩ := x;subst h;rw [Addr.add_lit]
/-- a slice, opened to its elements -/
theorem QGm {α : Type} [Inhabited α] {f : α → List Value} {s : Nat} {Good : α → Prop} (hf : ∀ x, (f x).length = s) (hs : 0 < s) {t e : TypeId} {fuel : Nat} {v : Value} {x : DataW H × List MemPlace} (ht : P.underlying t = some (.slice e)) (hC : P.cellsOf e = s)
  (hE : ∀ (fuel : Nat) (cs : List Value) (x : DataW H × List MemPlace), cs.length = s → DataW.trod enc P w base spare held fuel e cs = some x → ∃ y : α, cs = f y ∧ Good y) (h : DataW.trod enc P w base spare held fuel t [v] = some x) :
  ∃ l : List α, Rd w w.heap.size s v l.length (l.flatMap f) ∧ (∀ y ∈ l, Good y) ∧ l.length ≤ maxLen := by
 rcases open_slice ht h with ⟨hcs, _⟩ | ⟨a, len, cap, m, n, D, Pl, hcs, _, hl, hcap, hm, _, hi⟩
 ·injection hcs with hcs
  subst hcs
  exact ⟨[], Rd.nil_ _ _ _, by simp, Nat.zero_le _⟩
 ·injection hcs with hcs
  subst hcs;have hcell : ∀ i, i < len → ∃ y : α, (∀ j u, (f y)[j]? = some u → w.cell? (a.add (i * s + j)) = some u) ∧ Good y := by
   intro i hi';obtain ⟨cs', hc, ht'⟩ := hi i (by rw [hm]; split <;> omega)
   rw [hC] at hc;obtain ⟨_, hcl, hat⟩ := World.cells?_some hc;obtain ⟨y, hy, hg⟩ := hE _ cs' _ hcl ht';subst hy;refine ⟨y, fun j u hu => ?_, hg⟩
   have hj : j < s := by
    have := (List.getElem?_eq_some_iff.1 hu).1
    rwa [hf] at this
   have h1 := hat j hj;rw [Go.Deep.add_add] at h1;rw [h1, hu]
  let pick : Nat → α := fun i => if h : i < len then Classical.choose (hcell i h) else default
  have hpick : ∀ i, (h : i < len) → (∀ j u, (f (pick i))[j]? = some u → w.cell? (a.add (i * s + j)) = some u) ∧ Good (pick i) := fun i h => by
   have := Classical.choose_spec (hcell i h)
   simp only [pick, dif_pos h]
   exact this
  refine ⟨(List.range len).map pick, ?_, ?_, by simp; omega⟩
  ·rw [List.length_map, List.length_range]
   rcases Nat.eq_zero_or_pos len with hz | hz
   ·subst hz
    exact ⟨by simp, _, _, rfl, hl, fun h => absurd h (by omega)⟩
   ·have h0 := (hpick 0 hz).1 0 _ (List.getElem?_eq_getElem (by rw [hf]; exact hs))
    obtain ⟨hsp, hb⟩ := QH7 h0;have e0 : a.add (0 * s + 0) = a := by simp [Addr.add]
    rw [e0] at hsp hb;have hx : a = ⟨a.block, a.off, none⟩ := by obtain ⟨b, o, s⟩ := a; subst hsp; rfl
    rw [hx, List.flatMap_map];refine QFE _ (fun i => hf _) hs hb hl fun i hi' j u hu => ?_
    have h1 := (hpick i hi').1 j u hu;rw [QEx a _ hsp] at h1
    exact h1
  ·intro y hy
   obtain ⟨i, hi', rfl⟩ := List.mem_map.1 hy
   exact (hpick i (by simpa using hi')).2
end
section
variable {H : Type} {enc : TypeId × Value → H} {w : World} {base : Nat} {spare : Nat → Bool} {held : Bool}
instance : Inhabited V4 := ⟨v40⟩
theorem co_5 : Try.prog.cellsOf 5 = 1 := by kernel_rfl
theorem QKs : Try.prog.cellsOf 35 = 4 := by kernel_rfl
theorem QLW {n : Int} (h : (Lit.int .u8 n).wf = true) : u8B n := by
 simp [Lit.wf, IntKind.min, IntKind.max, IntKind.signed, IntKind.bits] at h
 unfold u8B
 omega
theorem QEr {fuel : Nat} {u : Value} {x : DataW H × List MemPlace} (h : DataW.trod enc Try.prog w base spare held fuel 5 [u] = some x) : ∃ z, u = .int .u8 z ∧ u8B z := by
 obtain ⟨z, hz, _, wf⟩ := DataW.trod_int Try.underlying5 h
 injection hz with hz
 exact ⟨z, hz, QLW wf⟩
theorem u8_of {n : Int} {d : DataW H} {p : List MemPlace} (h : DataW.Trod enc Try.prog w base spare held 5 (.int .u8 n) d p) : u8B n := by
 obtain ⟨fuel, hf⟩ := h;obtain ⟨z, hz, hb⟩ := QEr (u := .int .u8 n) (by simpa [Value.cells] using hf)
 injection hz with _ hz
 rw [hz]
 exact hb
/-- an array of bytes -/
theorem QLT {fuel n t : Nat} {cs : List Value} {x : DataW H × List MemPlace} (ht : Try.prog.underlying t = some (.array n 5)) (hc : Try.prog.cellsOf t = n) (h : DataW.trod enc Try.prog w base spare held fuel t cs = some x) : cs.length = n ∧ ∀ i, i < n → ∃ z, cs[i]? = some (.int .u8 z) ∧ u8B z := by
 obtain ⟨xs, m, _, _, hl, hx, hi⟩ := DataW.trod_array ht h;rw [hc] at hl;refine ⟨hl, fun i hi' => ?_⟩
 have h1 := hi i hi';rw [co_5, Nat.mul_one] at h1;have hlt : i < cs.length := by omega
 have e : (cs.drop i).take 1 = [cs[i]] := by rw [List.drop_eq_getElem_cons hlt]; rfl
 rw [e, List.getElem?_eq_getElem (by omega)] at h1
 obtain ⟨z, hz, wf⟩ := QEr h1
 exact ⟨z, by rw [List.getElem?_eq_getElem hlt, hz], wf⟩
theorem QKC {fuel : Nat} {cs : List Value} {x : DataW H × List MemPlace} (h : DataW.trod enc Try.prog w base spare held fuel 35 cs = some x) : ∃ p : V4, cs = v4C p ∧ p.Ok := by
 obtain ⟨hl, hi⟩ := QLT Try.underlying35 QKs h;obtain ⟨a, ha, ba⟩ := hi 0 (by omega)
 obtain ⟨b, hb, bb⟩ := hi 1 (by omega)
 obtain ⟨c, hc, bc⟩ := hi 2 (by omega)
 obtain ⟨d, hd, bd⟩ := hi 3 (by omega)
 match cs, hl, ha, hb, hc, hd with
 | [u, v, y, z], _, ha, hb, hc, hd =>
  simp at ha hb hc hd
  subst ha hb hc hd
  exact ⟨⟨a, b, c, d⟩, rfl, ba, bb, bc, bd⟩
theorem rd_v4s {fuel : Nat} {v : Value} {x : DataW H × List MemPlace} (h : DataW.trod enc Try.prog w base spare held fuel 39 [v] = some x) : ∃ l : List V4, Rd w w.heap.size 4 v l.length (v4sC l) ∧ (∀ p ∈ l, p.Ok) ∧ l.length ≤ maxLen := by
 obtain ⟨l, h1, h3, h2⟩ := QGm (α := V4) (s := 4) (f := v4C) (Good := V4.Ok) (fun _ => rfl) (by omega) Try.underlying39 QKs (fun _ cs _ hl ht => QKC ht) h
 exact ⟨l, h1, h3, h2⟩
theorem rd_u8s {fuel : Nat} {v : Value} {x : DataW H × List MemPlace} (h : DataW.trod enc Try.prog w base spare held fuel 87 [v] = some x) : ∃ l : List Int, Rd w w.heap.size 1 v l.length (u8sC l) ∧ (∀ p ∈ l, u8B p) ∧ l.length ≤ maxLen := by
 obtain ⟨l, h1, h3, h2⟩ := QGm (α := Int) (s := 1) (f := u8C) (Good := u8B) (fun _ => rfl) (by omega) Try.underlying87 co_5 (fun _ cs _ hl ht => by
  match cs, hl with
  | [u], _ =>
   obtain ⟨z, hz, wf⟩ := QEr ht;subst hz
   exact ⟨z, rfl, wf⟩) h
 exact ⟨l, h1, h3, h2⟩
end
end Go.Proofs.Ytfgfenmaommclaa
namespace Go.Proofs.Ytfgfenmaommclaa
open Go Go.RowKit
section
variable {n : Nat} {σ : Sg} {w : World} {dst : Option Tmp} {ty : TypeId} {pos : String} {af : Array Edge} {g : Option (Nat × Bool)} {x y z : Operand} {at' : Array TypeId}
theorem QFQ {A : Option Addr} {m c : Nat} (hx : evS σ x = some (.slice A m c)) : ZE Try.prog n σ w ⟨dst, .call { callee := .builtin .len, args := #[x], argTypes := #[56] }, ty, pos, af, g⟩ (.int .i64 (m : Int)) := fun a ha => by
 simp only [execOp, resolve, List.map_toArray, List.map_cons, List.map_nil, ha.eval hx]
 simp [go_sem]
theorem QD5 {b o m c k : Nat} (hx : evS σ x = some (.slice (some ⟨b, o, none⟩) m c)) (hy : evS σ y = some (.int .i64 (k : Int))) (hk : k < m) : ZE Try.prog n σ w ⟨dst, .indexAddr 56 x y, ty, pos, af, g⟩ (.pointer (some ⟨b, o + k, none⟩)) := fun a ha => by
 have k0 : (0 : Int) ≤ (k : Int) := Int.natCast_nonneg _;have k1 : (k : Int) < (m : Int) := by omega
 simp only [execOp, ha.eval hx, ha.eval hy]
 simp [go_sem, k0, k1]
theorem QEp {xf x0 : Operand} {v0 p0 p1 : Value} (hf : evS σ xf = some (.func (.func 54) #[] #[p0, p1])) (h0 : evS σ x0 = some v0) (a : Act) (ha : Env n σ a) : (execOp a.eval ⟨dst, .call { callee := .value xf, args := #[x0], argTypes := at' }, ty, pos, af, g⟩).run Try.prog w = .ok (.enter 54 #[v0, p0, p1]) w := by
 simp only [execOp, resolve, List.map_toArray, List.map_cons, List.map_nil, ha.eval hf, ha.eval h0]
 simp [go_sem, Deferred.ofValue]
theorem cF76 : cF 76 := fun _ _ => by simp [go_sem]
theorem QI3 {A : Option Addr} {m c : Nat} (hx : evS σ x = some (.slice A m c)) : ZE Try.prog n σ w ⟨dst, .call { callee := .builtin .len, args := #[x], argTypes := #[68] }, ty, pos, af, g⟩ (.int .i64 (m : Int)) := fun a ha => by
 simp only [execOp, resolve, List.map_toArray, List.map_cons, List.map_nil, ha.eval hx]
 simp [go_sem]
theorem QKp {b o m c k : Nat} (hx : evS σ x = some (.slice (some ⟨b, o, none⟩) m c)) (hy : evS σ y = some (.int .i64 (k : Int))) (hk : k < m) : ZE Try.prog n σ w ⟨dst, .indexAddr 68 x y, ty, pos, af, g⟩ (.pointer (some ⟨b, o + k * 2, none⟩)) := fun a ha => by
 have k0 : (0 : Int) ≤ (k : Int) := Int.natCast_nonneg _;have k1 : (k : Int) < (m : Int) := by omega
 simp only [execOp, ha.eval hx, ha.eval hy]
 simp [go_sem, k0, k1]
theorem QKl {b o : Nat} {v0 v1 : Value} (hx : evS σ x = some (.pointer (some ⟨b, o, none⟩))) (c0 : w.cell? ⟨b, o, none⟩ = some v0) (c1 : w.cell? ⟨b, o + 1, none⟩ = some v1) : ZE Try.prog n σ w ⟨dst, .load 66 x, ty, pos, af, g⟩ (.agg #[v0, v1]) := fun a ha => by
 simp only [execOp, ha.eval hx]
 simp [go_sem, c0, c1]
theorem QEo {xf x0 : Operand} {v0 p0 : Value} (hf : evS σ xf = some (.func (.func 78) #[] #[p0])) (h0 : evS σ x0 = some v0) (a : Act) (ha : Env n σ a) : (execOp a.eval ⟨dst, .call { callee := .value xf, args := #[x0], argTypes := at' }, ty, pos, af, g⟩).run Try.prog w = .ok (.enter 78 #[v0, p0]) w := by
 simp only [execOp, resolve, List.map_toArray, List.map_cons, List.map_nil, ha.eval hf, ha.eval h0]
 simp [go_sem, Deferred.ofValue]
theorem cF95 : cF 95 := fun _ _ => by simp [go_sem]
theorem bx_3 {v0 : Value} (hx : evS σ x = some (v0)) (h1 : v0.oneCell' = true) (a : Act) (ha : Env n σ a) : (execOp a.eval ⟨dst, .box 3 x, ty, pos, af, g⟩).run Try.prog w = .ok (.value (.pointer (some ⟨w.heap.size, 0, none⟩))) (w.alloc (.cells #[v0] 3)) := by
 simp only [execOp, ha.eval hx]
 cases v0 <;> first | (simp [Value.oneCell'] at h1; done) | simp [go_sem, Value.cells]
theorem QHr {x0 x1 : Operand} {v0 v1 : Value} (h0 : evS σ x0 = some v0) (h1 : evS σ x1 = some v1) : ZE Try.prog n σ w ⟨dst, .makeFunc (.func 54) #[] #[x0, x1], ty, pos, af, g⟩ (.func (.func 54) #[] #[v0, v1]) := fun a ha => by
 simp only [execOp, List.map_toArray, List.map_cons, List.map_nil, ha.eval h0, ha.eval h1]
 simp [go_sem]
theorem cF53 : cF 53 := fun _ _ => by simp [go_sem]
theorem QBx {v0 v1 : Value} (hx : evS σ x = some (.agg #[v0, v1])) (a : Act) (ha : Env n σ a) : (execOp a.eval ⟨dst, .box 25 x, ty, pos, af, g⟩).run Try.prog w = .ok (.value (.pointer (some ⟨w.heap.size, 0, none⟩))) (w.alloc (.cells #[v0, v1] 25)) := by
 simp only [execOp, ha.eval hx]
 simp [go_sem]
theorem QBy {x0 x1 : Operand} {z0_0 z1_0 : Int} (h0 : evS σ x0 = some (.int .i64 z0_0)) (h1 : evS σ x1 = some (.int .i64 z1_0)) (a : Act) (ha : Env n σ a) : (execOp a.eval ⟨dst, .buildSlice 56 2 #[(0, x0), (1, x1)], ty, pos, af, g⟩).run Try.prog w = .ok (.value (.slice (some ⟨w.heap.size, 0, none⟩) 2 2)) (w.alloc (.cells #[.int .i64 z0_0, .int .i64 z1_0] 3)) := by
 simp only [execOp, List.map_toArray, List.map_cons, List.map_nil, ha.eval h0, ha.eval h1]
 go_simp
theorem cF35 : cF 35 := fun _ _ => by simp [go_sem]
theorem cF34 : cF 34 := fun _ _ => by simp [go_sem]
theorem QLp {v0 v1 : Value} (hx : evS σ x = some (.agg #[v0, v1])) (a : Act) (ha : Env n σ a) : (execOp a.eval ⟨dst, .box 66 x, ty, pos, af, g⟩).run Try.prog w = .ok (.value (.pointer (some ⟨w.heap.size, 0, none⟩))) (w.alloc (.cells #[v0, v1] 66)) := by
 simp only [execOp, ha.eval hx]
 simp [go_sem]
theorem QBp {b o : Nat} (hx : evS σ x = some (.pointer (some ⟨b, o, none⟩))) : ZE Try.prog n σ w ⟨dst, .fieldAddr 70 x 0, ty, pos, af, g⟩ (.pointer (some ⟨b, o, none⟩)) := fun a ha => by
 simp only [execOp, ha.eval hx]
 simp [go_sem]
theorem QHA {b o : Nat} (hx : evS σ x = some (.pointer (some ⟨b, o, none⟩))) : ZE Try.prog n σ w ⟨dst, .fieldAddr 66 x 0, ty, pos, af, g⟩ (.pointer (some ⟨b, o, none⟩)) := fun a ha => by
 simp only [execOp, ha.eval hx]
 simp [go_sem]
theorem QG_ {b o : Nat} (hx : evS σ x = some (.pointer (some ⟨b, o, none⟩))) : ZE Try.prog n σ w ⟨dst, .fieldAddr 66 x 1, ty, pos, af, g⟩ (.pointer (some ⟨b, o + 1, none⟩)) := fun a ha => by
 simp only [execOp, ha.eval hx]
 simp [go_sem]
end
theorem QDh {α : Type} {l : List α} {d : α} {p : α → Bool} {k : Nat} (hk : k < l.length) : (l.take (k + 1)).any p = ((l.take k).any p || p (l.getD k d)) := by
 rw [List.take_succ_eq_append_getElem hk, List.any_append, show l.getD k d = l[k] by simp [hk]]
 simp only [List.any_cons, List.any_nil, Bool.or_false]
theorem QGT {α : Type} {l : List α} {d : α} {p : α → Bool} {k : Nat} (hk : k < l.length) (h : p (l.getD k d) = true) : l.any p = true := by
 rw [List.any_eq_true]
 exact ⟨l.getD k d, by rw [show l.getD k d = l[k] by simp [hk]]; exact List.getElem_mem hk, h⟩
theorem QBF {α : Type} {l : List α} {p : α → Bool} : (!l.any p) = l.all (fun x => !p x) := by
 rw [List.all_eq_not_any_not]; simp
theorem QJi {α : Type} {l : List α} {p : α → Bool} : (!l.all p) = l.any (fun x => !p x) := by
 rw [List.all_eq_not_any_not]; simp
set_option maxRecDepth 100000 in
theorem QHx (l : List Int) (pred : Int → Bool) (p0 p1 : Value) (v : Value) (w : World) (B : Nat) (hr : Rd w B 1 v l.length (ints l)) (hB : B ≤ w.heap.size) (hn : l.length ≤ 9223372036854775806) (hf : ∀ x ∈ l, ∀ W, Below w.heap.size w W → Calls Try.prog 54 #[.int .i64 x, p0, p1] W fun e w' => e = .returned (.bool (pred x)) ∧ Below W.heap.size W w') :
  Calls Try.prog 76 #[v, .func (.func 54) #[] #[p0, p1]] w fun e w' => (∃ r : Int, e = .returned (.int .i64 r) ∧ decide (0 ≤ r) = l.any pred) ∧ Below w.heap.size w w' := by
 obtain ⟨A, c, rfl, _⟩ := hr.shape;have hbw := Below.refl w.heap.size w;refine EC.enter 19 Try.func76 rfl rfl rfl (EC.seq (EC.region (EL.as rfl rfl (EL.nil (EX.seq (EC.seq (EC.seq (EC.region (EL.mv rfl rfl ?_)))))))));refine EL.val (QFQ rfl) rfl (EL.mv rfl rfl (EL.nil (EX.seq (EC.block ?_))));refine EC.loopD [4, 5, 8, 9, 10, 11, 12, 13, 14, 15, 16, 17, 18] (fun x : Nat => [(8, .int .i64 (x : Nat))]) (fun x W => x ≤ l.length ∧ (l.take x).any pred = false ∧ Below w.heap.size w W) (fun x => l.length - x) 0 ⟨Nat.zero_le _, rfl, hbw⟩ ⟨rfl, trivial⟩ ?_
 clear hbw
 rintro k wk ⟨hk, hno, hbw⟩
 by_cases hlt : k < l.length
 ·
  obtain ⟨b, o, rfl, _, cc⟩ := Ys l k hlt w w.heap.size _ _ _ (hr.more hB);have hat := QDh (d := 0) (p := pred) hlt;have hmem : l.getD k 0 ∈ l := by rw [Ye hlt]; exact List.getElem_mem hlt
  obtain ⟨x, ex⟩ : ∃ z, z = l.getD k 0 := ⟨_, rfl⟩;rw [← ex] at hat hmem cc;have hc := hf x hmem wk hbw;refine EC.seq (EC.region ?_);refine EL.val (ZO rfl rfl (by first | assumption | exact decide_eq_true (by omega))) rfl ?_
  refine EL.nil (EX.seq (EC.seq (EC.yes rfl (EC.skip (EX.seq (EC.seq (EC.block (EC.seq (EC.region ?_)))))))));refine EL.mv rfl rfl (EL.as rfl rfl (EL.nil (EX.seq (EC.seq (EC.region (EL.mv rfl rfl (EL.mv rfl rfl (EL.mv rfl rfl (EL.val (QD5 rfl rfl hlt) rfl ?_)))))))));refine EL.val (ld_3 rfl (ZD hbw cc)) rfl (EL.call (QEp rfl rfl) rfl hc ?_)
  rintro e w2 ⟨rfl, hc2⟩
  refine ⟨_, rfl, ?_⟩;replace hbw := bo_ hbw hc2;clear hc2;refine EL.nil (EX.seq ?_)
  cases hp : pred x
  ·
   refine EC.no rfl (EC.skip (EX.blk (EX.seq (EC.region ?_))));refine EL.val (ZM rfl rfl (by first | assumption | exact IntWalk.i64_in _ ⟨by omega, by omega⟩)) rfl ?_
   refine EL.mv rfl rfl (EL.nil ?_);refine EX.roundD (k + 1) ⟨rfl, trivial⟩ (by repeat first | with_reducible exact .refl _ | refine sp_ rfl ?_ | exact .refl _ | refine sd_ rfl ?_ | refine sn_ ?_) ⟨hlt, by rw [hat, hno, hp]; rfl, hbw⟩ (by omega)
  ·
   refine EC.yes rfl (EC.seq (EC.region (EL.mv rfl rfl (EL.as rfl rfl (EL.nil (EX.seq (EC.ret (EX.blk_ret (EX.seq_ret ?_)))))))));refine EX.seq_ret (EX.blk_ret (EX.seq_ret ?_))
   exact EX.done (res1 rfl rfl) ⟨⟨_, rfl, by rw [QGT hlt (ex ▸ hp)]; exact decide_eq_true (by omega)⟩, hbw⟩
 ·
  obtain rfl : k = l.length := by omega
  rw [List.take_length] at hno;refine EC.seq (EC.region ?_);refine EL.val (ZO rfl rfl (by first | assumption | exact decide_eq_false (by omega))) rfl ?_
  refine EL.nil (EX.seq (EC.seq (EC.no rfl (EC.exit (EX.seq_exit (EX.seq_exit (EX.blk_here (EX.seq (EC.seq ?_)))))))));refine EC.region (EL.as rfl rfl (EL.nil (EX.seq (EC.ret ?_))))
  exact EX.done (res1 rfl rfl) ⟨⟨_, rfl, by rw [hno]; rfl⟩, hbw⟩
theorem QEn (l : List Int) (pred : Int → Bool) (p0 p1 : Value) (v : Value) (w : World) (B : Nat) (hr : Rd w B 1 v l.length (ints l)) (hB : B ≤ w.heap.size) (hn : l.length ≤ 9223372036854775806) (hf : ∀ x ∈ l, ∀ W, Below w.heap.size w W → Calls Try.prog 54 #[.int .i64 x, p0, p1] W fun e w' => e = .returned (.bool (pred x)) ∧ Below W.heap.size W w') :
  Calls Try.prog 53 #[v, .func (.func 54) #[] #[p0, p1]] w fun e w' => e = .returned (.bool (l.any pred)) ∧ Below w.heap.size w w' := by
 have hbw := Below.refl w.heap.size w;refine EC.enter 9 Try.func53 rfl rfl rfl (EC.seq (EC.region (EL.as rfl rfl (EL.nil (EX.seq (EC.seq (EC.region (EL.mv rfl rfl (EL.mv rfl rfl ?_)))))))));refine EL.call (cA2 cF76 rfl rfl) rfl (QHx l pred p0 p1 _ w B hr hB hn hf) ?_
 rintro e w2 ⟨⟨r, rfl, hres⟩, hc2⟩
 refine ⟨_, rfl, ?_⟩;replace hbw := bo_ hbw hc2;refine EL.val (QAA rfl rfl hres) rfl (EL.as rfl rfl (EL.nil (EX.seq (EC.ret ?_))))
 exact EX.done (res1 rfl rfl) ⟨rfl, hbw⟩
set_option maxRecDepth 100000 in
theorem QGC (l : List Hold) (pred : Hold → Bool) (p0 : Value) (v : Value) (w : World) (B : Nat) (hr : Rd w B 2 v l.length (holdsC l)) (hB : B ≤ w.heap.size) (hn : l.length ≤ 9223372036854775806) (hf : ∀ x ∈ l, ∀ W, Below w.heap.size w W → Calls Try.prog 78 #[.agg #[.int .i64 x.pos, .int .i64 x.lots], p0] W fun e w' => e = .returned (.bool (pred x)) ∧ Below W.heap.size W w') :
  Calls Try.prog 95 #[v, .func (.func 78) #[] #[p0]] w fun e w' => (∃ r : Int, e = .returned (.int .i64 r) ∧ decide (0 ≤ r) = l.any pred) ∧ Below w.heap.size w w' := by
 obtain ⟨A, c, rfl, _⟩ := hr.shape;have hbw := Below.refl w.heap.size w;refine EC.enter 19 Try.func95 rfl rfl rfl (EC.seq (EC.region (EL.as rfl rfl (EL.nil (EX.seq (EC.seq (EC.seq (EC.region (EL.mv rfl rfl ?_)))))))));refine EL.val (QI3 rfl) rfl (EL.mv rfl rfl (EL.nil (EX.seq (EC.block ?_))));refine EC.loopD [4, 5, 8, 9, 10, 11, 12, 13, 14, 15, 16, 17, 18] (fun x : Nat => [(8, .int .i64 (x : Nat))]) (fun x W => x ≤ l.length ∧ (l.take x).any pred = false ∧ Below w.heap.size w W) (fun x => l.length - x) 0 ⟨Nat.zero_le _, rfl, hbw⟩ ⟨rfl, trivial⟩ ?_
 clear hbw
 rintro k wk ⟨hk, hno, hbw⟩
 by_cases hlt : k < l.length
 ·
  obtain ⟨b, o, rfl, _, cc⟩ := YV l k hlt w w.heap.size _ _ _ (hr.more hB);have hat := QDh (d := Z6) (p := pred) hlt;have hmem : l.getD k Z6 ∈ l := by rw [Ye hlt]; exact List.getElem_mem hlt
  obtain ⟨x, ex⟩ : ∃ z, z = l.getD k Z6 := ⟨_, rfl⟩;rw [← ex] at hat hmem cc;have hc := hf x hmem wk hbw;refine EC.seq (EC.region ?_);refine EL.val (ZO rfl rfl (by first | assumption | exact decide_eq_true (by omega))) rfl ?_
  refine EL.nil (EX.seq (EC.seq (EC.yes rfl (EC.skip (EX.seq (EC.seq (EC.block (EC.seq (EC.region ?_)))))))));refine EL.mv rfl rfl (EL.as rfl rfl (EL.nil (EX.seq (EC.seq (EC.region (EL.mv rfl rfl (EL.mv rfl rfl (EL.mv rfl rfl (EL.val (QKp rfl rfl hlt) rfl ?_)))))))));refine EL.val (QKl rfl (ZD hbw cc.c0) (ZD hbw cc.c1)) rfl (EL.call (QEo rfl rfl) rfl hc ?_)
  rintro e w2 ⟨rfl, hc2⟩
  refine ⟨_, rfl, ?_⟩;replace hbw := bo_ hbw hc2;clear hc2;refine EL.nil (EX.seq ?_)
  cases hp : pred x
  ·
   refine EC.no rfl (EC.skip (EX.blk (EX.seq (EC.region ?_))));refine EL.val (ZM rfl rfl (by first | assumption | exact IntWalk.i64_in _ ⟨by omega, by omega⟩)) rfl ?_
   refine EL.mv rfl rfl (EL.nil ?_);refine EX.roundD (k + 1) ⟨rfl, trivial⟩ (by repeat first | with_reducible exact .refl _ | refine sp_ rfl ?_ | exact .refl _ | refine sd_ rfl ?_ | refine sn_ ?_) ⟨hlt, by rw [hat, hno, hp]; rfl, hbw⟩ (by omega)
  ·
   refine EC.yes rfl (EC.seq (EC.region (EL.mv rfl rfl (EL.as rfl rfl (EL.nil (EX.seq (EC.ret (EX.blk_ret (EX.seq_ret ?_)))))))));refine EX.seq_ret (EX.blk_ret (EX.seq_ret ?_))
   exact EX.done (res1 rfl rfl) ⟨⟨_, rfl, by rw [QGT hlt (ex ▸ hp)]; exact decide_eq_true (by omega)⟩, hbw⟩
 ·
  obtain rfl : k = l.length := by omega
  rw [List.take_length] at hno;refine EC.seq (EC.region ?_);refine EL.val (ZO rfl rfl (by first | assumption | exact decide_eq_false (by omega))) rfl ?_
  refine EL.nil (EX.seq (EC.seq (EC.no rfl (EC.exit (EX.seq_exit (EX.seq_exit (EX.blk_here (EX.seq (EC.seq ?_)))))))));refine EC.region (EL.as rfl rfl (EL.nil (EX.seq (EC.ret ?_))))
  exact EX.done (res1 rfl rfl) ⟨⟨_, rfl, by rw [hno]; rfl⟩, hbw⟩
theorem QDq (l : List Hold) (pred : Hold → Bool) (p0 : Value) (v : Value) (w : World) (B : Nat) (hr : Rd w B 2 v l.length (holdsC l)) (hB : B ≤ w.heap.size) (hn : l.length ≤ 9223372036854775806) (hf : ∀ x ∈ l, ∀ W, Below w.heap.size w W → Calls Try.prog 78 #[.agg #[.int .i64 x.pos, .int .i64 x.lots], p0] W fun e w' => e = .returned (.bool (pred x)) ∧ Below W.heap.size W w') :
  Calls Try.prog 77 #[v, .func (.func 78) #[] #[p0]] w fun e w' => e = .returned (.bool (l.any pred)) ∧ Below w.heap.size w w' := by
 have hbw := Below.refl w.heap.size w;refine EC.enter 9 Try.func77 rfl rfl rfl (EC.seq (EC.region (EL.as rfl rfl (EL.nil (EX.seq (EC.seq (EC.region (EL.mv rfl rfl (EL.mv rfl rfl ?_)))))))));refine EL.call (cA2 cF95 rfl rfl) rfl (QGC l pred p0 _ w B hr hB hn hf) ?_
 rintro e w2 ⟨⟨r, rfl, hres⟩, hc2⟩
 refine ⟨_, rfl, ?_⟩;replace hbw := bo_ hbw hc2;refine EL.val (QAA rfl rfl hres) rfl (EL.as rfl rfl (EL.nil (EX.seq (EC.ret ?_))))
 exact EX.done (res1 rfl rfl) ⟨rfl, hbw⟩
theorem QJH (x lo hi : Int) (b1 b2 : Nat) (w : World) (hp : w.cell? ⟨b1, 0, none⟩ = some (.int .i64 lo)) (hq : w.cell? ⟨b2, 0, none⟩ = some (.int .i64 hi)) :
  Calls Try.prog 54 #[.int .i64 x, .pointer (some ⟨b1, 0, none⟩), .pointer (some ⟨b2, 0, none⟩)] w fun e w' => e = .returned (.bool (!inB lo hi x)) ∧ Below w.heap.size w w' := by
 have hbw := Below.refl w.heap.size w;refine EC.enter 13 Try.func54 rfl rfl rfl (EC.seq (EC.region (EL.as rfl rfl (EL.nil (EX.seq (EC.seq (EC.region (EL.mv rfl rfl (EL.val (ld_3 rfl hp) rfl ?_)))))))))
 by_cases h1 : x < lo
 ·
  refine EL.val (ZO rfl rfl (by first | assumption | exact decide_eq_true (by omega))) rfl ?_
  refine EL.mv rfl rfl (EL.skip rfl rfl rfl rfl (EL.skip rfl rfl rfl rfl (EL.skip rfl rfl rfl rfl (EL.pt rfl rfl rfl (EL.as rfl rfl (EL.nil (EX.seq (EC.ret ?_))))))))
  exact EX.done (res1 rfl rfl) ⟨by congr 2; symm; first | (rw [Bool.not_eq_true', inB_not]; omega) | (rw [Bool.not_eq_false', inB_iff]; omega), hbw⟩
 ·
  refine EL.val (ZO rfl rfl (by first | assumption | exact decide_eq_false (by omega))) rfl ?_
  refine EL.mv rfl rfl (EL.mg rfl rfl rfl rfl (EL.valg rfl rfl (ld_3 rfl hq) rfl ?_))
  by_cases h2 : hi < x
  ·
   refine EL.valg rfl rfl (YP rfl rfl (by first | assumption | exact decide_eq_true (by omega))) rfl ?_
   refine EL.pf rfl rfl rfl (EL.as rfl rfl (EL.nil (EX.seq (EC.ret ?_))))
   exact EX.done (res1 rfl rfl) ⟨by congr 2; symm; first | (rw [Bool.not_eq_true', inB_not]; omega) | (rw [Bool.not_eq_false', inB_iff]; omega), hbw⟩
  ·
   refine EL.valg rfl rfl (YP rfl rfl (by first | assumption | exact decide_eq_false (by omega))) rfl ?_
   refine EL.pf rfl rfl rfl (EL.as rfl rfl (EL.nil (EX.seq (EC.ret ?_))))
   exact EX.done (res1 rfl rfl) ⟨by congr 2; symm; first | (rw [Bool.not_eq_true', inB_not]; omega) | (rw [Bool.not_eq_false', inB_iff]; omega), hbw⟩
theorem QCP (lo hi : Int) (l : List Int) (v : Value) (w : World) (B : Nat) (hr : Rd w B 1 v l.length (ints l)) (hB : B ≤ w.heap.size) (hn : l.length ≤ 9223372036854775806) :
  Calls Try.prog 35 #[.int .i64 lo, .int .i64 hi, v] w fun e w' => e = .returned (.bool (l.all (inB lo hi))) ∧ Below w.heap.size w w' := by
 have hbw := Below.refl w.heap.size w;refine EC.enter 11 Try.func35 rfl rfl rfl (EC.seq (EC.region (EL.newP (bx_3 rfl rfl) rfl ?_)));intro g1 w1 q1 hb1 hg1 hl1;have bhbw_1 := Nat.le_trans hbw.size hg1;replace hbw := bo_ hbw hb1;clear hb1 hg1 hl1;refine EL.newP (bx_3 rfl rfl) rfl ?_;intro g2 w2 q2 hb2 hg2 hl2;have n1_2 := q1.na hg2;have bhbw_2 := Nat.le_trans hbw.size hg2;replace q1 := q1.bl hb2;replace hbw := bo_ hbw hb2;clear hb2 hg2 hl2;refine EL.as rfl rfl (EL.nil (EX.seq (EC.seq (EC.region (EL.mv rfl rfl (EL.val (QHr rfl rfl) rfl ?_))))));refine EL.call (cA2 cF53 rfl rfl) rfl (QEn l (fun x => !inB lo hi x) _ _ _ _ B (hr.below (hbw.mono hB)) (Nat.le_trans hB hbw.size) hn (fun x _ W hb => QJH x lo hi _ _ W (ZD hb (q1.at (j := 0) rfl)) (ZD hb (q2.at (j := 0) rfl)))) ?_
 rintro e w3 ⟨rfl, hc3⟩
 refine ⟨_, rfl, ?_⟩;replace q1 := q1.bl hc3;replace q2 := q2.bl hc3;replace hbw := bo_ hbw hc3;clear hc3;refine EL.val (ZV rfl) rfl (EL.as rfl rfl (EL.nil (EX.seq (EC.ret ?_))))
 exact EX.done (res1 rfl rfl) ⟨by rw [QBF]; simp, hbw⟩
theorem ZW {lo hi x : Int} {g : Nat} {w : World} {b : Bool} (hq : Blk w g 3 #[.int .i64 x]) (h : inB lo hi x = b) :
  Calls Try.prog 35 #[.int .i64 lo, .int .i64 hi, .slice (some ⟨g, 0, none⟩) 1 1] w fun e w' => e = .returned (.bool b) ∧ Below w.heap.size w w' := by
 have key := QCP lo hi [x] _ w w.heap.size (YG (k := 1) (l := [.int .i64 x]) hq rfl) (Nat.le_refl _) (by simp)
 simpa [h] using key
theorem QBW {lo hi x y : Int} {g : Nat} {w : World} {b : Bool} (hq : Blk w g 3 #[.int .i64 x, .int .i64 y]) (h : (inB lo hi x && inB lo hi y) = b) :
  Calls Try.prog 35 #[.int .i64 lo, .int .i64 hi, .slice (some ⟨g, 0, none⟩) 2 2] w fun e w' => e = .returned (.bool b) ∧ Below w.heap.size w w' := by
 have key := QCP lo hi [x, y] _ w w.heap.size (YG (k := 2) (l := [.int .i64 x, .int .i64 y]) hq rfl) (Nat.le_refl _) (by simp)
 simpa [h] using key
theorem QJL (x : Bd) (lo hi : Int) (w : World) : Calls Try.prog 34 #[.agg #[.int .i64 x.lo, .int .i64 x.hi], .int .i64 lo, .int .i64 hi] w fun e w' => e = .returned (.bool (bdOk lo hi x)) ∧ Below w.heap.size w w' := by
 have hbw := Below.refl w.heap.size w;refine EC.enter 22 Try.func34 rfl rfl rfl (EC.seq (EC.region (EL.newP (QBx rfl) rfl ?_)));intro g1 w1 q1 hb1 hg1 hl1;have bhbw_1 := Nat.le_trans hbw.size hg1;replace hbw := bo_ hbw hb1;clear hb1 hg1 hl1;refine EL.as rfl rfl (EL.nil (EX.seq (EC.seq (EC.region (EL.mv rfl rfl (EL.mv rfl rfl (EL.val (ZS rfl) rfl (EL.val (ld_3 rfl (q1.at (j := 0) rfl)) rfl (EL.val (ZR rfl) rfl ?_)))))))));refine EL.val (ld_3 rfl (q1.at (j := 1) rfl)) rfl (EL.newS (QBy rfl rfl) rfl ?_);intro g2 w2 q2 hb2 hg2 hl2;have n1_2 := q1.na hg2;have bhbw_2 := Nat.le_trans hbw.size hg2;replace q1 := q1.bl hb2;replace hbw := bo_ hbw hb2;clear hb2 hg2 hl2
 cases h1 : (inB lo hi x.lo && inB lo hi x.hi)
 ·
  refine EL.call (cA3 cF35 rfl rfl rfl) rfl (QBW q2 h1) ?_
  rintro e w3 ⟨rfl, hc3⟩
  refine ⟨_, rfl, ?_⟩;replace q1 := q1.bl hc3;replace q2 := q2.bl hc3;replace hbw := bo_ hbw hc3;clear hc3;refine EL.mv rfl rfl (EL.skip rfl rfl rfl rfl (EL.skip rfl rfl rfl rfl (EL.skip rfl rfl rfl rfl (EL.skip rfl rfl rfl rfl (EL.skip rfl rfl rfl rfl (EL.pf rfl rfl rfl (EL.as rfl rfl (EL.nil (EX.seq ?_)))))))));refine EC.ret ?_
  exact EX.done (res1 rfl rfl) ⟨by congr 2; simp [bdOk, *], hbw⟩
 ·
  refine EL.call (cA3 cF35 rfl rfl rfl) rfl (QBW q2 h1) ?_
  rintro e w4 ⟨rfl, hc4⟩
  refine ⟨_, rfl, ?_⟩;replace q1 := q1.bl hc4;replace q2 := q2.bl hc4;replace hbw := bo_ hbw hc4;clear hc4;refine EL.mv rfl rfl (EL.valg rfl rfl (ZS rfl) rfl (EL.valg rfl rfl (ld_3 rfl (q1.at (j := 0) rfl)) rfl (EL.valg rfl rfl (ZR rfl) rfl (EL.valg rfl rfl (ld_3 rfl (q1.at (j := 1) rfl)) rfl ?_))))
  by_cases h2 : x.lo ≤ x.hi
  ·
   refine EL.valg rfl rfl (QAa rfl rfl (by first | assumption | exact decide_eq_true (by omega))) rfl ?_
   refine EL.pt rfl rfl rfl (EL.as rfl rfl (EL.nil (EX.seq (EC.ret ?_))))
   exact EX.done (res1 rfl rfl) ⟨by congr 2; simp [bdOk, *], hbw⟩
  ·
   refine EL.valg rfl rfl (QAa rfl rfl (by first | assumption | exact decide_eq_false (by omega))) rfl ?_
   refine EL.pt rfl rfl rfl (EL.as rfl rfl (EL.nil (EX.seq (EC.ret ?_))))
   exact EX.done (res1 rfl rfl) ⟨by congr 2; simp [bdOk, *], hbw⟩
theorem QBn {x : Bd} {lo hi : Int} {b : Bool} (h : bdOk lo hi x = b) (w : World) : Calls Try.prog 34 #[.agg #[.int .i64 x.lo, .int .i64 x.hi], .int .i64 lo, .int .i64 hi] w fun e w' => e = .returned (.bool b) ∧ Below w.heap.size w w' := h ▸ QJL x lo hi w
theorem QBk {x : Bd} {b : Bool} (h : denB x = b) (w : World) : Calls Try.prog 40 #[.agg #[.int .i64 x.lo, .int .i64 x.hi]] w fun e w' => e = .returned (.bool b) ∧ Below w.heap.size w w' := by
 unfold denB at h
 have hbw := Below.refl w.heap.size w;refine EC.enter 5 Try.func40 rfl rfl rfl (EC.seq (EC.region (EL.newP (QBx rfl) rfl ?_)));intro g1 w1 q1 hb1 hg1 hl1;have bhbw_1 := Nat.le_trans hbw.size hg1;replace hbw := bo_ hbw hb1;clear hb1 hg1 hl1;refine EL.as rfl rfl (EL.nil (EX.seq (EC.seq (EC.region (EL.val (Zp rfl (q1.at (j := 0) rfl) (q1.at (j := 1) rfl)) rfl (EL.call (cA3 cF34 rfl rfl rfl) rfl (QBn h _) ?_))))))
 rintro e w2 ⟨rfl, hc2⟩
 refine ⟨_, rfl, ?_⟩;replace q1 := q1.bl hc2;replace hbw := bo_ hbw hc2;clear hc2;refine EL.as rfl rfl (EL.nil (EX.seq (EC.ret ?_)))
 exact EX.done (res1 rfl rfl) ⟨rfl, hbw⟩
theorem QHV (m : Int) (x : Hold) (b : Nat) (w : World) (hp : w.cell? ⟨b, 0, none⟩ = some (.int .i64 m)) : Calls Try.prog 78 #[.agg #[.int .i64 x.pos, .int .i64 x.lots], .pointer (some ⟨b, 0, none⟩)] w fun e w' => e = .returned (.bool (!QDQ m x)) ∧ Below w.heap.size w w' := by
 have hbw := Below.refl w.heap.size w;refine EC.enter 18 Try.func78 rfl rfl rfl (EC.seq (EC.region (EL.newP (QLp rfl) rfl ?_)));intro g1 w1 q1 hb1 hg1 hl1;have bhbw_1 := Nat.le_trans hbw.size hg1;replace hbw := bo_ hbw hb1;clear hb1 hg1 hl1;refine EL.as rfl rfl (EL.nil (EX.seq (EC.seq (EC.region (EL.val (QBp rfl) rfl (EL.val (ld_3 rfl (ZD hbw hp)) rfl (EL.val (QHA rfl) rfl (EL.val (ld_3 rfl (q1.at (j := 0) rfl)) rfl (EL.newS (Zt rfl) rfl ?_)))))))));intro g2 w2 q2 hb2 hg2 hl2;have n1_2 := q1.na hg2;have bhbw_2 := Nat.le_trans hbw.size hg2;replace q1 := q1.bl hb2;replace hbw := bo_ hbw hb2;clear hb2 hg2 hl2
 cases h1 : inB 0 m x.pos
 ·
  refine EL.call (cA3 cF35 rfl rfl rfl) rfl (ZW q2 h1) ?_
  rintro e w3 ⟨rfl, hc3⟩
  refine ⟨_, rfl, ?_⟩;replace q1 := q1.bl hc3;replace q2 := q2.bl hc3;replace hbw := bo_ hbw hc3;clear hc3;refine EL.val (ZV rfl) rfl (EL.mv rfl rfl (EL.skip rfl rfl rfl rfl (EL.skip rfl rfl rfl rfl (EL.skip rfl rfl rfl rfl (EL.skip rfl rfl rfl rfl (EL.skip rfl rfl rfl rfl (EL.pt rfl rfl rfl (EL.as rfl rfl (EL.nil ?_)))))))));refine EX.seq (EC.ret ?_)
  exact EX.done (res1 rfl rfl) ⟨by congr 2; simp [QDQ, *], hbw⟩
 ·
  refine EL.call (cA3 cF35 rfl rfl rfl) rfl (ZW q2 h1) ?_
  rintro e w4 ⟨rfl, hc4⟩
  refine ⟨_, rfl, ?_⟩;replace q1 := q1.bl hc4;replace q2 := q2.bl hc4;replace hbw := bo_ hbw hc4;clear hc4;refine EL.val (ZV rfl) rfl (EL.mv rfl rfl (EL.valg rfl rfl (QG_ rfl) rfl (EL.valg rfl rfl (ld_3 rfl (q1.at (j := 1) rfl)) rfl (EL.newSg rfl rfl (Zt rfl) rfl ?_))));intro g5 w5 q5 hb5 hg5 hl5;have n1_5 := q1.na hg5;have n2_5 := q2.na hg5;have bhbw_5 := Nat.le_trans hbw.size hg5;replace q1 := q1.bl hb5;replace q2 := q2.bl hb5;replace hbw := bo_ hbw hb5;clear hb5 hg5 hl5
  cases h2 : inB 0 20 x.lots
  ·
   refine EL.callg rfl rfl (cA3 cF35 rfl rfl rfl) rfl (ZW q5 h2) ?_
   rintro e w6 ⟨rfl, hc6⟩
   refine ⟨_, rfl, ?_⟩;replace q1 := q1.bl hc6;replace q2 := q2.bl hc6;replace q5 := q5.bl hc6;replace hbw := bo_ hbw hc6;clear hc6;refine EL.valg rfl rfl (ZV rfl) rfl (EL.pf rfl rfl rfl (EL.as rfl rfl (EL.nil (EX.seq (EC.ret ?_)))))
   exact EX.done (res1 rfl rfl) ⟨by congr 2; simp [QDQ, *], hbw⟩
  ·
   refine EL.callg rfl rfl (cA3 cF35 rfl rfl rfl) rfl (ZW q5 h2) ?_
   rintro e w7 ⟨rfl, hc7⟩
   refine ⟨_, rfl, ?_⟩;replace q1 := q1.bl hc7;replace q2 := q2.bl hc7;replace q5 := q5.bl hc7;replace hbw := bo_ hbw hc7;clear hc7;refine EL.valg rfl rfl (ZV rfl) rfl (EL.pf rfl rfl rfl (EL.as rfl rfl (EL.nil (EX.seq (EC.ret ?_)))))
   exact EX.done (res1 rfl rfl) ⟨by congr 2; simp [QDQ, *], hbw⟩
section
variable {n : Nat} {σ : Sg} {w : World} {dst : Option Tmp} {ty : TypeId} {pos : String} {af : Array Edge} {g : Option (Nat × Bool)} {x y z : Operand} {at' : Array TypeId}
theorem QAs {b o m c k : Nat} (hx : evS σ x = some (.slice (some ⟨b, o, none⟩) m c)) (hy : evS σ y = some (.int .i64 (k : Int))) (hk : k < m) : ZE Try.prog n σ w ⟨dst, .indexAddr 67 x y, ty, pos, af, g⟩ (.pointer (some ⟨b, o + k * 2, none⟩)) := fun a ha => by
 have k0 : (0 : Int) ≤ (k : Int) := Int.natCast_nonneg _;have k1 : (k : Int) < (m : Int) := by omega
 simp only [execOp, ha.eval hx, ha.eval hy]
 simp [go_sem, k0, k1]
theorem QK8 {b o m c lo r : Nat} (hx : evS σ x = some (.slice (some ⟨b, o, none⟩) m c)) (hl : evS σ y = some (.int .i64 (lo : Int))) (h1 : lo ≤ m) (hr : (if c = lo then o else o + lo * 2) = r) : ZE Try.prog n σ w ⟨dst, .slice 67 x (some y) none none, ty, pos, af, g⟩ (.slice (some ⟨b, r, none⟩) (m - lo) (c - lo)) := fun a ha => by
 have k0 : (0 : Int) ≤ (lo : Int) := Int.natCast_nonneg _;have k2 : (lo : Int) ≤ (m : Int) := by omega
 subst hr
 simp only [execOp, Option.map_some, Option.map_none, ha.eval hx, ha.eval hl]
 by_cases e : c = lo
 ·subst e; simp [go_sem, k0, k2, h1]
 ·simp [go_sem, k0, k2, h1, e]
theorem QG0 {A : Option Addr} {m c : Nat} (hx : evS σ x = some (.slice A m c)) : ZE Try.prog n σ w ⟨dst, .call { callee := .builtin .len, args := #[x], argTypes := #[67] }, ty, pos, af, g⟩ (.int .i64 (m : Int)) := fun a ha => by
 simp only [execOp, resolve, List.map_toArray, List.map_cons, List.map_nil, ha.eval hx]
 simp [go_sem]
theorem QEf {b o : Nat} {v0 v1 : Value} (hx : evS σ x = some (.pointer (some ⟨b, o, none⟩))) (c0 : w.cell? ⟨b, o, none⟩ = some v0) (c1 : w.cell? ⟨b, o + 1, none⟩ = some v1) : ZE Try.prog n σ w ⟨dst, .load 111 x, ty, pos, af, g⟩ (.agg #[v0, v1]) := fun a ha => by
 simp only [execOp, ha.eval hx]
 simp [go_sem, c0, c1]
theorem QHH    : ZE Try.prog n σ w ⟨dst, .build 111 #[], ty, pos, af, g⟩ (.agg #[.int .i64 0, .int .i64 0]) := fun a _ => by
 simp only [execOp, List.map_toArray, List.map_nil]
 go_simp
theorem QGv {a0 a1 b0 b1 : Int} {r : Bool} (hx : evS σ x = some (.agg #[.int .i64 a0, .int .i64 a1])) (hy : evS σ y = some (.agg #[.int .i64 b0, .int .i64 b1])) (hc : decide (¬ (a0 = b0 ∧ a1 = b1)) = r) : ZE Try.prog n σ w ⟨dst, .binOp .neq 111 x y 111, ty, pos, af, g⟩ (.bool r) := fun a ha => by
 subst hc
 simp only [execOp, ha.eval hx, ha.eval hy]
 go_simp
 repeat' split
 all_goals simp_all
theorem QGV (a : Act) (_ : Env n σ a) : (execOp a.eval ⟨dst, .alloc 111, ty, pos, af, g⟩).run Try.prog w = .ok (.value (.pointer (some ⟨w.heap.size, 0, none⟩))) (w.alloc (.cells #[.int .i64 0, .int .i64 0] 111)) := by
 simp only [execOp]
 simp [go_sem]
theorem QFz : (Try.prog.info? 111).map (·.size) = some 2 := by kernel_rfl
theorem YJ {b o : Nat} (hx : evS σ x = some (.pointer (some ⟨b, o, none⟩))) : ZE Try.prog n σ w ⟨dst, .fieldAddr 111 x 0, ty, pos, af, g⟩ (.pointer (some ⟨b, o, none⟩)) := fun a ha => by
 simp only [execOp, ha.eval hx]
 simp [go_sem]
theorem Y9 {b o : Nat} (hx : evS σ x = some (.pointer (some ⟨b, o, none⟩))) : ZE Try.prog n σ w ⟨dst, .fieldAddr 111 x 1, ty, pos, af, g⟩ (.pointer (some ⟨b, o + 1, none⟩)) := fun a ha => by
 simp only [execOp, ha.eval hx]
 simp [go_sem]
theorem QKt {v0 v1 v2 v3 v4 : Value} (hx : evS σ x = some (.agg #[v0, v1, v2, v3, v4])) (a : Act) (ha : Env n σ a) : (execOp a.eval ⟨dst, .box 70 x, ty, pos, af, g⟩).run Try.prog w = .ok (.value (.pointer (some ⟨w.heap.size, 0, none⟩))) (w.alloc (.cells #[v0, v1, v2, v3, v4] 70)) := by
 simp only [execOp, ha.eval hx]
 simp [go_sem]
theorem QBo {b o : Nat} (hx : evS σ x = some (.pointer (some ⟨b, o, none⟩))) : ZE Try.prog n σ w ⟨dst, .fieldAddr 70 x 4, ty, pos, af, g⟩ (.pointer (some ⟨b, o + 4, none⟩)) := fun a ha => by
 simp only [execOp, ha.eval hx]
 simp [go_sem]
theorem QG2 {b o : Nat} {v0 : Value} (hx : evS σ x = some (.pointer (some ⟨b, o, none⟩))) (c0 : w.cell? ⟨b, o, none⟩ = some v0) : ZE Try.prog n σ w ⟨dst, .load 68 x, ty, pos, af, g⟩ (v0) := fun a ha => by
 simp only [execOp, ha.eval hx]
 simp [go_sem, c0]
theorem QHq {x0 : Operand} {v0 : Value} (h0 : evS σ x0 = some v0) : ZE Try.prog n σ w ⟨dst, .makeFunc (.func 78) #[] #[x0], ty, pos, af, g⟩ (.func (.func 78) #[] #[v0]) := fun a ha => by
 simp only [execOp, List.map_toArray, List.map_cons, List.map_nil, ha.eval h0]
 simp [go_sem]
theorem cF77 : cF 77 := fun _ _ => by simp [go_sem]
theorem QEk {b o : Nat} (hx : evS σ x = some (.pointer (some ⟨b, o, none⟩))) : ZE Try.prog n σ w ⟨dst, .fieldAddr 70 x 1, ty, pos, af, g⟩ (.pointer (some ⟨b, o + 1, none⟩)) := fun a ha => by
 simp only [execOp, ha.eval hx]
 simp [go_sem]
theorem QG9 {b o : Nat} (hx : evS σ x = some (.pointer (some ⟨b, o, none⟩))) : ZE Try.prog n σ w ⟨dst, .fieldAddr 70 x 2, ty, pos, af, g⟩ (.pointer (some ⟨b, o + 2, none⟩)) := fun a ha => by
 simp only [execOp, ha.eval hx]
 simp [go_sem]
theorem Yz {b o : Nat} (hx : evS σ x = some (.pointer (some ⟨b, o, none⟩))) : ZE Try.prog n σ w ⟨dst, .fieldAddr 70 x 3, ty, pos, af, g⟩ (.pointer (some ⟨b, o + 3, none⟩)) := fun a ha => by
 simp only [execOp, ha.eval hx]
 simp [go_sem]
theorem QCN {b o : Nat} {v0 : Value} (hx : evS σ x = some (.pointer (some ⟨b, o, none⟩))) (c0 : w.cell? ⟨b, o, none⟩ = some v0) : ZE Try.prog n σ w ⟨dst, .load 67 x, ty, pos, af, g⟩ (v0) := fun a ha => by
 simp only [execOp, ha.eval hx]
 simp [go_sem, c0]
theorem cF79 : cF 79 := fun _ _ => by simp [go_sem]
end
theorem QGH {l : List HRow} (h1 : inB 2 20 (l.length : Nat) = true) (h2 : (l.getD 0 ZL).draft = 0) (h3 : (l.getD 0 ZL).vol = 0) (h4 : YF l (l.length - 1) = true) : YI l = true := by simp only [YI, h1, h2, h3, h4]; rfl
theorem QGI {l : List HRow} (h1 : inB 2 20 (l.length : Nat) = false) : YI l = false := by simp only [YI, h1]; rfl
theorem QFc {l : List HRow} (h : ¬ ((l.getD 0 ZL).draft = 0 ∧ (l.getD 0 ZL).vol = 0)) : YI l = false := by
 cases e : YI l with
 | false => rfl
 | true => exact absurd ⟨(QCH e).d0, (QCH e).v0⟩ h
theorem QCR {l : List HRow} (h : YF l (l.length - 1) = false) : YI l = false := by simp [YI, h]
set_option maxRecDepth 100000 in
theorem QGJ (l : List HRow) (v : Value) (w : World) (B : Nat) (hr : Rd w B 2 v l.length (hrowsC l)) (hB : B ≤ w.heap.size) (hlen : l.length ≤ 9223372036854775806) :
  Calls Try.prog 79 #[v] w fun e w' => e = .returned (.bool (YI l)) ∧ Below w.heap.size w w' := by
 obtain ⟨A, c, rfl, hcap⟩ := hr.shape;have hbw := Below.refl w.heap.size w;refine EC.enter 50 Try.func79 rfl rfl rfl (EC.seq (EC.region (EL.as rfl rfl (EL.nil (EX.seq (EC.seq (EC.seq (EC.region (EL.mv rfl rfl ?_)))))))));refine EL.val (QG0 rfl) rfl (EL.newS (Zt rfl) rfl ?_);intro g1 w1 q1 hb1 hg1 hl1;have bhbw_1 := Nat.le_trans hbw.size hg1;replace hbw := bo_ hbw hb1;clear hb1 hg1 hl1
 cases h1 : inB 2 20 (l.length : Nat)
 ·
  refine EL.call (cA3 cF35 rfl rfl rfl) rfl (ZW q1 h1) ?_
  rintro e w2 ⟨rfl, hc2⟩
  refine ⟨_, rfl, ?_⟩;replace q1 := q1.bl hc2;replace hbw := bo_ hbw hc2;clear hc2;refine EL.val (ZV rfl) rfl (EL.mv rfl rfl (EL.skip rfl rfl rfl rfl (EL.skip rfl rfl rfl rfl (EL.skip rfl rfl rfl rfl (EL.skip rfl rfl rfl rfl (EL.skip rfl rfl rfl rfl (EL.pt rfl rfl rfl (EL.nil (EX.seq ?_)))))))));refine EC.yes rfl (EC.seq (EC.region (EL.as rfl rfl (EL.nil (EX.seq (EC.ret (EX.seq_ret ?_)))))))
  exact EX.done (res1 rfl rfl) ⟨by rw [QGI h1], hbw⟩
 ·
  refine EL.call (cA3 cF35 rfl rfl rfl) rfl (ZW q1 h1) ?_
  rintro e w3 ⟨rfl, hc3⟩
  refine ⟨_, rfl, ?_⟩;replace q1 := q1.bl hc3;replace hbw := bo_ hbw hc3;clear hc3;refine EL.val (ZV rfl) rfl (EL.mv rfl rfl (EL.mg rfl rfl rfl rfl ?_));obtain ⟨b, o, rfl, _, cc⟩ := Z9 l 0 (by have := inB_iff.1 h1; omega) w B _ _ _ hr
  refine EL.valg rfl rfl (QAs rfl rfl (k := 0) (by have := inB_iff.1 h1; omega)) rfl ?_
  refine EL.valg rfl rfl (QEf rfl (ZD hbw cc.c0) (ZD hbw cc.c1)) rfl (EL.valg rfl rfl (QHH) rfl ?_)
  by_cases h2 : ¬ ((l.getD 0 ZL).draft = 0 ∧ (l.getD 0 ZL).vol = 0)
  ·
   refine EL.valg rfl rfl (QGv rfl rfl (decide_eq_true h2)) rfl (EL.pf rfl rfl rfl (EL.nil (EX.seq (EC.yes rfl (EC.seq (EC.region (EL.as rfl rfl (EL.nil (EX.seq ?_)))))))));refine EC.ret (EX.seq_ret ?_)
   exact EX.done (res1 rfl rfl) ⟨by rw [QFc h2], hbw⟩
  ·
   refine EL.valg rfl rfl (QGv rfl rfl (decide_eq_false h2)) rfl (EL.pf rfl rfl rfl (EL.nil (EX.seq (EC.no rfl (EC.skip (EX.seq (EC.seq (EC.seq (EC.region ?_)))))))));have hz := Classical.not_not.1 h2;have hn_ := inB_iff.1 h1;have hsm : YF l 0 = true := rfl;refine EL.mv rfl rfl ?_;refine EL.val (QK8 (lo := 1) rfl rfl (by omega) (if_neg (by omega))) rfl ?_
   refine EL.val (QG0 rfl) rfl (EL.mv rfl rfl (EL.nil (EX.seq (EC.block ?_))));refine EC.loopD [2, 3, 4, 20, 21, 22, 23, 24, 25, 26, 27, 28, 29, 30, 31, 32, 33, 34, 35, 36, 37, 38, 39, 40, 41, 42, 43, 44, 45, 46, 47, 48, 49] (fun x : Nat => [(20, .int .i64 (x : Nat))]) (fun x W => x ≤ l.length - 1 ∧ YF l x = true ∧ Below w.heap.size w W) (fun x => l.length - 1 - x) 0 ⟨Nat.zero_le _, rfl, hbw⟩ ⟨rfl, trivial⟩ ?_
   clear hbw
   rintro k wk ⟨hk, hst, hbw⟩
   by_cases hlt : k < l.length - 1
   ·
    obtain ⟨b1, o1, eb1, _, cy⟩ := Z9 l (k + 1) (by omega) w B _ _ _ hr
    injection eb1 with eb1
    injection eb1 with e1 e2
    subst e1 e2;obtain ⟨b1, o1, eb1, _, cx⟩ := Z9 l k (by omega) w B _ _ _ hr
    injection eb1 with eb1
    injection eb1 with e1 e2
    subst e1 e2;have hbd := QCv hz.1 hz.2 k hst;have hon := QCK l k;have hno := QIR (l := l) (n := l.length - 1) (k := k) hlt
    unfold QCw at hon hno
    obtain ⟨p, ep⟩ : ∃ z, z = l.getD k ZL := ⟨_, rfl⟩;obtain ⟨y, ey⟩ : ∃ z, z = l.getD (k + 1) ZL := ⟨_, rfl⟩;rw [← ep, ← ey] at hon hno;rw [← ep] at hbd cx;rw [← ey] at cy;have cy0 : w.cell? ⟨b, o + 1 * 2 + k * 2, none⟩ = some (.int .i64 y.draft) := by rw [show o + 1 * 2 + k * 2 = o + (k + 1) * 2 by omega]; exact cy.c0
    have cy1 : w.cell? ⟨b, o + 1 * 2 + k * 2 + 1, none⟩ = some (.int .i64 y.vol) := by rw [show o + 1 * 2 + k * 2 = o + (k + 1) * 2 by omega]; exact cy.c1
    refine EC.seq (EC.region ?_);refine EL.val (ZO rfl rfl (decide_eq_true (by omega))) rfl ?_
    refine EL.nil (EX.seq (EC.seq (EC.yes rfl (EC.skip (EX.seq (EC.seq (EC.block (EC.seq (EC.region ?_)))))))));refine EL.mv rfl rfl ?_;refine EL.val (QAs rfl rfl (by omega)) rfl ?_
    refine EL.val (QEf rfl (ZD hbw cy0) (ZD hbw cy1)) rfl (EL.newP QGV rfl ?_);intro g4 w4 q4 hb4 hg4 hl4;have bhbw_4 := Nat.le_trans hbw.size hg4;replace hbw := bo_ hbw hb4;clear hb4 hg4 hl4;refine EL.as rfl rfl (EL.store rfl rfl q4 QFz rfl rfl rfl rfl ?_);intro w5 hq5 hg5;replace hbw := ZC hbw hg5 bhbw_4;replace q4 := hq5;clear hg5 hq5;refine EL.nil (EX.seq (EC.seq ?_))
    cases h3 : inB (p.draft + 1) 1000 y.draft
    ·
     have hsn := hno (by rw [h3]; rfl)
     have lt_4 := q4.lt;refine EC.regionP [[], [], [0, 1], [0, 1, 2], [0, 1, 2, 3], [0, 1, 2, 3, 4], [], [6], [6, 7], [0, 1, 2, 3, 4, 5, 6, 7, 8], [0, 1, 2, 3, 4, 5, 6, 7, 8, 9], [0, 1, 2, 3, 4, 5, 6, 7, 8, 9, 10], [0, 1, 2, 3, 4, 5, 6, 7, 8, 9, 10, 11], [0, 1, 2, 3, 4, 5, 6, 7, 8, 9, 10, 11], [0, 1, 2, 3, 4, 5, 6, 7, 8, 9, 10, 11, 12, 13], [0, 1, 2, 3, 4, 5, 6, 7, 8, 9, 10, 11, 12, 13, 14], [0, 1, 2, 3, 4, 5, 6, 7, 8, 9, 10, 11, 12, 13, 14, 15], [0, 1, 2, 3, 4, 5, 6, 7, 8, 9, 10, 11, 12, 13, 14, 15, 16], [0, 1, 2, 3, 4, 5, 6, 7, 8, 9, 10, 11], [0, 1, 2, 3, 4, 5, 6, 7, 8, 9, 10, 11, 18], [0, 1, 2, 3, 4, 5, 6, 7, 8, 9, 10, 11, 18, 19], [0, 1, 2, 3, 4, 5, 6, 7, 8, 9, 10, 11, 12, 13, 14, 15, 16, 17, 18, 19, 20], [0, 1, 2, 3, 4, 5, 6, 7, 8, 9, 10, 11, 12, 13, 14, 15, 16, 17, 18, 19, 20, 21], [0, 1, 2, 3, 4, 5, 6, 7, 8, 9, 10, 11, 12, 13, 14, 15, 16, 17, 18, 19, 20, 21, 22]] 24 [] (phi (fun i_ r => match i_ with | 0 => r 0 = .slice (some ⟨b, o, none⟩) l.length c | 1 => r 1 = .int .i64 (k : Nat) | 2 => r 2 = .pointer (some ⟨b, o + k * 2, none⟩) | 3 => r 3 = .pointer (some ⟨b, o + k * 2, none⟩) | 4 => r 4 = .int .i64 p.draft | 5 => r 5 = .int .i64 (p.draft + 1) | 6 => r 6 = .pointer (some ⟨g4, 0, none⟩) | 7 => r 7 = .int .i64 y.draft | 9 => r 9 = .bool false | 10 => r 10 = .bool true | 11 => r 11 = .bool true | 12 => r 12 = undef | 13 => r 13 = undef | 14 => r 14 = undef | 15 => r 15 = undef | 16 => r 16 = undef | 17 => r 17 = undef | 18 => r 18 = undef | 19 => r 19 = undef | 20 => r 20 = undef | 21 => r 21 = undef | 22 => r 22 = undef | 23 => r 23 = .bool true | _ => True) [(8, fun r w_ => ∃ g_, r 8 = .slice (some ⟨g_, 0, none⟩) 1 1 ∧ Blk w_ g_ 3 #[.int .i64 y.draft] ∧ w5.heap.size ≤ g_)]) (by kernel_rfl) rfl rfl (ZT Zw (ZY)) (fun i_ hi_ => ?_) ?_
     ·match i_, hi_ with
      | 0, _ =>
       intro val w1 a hb ha hd;have ha := ha.s0 (d := 0) rfl
       exact ZB ha rfl rfl (ZH rfl) rfl rfl
      | 1, _ =>
       intro val w1 a hb ha hd;have ha := ha.s0 (d := 3) rfl
       exact ZB ha rfl rfl (ZH rfl) rfl rfl
      | 2, _ =>
       intro val w1 a hb ha hd;have e0 : val 0 = _ := hd 0 (ZA.1 rfl);have e1 : val 1 = _ := hd 1 (ZA.1 rfl);have ha := ha.s2 (d := 26) (e := 25) rfl e1 rfl e0
       exact ZB ha rfl rfl (QAs rfl rfl (show k < l.length by omega)) rfl rfl
      | 3, _ =>
       intro val w1 a hb ha hd;have e2 : val 2 = _ := hd 2 (ZA.1 rfl);have ha := ha.s1 (d := 27) rfl e2
       exact ZB ha rfl rfl (YJ rfl) rfl rfl
      | 4, _ =>
       intro val w1 a hb ha hd;have e3 : val 3 = _ := hd 3 (ZA.1 rfl);have ha := ha.s1 (d := 28) rfl e3
       exact ZB ha rfl rfl (ld_3 rfl (ZD ((hbw.trans (hb.mono hbw.size))) cx.c0)) rfl rfl
      | 5, _ =>
       intro val w1 a hb ha hd;have e4 : val 4 = _ := hd 4 (ZA.1 rfl);have ha := ha.s1 (d := 29) rfl e4
       exact ZB ha rfl rfl (ZM rfl rfl (IntWalk.i64_in _ ⟨by omega, by omega⟩)) rfl rfl
      | 6, _ =>
       intro val w1 a hb ha hd;have ha := ha.s0 (d := 4) rfl
       exact ZB ha rfl rfl (YJ rfl) rfl rfl
      | 7, _ =>
       intro val w1 a hb ha hd;have e6 : val 6 = _ := hd 6 (ZA.1 rfl);have ha := ha.s1 (d := 31) rfl e6
       exact ZB ha rfl rfl (ld_3 rfl ((q4.below hb q4.lt).at (j := 0) rfl)) rfl rfl
      | 8, _ =>
       intro val w1 a hb ha hd;have e7 : val 7 = _ := hd 7 (ZA.1 rfl);have ha := ha.s1 (d := 32) rfl e7
       exact YB ha rfl rfl (Zt rfl) rfl (fun g w' hq _ hge => ⟨g, rfl, hq, Nat.le_trans hb.size hge⟩)
      | 9, _ =>
       intro val w1 a hb ha hd;have e5 : val 5 = _ := hd 5 (ZA.1 rfl);obtain ⟨g8_, e8, q8_, h8_⟩ := hd 8 (ZA.1 rfl);change val 8 = _ at e8;have ha := ha.s2 (d := 33) (e := 30) rfl e8 rfl e5;refine Zf ha rfl rfl (cA3 cF35 rfl rfl rfl) (ZW q8_ h3) rfl ?_
       rintro e w' ⟨rfl, hb'⟩
       exact ⟨_, rfl, hb', rfl⟩
      | 10, _ =>
       intro val w1 a hb ha hd;have e9 : val 9 = _ := hd 9 (ZA.1 rfl);have ha := ha.s1 (d := 34) rfl e9
       exact ZB ha rfl rfl (ZV rfl) rfl rfl
      | 11, _ =>
       intro val w1 a hb ha hd;have e10 : val 10 = _ := hd 10 (ZA.1 rfl);have ha := ha.s1 (d := 35) rfl e10
       exact ZB ha rfl rfl (ZH rfl) rfl rfl
      | 12, _ =>
       intro val w1 a hb ha hd;have e11 : val 11 = _ := hd 11 (ZA.1 rfl);have ha := ha.s1 (d := 36) rfl e11
       exact Yb ha rfl rfl rfl rfl rfl rfl rfl
      | 13, _ =>
       intro val w1 a hb ha hd;have e11 : val 11 = _ := hd 11 (ZA.1 rfl);have ha := ha.s1 (d := 36) rfl e11
       exact Yb ha rfl rfl rfl rfl rfl rfl rfl
      | 14, _ =>
       intro val w1 a hb ha hd;have e11 : val 11 = _ := hd 11 (ZA.1 rfl);have ha := ha.s1 (d := 36) rfl e11
       exact Yb ha rfl rfl rfl rfl rfl rfl rfl
      | 15, _ =>
       intro val w1 a hb ha hd;have e11 : val 11 = _ := hd 11 (ZA.1 rfl);have ha := ha.s1 (d := 36) rfl e11
       exact Yb ha rfl rfl rfl rfl rfl rfl rfl
      | 16, _ =>
       intro val w1 a hb ha hd;have e11 : val 11 = _ := hd 11 (ZA.1 rfl);have ha := ha.s1 (d := 36) rfl e11
       exact Yb ha rfl rfl rfl rfl rfl rfl rfl
      | 17, _ =>
       intro val w1 a hb ha hd;have e11 : val 11 = _ := hd 11 (ZA.1 rfl);have ha := ha.s1 (d := 36) rfl e11
       exact Yb ha rfl rfl rfl rfl rfl rfl rfl
      | 18, _ =>
       intro val w1 a hb ha hd;have e11 : val 11 = _ := hd 11 (ZA.1 rfl);have ha := ha.s1 (d := 36) rfl e11
       exact Yb ha rfl rfl rfl rfl rfl rfl rfl
      | 19, _ =>
       intro val w1 a hb ha hd;have e11 : val 11 = _ := hd 11 (ZA.1 rfl);have ha := ha.s1 (d := 36) rfl e11
       exact Yb ha rfl rfl rfl rfl rfl rfl rfl
      | 20, _ =>
       intro val w1 a hb ha hd;have e11 : val 11 = _ := hd 11 (ZA.1 rfl);have ha := ha.s1 (d := 36) rfl e11
       exact Yb ha rfl rfl rfl rfl rfl rfl rfl
      | 21, _ =>
       intro val w1 a hb ha hd;have e11 : val 11 = _ := hd 11 (ZA.1 rfl);have ha := ha.s1 (d := 36) rfl e11
       exact Yb ha rfl rfl rfl rfl rfl rfl rfl
      | 22, _ =>
       intro val w1 a hb ha hd;have e11 : val 11 = _ := hd 11 (ZA.1 rfl);have ha := ha.s1 (d := 36) rfl e11
       exact Yb ha rfl rfl rfl rfl rfl rfl rfl
      | 23, _ =>
       intro val w1 a hb ha hd;have e11 : val 11 = _ := hd 11 (ZA.1 rfl);have e22 : val 22 = _ := hd 22 (ZA.1 rfl);have ha := ha.s2 (d := 47) (e := 36) rfl e22 rfl e11
       exact ZB ha rfl rfl (Yn rfl rfl) rfl rfl
      | k + 24, h => exact absurd h (by omega)
     ·intro val wR6 hb halc hd
      have e0 : val 0 = _ := hd 0 (by omega)
      have e1 : val 1 = _ := hd 1 (by omega)
      have e2 : val 2 = _ := hd 2 (by omega)
      have e3 : val 3 = _ := hd 3 (by omega)
      have e4 : val 4 = _ := hd 4 (by omega)
      have e5 : val 5 = _ := hd 5 (by omega)
      have e6 : val 6 = _ := hd 6 (by omega)
      have e7 : val 7 = _ := hd 7 (by omega)
      obtain ⟨ga8_6, e8, qa8_6, hga8_6⟩ := hd 8 (by omega)
      change val 8 = _ at e8;change Blk wR6 ga8_6 3 #[.int .i64 y.draft] at qa8_6;have e9 : val 9 = _ := hd 9 (by omega)
      have e10 : val 10 = _ := hd 10 (by omega)
      have e11 : val 11 = _ := hd 11 (by omega)
      have e12 : val 12 = _ := hd 12 (by omega)
      have e13 : val 13 = _ := hd 13 (by omega)
      have e14 : val 14 = _ := hd 14 (by omega)
      have e15 : val 15 = _ := hd 15 (by omega)
      have e16 : val 16 = _ := hd 16 (by omega)
      have e17 : val 17 = _ := hd 17 (by omega)
      have e18 : val 18 = _ := hd 18 (by omega)
      have e19 : val 19 = _ := hd 19 (by omega)
      have e20 : val 20 = _ := hd 20 (by omega)
      have e21 : val 21 = _ := hd 21 (by omega)
      have e22 : val 22 = _ := hd 22 (by omega)
      have e23 : val 23 = _ := hd 23 (by omega)
      refine EL.ends (cs := [_, _, _, _, _, _, _, _, _, _, _, _, _, _, _, _, _, _, _, _, _, _, _, _]) ⟨e0, e1, e2, e3, e4, e5, e6, e7, e8, e9, e10, e11, e12, e13, e14, e15, e16, e17, e18, e19, e20, e21, e22, e23, trivial⟩ rfl ?_;replace q4 := q4.bl hb;have n4_6 : g4 ≠ ga8_6 := Nat.ne_of_lt (Nat.lt_of_lt_of_le lt_4 hga8_6);have bhbw_6 := Nat.le_trans hbw.size hga8_6;replace hbw := bo_ hbw hb;clear hb;refine EL.nil (EX.seq (EC.yes rfl (EC.seq (EC.region (EL.as rfl rfl (EL.nil (EX.seq (EC.ret (EX.blk_ret ?_)))))))));refine EX.seq_ret (EX.seq_ret (EX.blk_ret (EX.seq_ret ?_)))
      exact EX.done (res1 rfl rfl) ⟨by rw [QCR hsn], hbw⟩
    ·
     cases h4 : inB (p.vol + 1) 100000 y.vol
     ·
      have hsn := hno (by rw [h3, h4]; rfl)
      have lt_4 := q4.lt;refine EC.regionP [[], [], [0, 1], [0, 1, 2], [0, 1, 2, 3], [0, 1, 2, 3, 4], [], [6], [6, 7], [0, 1, 2, 3, 4, 5, 6, 7, 8], [0, 1, 2, 3, 4, 5, 6, 7, 8, 9], [0, 1, 2, 3, 4, 5, 6, 7, 8, 9, 10], [0, 1, 2, 3, 4, 5, 6, 7, 8, 9, 10, 11], [0, 1, 2, 3, 4, 5, 6, 7, 8, 9, 10, 11], [0, 1, 2, 3, 4, 5, 6, 7, 8, 9, 10, 11, 12, 13], [0, 1, 2, 3, 4, 5, 6, 7, 8, 9, 10, 11, 12, 13, 14], [0, 1, 2, 3, 4, 5, 6, 7, 8, 9, 10, 11, 12, 13, 14, 15], [0, 1, 2, 3, 4, 5, 6, 7, 8, 9, 10, 11, 12, 13, 14, 15, 16], [0, 1, 2, 3, 4, 5, 6, 7, 8, 9, 10, 11], [0, 1, 2, 3, 4, 5, 6, 7, 8, 9, 10, 11, 18], [0, 1, 2, 3, 4, 5, 6, 7, 8, 9, 10, 11, 18, 19], [0, 1, 2, 3, 4, 5, 6, 7, 8, 9, 10, 11, 12, 13, 14, 15, 16, 17, 18, 19, 20], [0, 1, 2, 3, 4, 5, 6, 7, 8, 9, 10, 11, 12, 13, 14, 15, 16, 17, 18, 19, 20, 21], [0, 1, 2, 3, 4, 5, 6, 7, 8, 9, 10, 11, 12, 13, 14, 15, 16, 17, 18, 19, 20, 21, 22]] 24 [] (phi (fun i_ r => match i_ with | 0 => r 0 = .slice (some ⟨b, o, none⟩) l.length c | 1 => r 1 = .int .i64 (k : Nat) | 2 => r 2 = .pointer (some ⟨b, o + k * 2, none⟩) | 3 => r 3 = .pointer (some ⟨b, o + k * 2, none⟩) | 4 => r 4 = .int .i64 p.draft | 5 => r 5 = .int .i64 (p.draft + 1) | 6 => r 6 = .pointer (some ⟨g4, 0, none⟩) | 7 => r 7 = .int .i64 y.draft | 9 => r 9 = .bool true | 10 => r 10 = .bool false | 11 => r 11 = .bool false | 12 => r 12 = .slice (some ⟨b, o, none⟩) l.length c | 13 => r 13 = .int .i64 (k : Nat) | 14 => r 14 = .pointer (some ⟨b, o + k * 2, none⟩) | 15 => r 15 = .pointer (some ⟨b, o + k * 2 + 1, none⟩) | 16 => r 16 = .int .i64 p.vol | 17 => r 17 = .int .i64 (p.vol + 1) | 18 => r 18 = .pointer (some ⟨g4, 1, none⟩) | 19 => r 19 = .int .i64 y.vol | 21 => r 21 = .bool false | 22 => r 22 = .bool true | 23 => r 23 = .bool true | _ => True) [(8, fun r w_ => ∃ g_, r 8 = .slice (some ⟨g_, 0, none⟩) 1 1 ∧ Blk w_ g_ 3 #[.int .i64 y.draft] ∧ w5.heap.size ≤ g_), (20, fun r w_ => ∃ g_, r 20 = .slice (some ⟨g_, 0, none⟩) 1 1 ∧ Blk w_ g_ 3 #[.int .i64 y.vol] ∧ w5.heap.size ≤ g_)]) (by kernel_rfl) rfl rfl (ZT Zw (ZT Zw (ZY))) (fun i_ hi_ => ?_) ?_
      ·match i_, hi_ with
       | 0, _ =>
        intro val w1 a hb ha hd;have ha := ha.s0 (d := 0) rfl
        exact ZB ha rfl rfl (ZH rfl) rfl rfl
       | 1, _ =>
        intro val w1 a hb ha hd;have ha := ha.s0 (d := 3) rfl
        exact ZB ha rfl rfl (ZH rfl) rfl rfl
       | 2, _ =>
        intro val w1 a hb ha hd;have e0 : val 0 = _ := hd 0 (ZA.1 rfl);have e1 : val 1 = _ := hd 1 (ZA.1 rfl);have ha := ha.s2 (d := 26) (e := 25) rfl e1 rfl e0
        exact ZB ha rfl rfl (QAs rfl rfl (show k < l.length by omega)) rfl rfl
       | 3, _ =>
        intro val w1 a hb ha hd;have e2 : val 2 = _ := hd 2 (ZA.1 rfl);have ha := ha.s1 (d := 27) rfl e2
        exact ZB ha rfl rfl (YJ rfl) rfl rfl
       | 4, _ =>
        intro val w1 a hb ha hd;have e3 : val 3 = _ := hd 3 (ZA.1 rfl);have ha := ha.s1 (d := 28) rfl e3
        exact ZB ha rfl rfl (ld_3 rfl (ZD ((hbw.trans (hb.mono hbw.size))) cx.c0)) rfl rfl
       | 5, _ =>
        intro val w1 a hb ha hd;have e4 : val 4 = _ := hd 4 (ZA.1 rfl);have ha := ha.s1 (d := 29) rfl e4
        exact ZB ha rfl rfl (ZM rfl rfl (IntWalk.i64_in _ ⟨by omega, by omega⟩)) rfl rfl
       | 6, _ =>
        intro val w1 a hb ha hd;have ha := ha.s0 (d := 4) rfl
        exact ZB ha rfl rfl (YJ rfl) rfl rfl
       | 7, _ =>
        intro val w1 a hb ha hd;have e6 : val 6 = _ := hd 6 (ZA.1 rfl);have ha := ha.s1 (d := 31) rfl e6
        exact ZB ha rfl rfl (ld_3 rfl ((q4.below hb q4.lt).at (j := 0) rfl)) rfl rfl
       | 8, _ =>
        intro val w1 a hb ha hd;have e7 : val 7 = _ := hd 7 (ZA.1 rfl);have ha := ha.s1 (d := 32) rfl e7
        exact YB ha rfl rfl (Zt rfl) rfl (fun g w' hq _ hge => ⟨g, rfl, hq, Nat.le_trans hb.size hge⟩)
       | 9, _ =>
        intro val w1 a hb ha hd;have e5 : val 5 = _ := hd 5 (ZA.1 rfl);obtain ⟨g8_, e8, q8_, h8_⟩ := hd 8 (ZA.1 rfl);change val 8 = _ at e8;have ha := ha.s2 (d := 33) (e := 30) rfl e8 rfl e5;refine Zf ha rfl rfl (cA3 cF35 rfl rfl rfl) (ZW q8_ h3) rfl ?_
        rintro e w' ⟨rfl, hb'⟩
        exact ⟨_, rfl, hb', rfl⟩
       | 10, _ =>
        intro val w1 a hb ha hd;have e9 : val 9 = _ := hd 9 (ZA.1 rfl);have ha := ha.s1 (d := 34) rfl e9
        exact ZB ha rfl rfl (ZV rfl) rfl rfl
       | 11, _ =>
        intro val w1 a hb ha hd;have e10 : val 10 = _ := hd 10 (ZA.1 rfl);have ha := ha.s1 (d := 35) rfl e10
        exact ZB ha rfl rfl (ZH rfl) rfl rfl
       | 12, _ =>
        intro val w1 a hb ha hd;have e11 : val 11 = _ := hd 11 (ZA.1 rfl);have ha := ha.sub (Sub.ins (d := 36) (Sub.ins (d := 0) (Sub.nil _) rfl) (ZI rfl e11))
        exact Zz ha rfl rfl rfl rfl (ZH rfl) rfl rfl
       | 13, _ =>
        intro val w1 a hb ha hd;have e11 : val 11 = _ := hd 11 (ZA.1 rfl);have ha := ha.sub (Sub.ins (d := 36) (Sub.ins (d := 3) (Sub.nil _) rfl) (ZI rfl e11))
        exact Zz ha rfl rfl rfl rfl (ZH rfl) rfl rfl
       | 14, _ =>
        intro val w1 a hb ha hd;have e12 : val 12 = _ := hd 12 (ZA.1 rfl);have e13 : val 13 = _ := hd 13 (ZA.1 rfl);have e11 : val 11 = _ := hd 11 (ZA.1 rfl);have ha := ha.sub (Sub.ins (d := 36) (Sub.ins (d := 38) (Sub.ins (d := 37) (Sub.nil _) (ZI rfl e12)) (ZI rfl e13)) (ZI rfl e11))
        exact Zz ha rfl rfl rfl rfl (QAs rfl rfl (show k < l.length by omega)) rfl rfl
       | 15, _ =>
        intro val w1 a hb ha hd;have e14 : val 14 = _ := hd 14 (ZA.1 rfl);have e11 : val 11 = _ := hd 11 (ZA.1 rfl);have ha := ha.s2 (d := 36) (e := 39) rfl e11 rfl e14
        exact Zz ha rfl rfl rfl rfl (Y9 rfl) rfl rfl
       | 16, _ =>
        intro val w1 a hb ha hd;have e15 : val 15 = _ := hd 15 (ZA.1 rfl);have e11 : val 11 = _ := hd 11 (ZA.1 rfl);have ha := ha.s2 (d := 36) (e := 40) rfl e11 rfl e15
        exact Zz ha rfl rfl rfl rfl (ld_3 rfl (ZD ((hbw.trans (hb.mono hbw.size))) cx.c1)) rfl rfl
       | 17, _ =>
        intro val w1 a hb ha hd;have e16 : val 16 = _ := hd 16 (ZA.1 rfl);have e11 : val 11 = _ := hd 11 (ZA.1 rfl);have ha := ha.s2 (d := 36) (e := 41) rfl e11 rfl e16
        exact Zz ha rfl rfl rfl rfl (ZM rfl rfl (IntWalk.i64_in _ ⟨by omega, by omega⟩)) rfl rfl
       | 18, _ =>
        intro val w1 a hb ha hd;have e11 : val 11 = _ := hd 11 (ZA.1 rfl);have ha := ha.sub (Sub.ins (d := 36) (Sub.ins (d := 4) (Sub.nil _) rfl) (ZI rfl e11))
        exact Zz ha rfl rfl rfl rfl (Y9 rfl) rfl rfl
       | 19, _ =>
        intro val w1 a hb ha hd;have e18 : val 18 = _ := hd 18 (ZA.1 rfl);have e11 : val 11 = _ := hd 11 (ZA.1 rfl);have ha := ha.s2 (d := 36) (e := 43) rfl e11 rfl e18
        exact Zz ha rfl rfl rfl rfl (ld_3 rfl ((q4.below hb q4.lt).at (j := 1) rfl)) rfl rfl
       | 20, _ =>
        intro val w1 a hb ha hd;have e19 : val 19 = _ := hd 19 (ZA.1 rfl);have e11 : val 11 = _ := hd 11 (ZA.1 rfl);have ha := ha.s2 (d := 36) (e := 44) rfl e11 rfl e19
        exact QFa ha rfl rfl rfl rfl (Zt rfl) rfl (fun g w' hq _ hge => ⟨g, rfl, hq, Nat.le_trans hb.size hge⟩)
       | 21, _ =>
        intro val w1 a hb ha hd;have e17 : val 17 = _ := hd 17 (ZA.1 rfl);obtain ⟨g20_, e20, q20_, h20_⟩ := hd 20 (ZA.1 rfl);change val 20 = _ at e20;have e11 : val 11 = _ := hd 11 (ZA.1 rfl);have ha := ha.sub (Sub.ins (d := 36) (Sub.ins (d := 45) (Sub.ins (d := 42) (Sub.nil _) (ZI rfl e17)) (ZI rfl e20)) (ZI rfl e11));refine QFb ha rfl rfl rfl rfl (cA3 cF35 rfl rfl rfl) (ZW q20_ h4) rfl ?_
        rintro e w' ⟨rfl, hb'⟩
        exact ⟨_, rfl, hb', rfl⟩
       | 22, _ =>
        intro val w1 a hb ha hd;have e21 : val 21 = _ := hd 21 (ZA.1 rfl);have e11 : val 11 = _ := hd 11 (ZA.1 rfl);have ha := ha.s2 (d := 36) (e := 46) rfl e11 rfl e21
        exact Zz ha rfl rfl rfl rfl (ZV rfl) rfl rfl
       | 23, _ =>
        intro val w1 a hb ha hd;have e11 : val 11 = _ := hd 11 (ZA.1 rfl);have e22 : val 22 = _ := hd 22 (ZA.1 rfl);have ha := ha.s2 (d := 47) (e := 36) rfl e22 rfl e11
        exact ZB ha rfl rfl (YC rfl rfl) rfl rfl
       | k + 24, h => exact absurd h (by omega)
      ·intro val wR6 hb halc hd
       have e0 : val 0 = _ := hd 0 (by omega)
       have e1 : val 1 = _ := hd 1 (by omega)
       have e2 : val 2 = _ := hd 2 (by omega)
       have e3 : val 3 = _ := hd 3 (by omega)
       have e4 : val 4 = _ := hd 4 (by omega)
       have e5 : val 5 = _ := hd 5 (by omega)
       have e6 : val 6 = _ := hd 6 (by omega)
       have e7 : val 7 = _ := hd 7 (by omega)
       obtain ⟨ga8_6, e8, qa8_6, hga8_6⟩ := hd 8 (by omega)
       change val 8 = _ at e8;change Blk wR6 ga8_6 3 #[.int .i64 y.draft] at qa8_6;have e9 : val 9 = _ := hd 9 (by omega)
       have e10 : val 10 = _ := hd 10 (by omega)
       have e11 : val 11 = _ := hd 11 (by omega)
       have e12 : val 12 = _ := hd 12 (by omega)
       have e13 : val 13 = _ := hd 13 (by omega)
       have e14 : val 14 = _ := hd 14 (by omega)
       have e15 : val 15 = _ := hd 15 (by omega)
       have e16 : val 16 = _ := hd 16 (by omega)
       have e17 : val 17 = _ := hd 17 (by omega)
       have e18 : val 18 = _ := hd 18 (by omega)
       have e19 : val 19 = _ := hd 19 (by omega)
       obtain ⟨ga20_6, e20, qa20_6, hga20_6⟩ := hd 20 (by omega)
       change val 20 = _ at e20;change Blk wR6 ga20_6 3 #[.int .i64 y.vol] at qa20_6;have e21 : val 21 = _ := hd 21 (by omega)
       have e22 : val 22 = _ := hd 22 (by omega)
       have e23 : val 23 = _ := hd 23 (by omega)
       refine EL.ends (cs := [_, _, _, _, _, _, _, _, _, _, _, _, _, _, _, _, _, _, _, _, _, _, _, _]) ⟨e0, e1, e2, e3, e4, e5, e6, e7, e8, e9, e10, e11, e12, e13, e14, e15, e16, e17, e18, e19, e20, e21, e22, e23, trivial⟩ rfl ?_;replace q4 := q4.bl hb;have n4_7 : g4 ≠ ga8_6 := Nat.ne_of_lt (Nat.lt_of_lt_of_le lt_4 hga8_6);have bhbw_7 := Nat.le_trans hbw.size hga8_6;have n4_8 : g4 ≠ ga20_6 := Nat.ne_of_lt (Nat.lt_of_lt_of_le lt_4 hga20_6);have bhbw_8 := Nat.le_trans hbw.size hga20_6;replace hbw := bo_ hbw hb;clear hb;refine EL.nil (EX.seq (EC.yes rfl (EC.seq (EC.region (EL.as rfl rfl (EL.nil (EX.seq (EC.ret (EX.blk_ret ?_)))))))));refine EX.seq_ret (EX.seq_ret (EX.blk_ret (EX.seq_ret ?_)))
       exact EX.done (res1 rfl rfl) ⟨by rw [QCR hsn], hbw⟩
     ·
      have hyes : YF l (k + 1) = true := by rw [hon, hst, h3, h4]; rfl
      have lt_4 := q4.lt;refine EC.regionP [[], [], [0, 1], [0, 1, 2], [0, 1, 2, 3], [0, 1, 2, 3, 4], [], [6], [6, 7], [0, 1, 2, 3, 4, 5, 6, 7, 8], [0, 1, 2, 3, 4, 5, 6, 7, 8, 9], [0, 1, 2, 3, 4, 5, 6, 7, 8, 9, 10], [0, 1, 2, 3, 4, 5, 6, 7, 8, 9, 10, 11], [0, 1, 2, 3, 4, 5, 6, 7, 8, 9, 10, 11], [0, 1, 2, 3, 4, 5, 6, 7, 8, 9, 10, 11, 12, 13], [0, 1, 2, 3, 4, 5, 6, 7, 8, 9, 10, 11, 12, 13, 14], [0, 1, 2, 3, 4, 5, 6, 7, 8, 9, 10, 11, 12, 13, 14, 15], [0, 1, 2, 3, 4, 5, 6, 7, 8, 9, 10, 11, 12, 13, 14, 15, 16], [0, 1, 2, 3, 4, 5, 6, 7, 8, 9, 10, 11], [0, 1, 2, 3, 4, 5, 6, 7, 8, 9, 10, 11, 18], [0, 1, 2, 3, 4, 5, 6, 7, 8, 9, 10, 11, 18, 19], [0, 1, 2, 3, 4, 5, 6, 7, 8, 9, 10, 11, 12, 13, 14, 15, 16, 17, 18, 19, 20], [0, 1, 2, 3, 4, 5, 6, 7, 8, 9, 10, 11, 12, 13, 14, 15, 16, 17, 18, 19, 20, 21], [0, 1, 2, 3, 4, 5, 6, 7, 8, 9, 10, 11, 12, 13, 14, 15, 16, 17, 18, 19, 20, 21, 22]] 24 [] (phi (fun i_ r => match i_ with | 0 => r 0 = .slice (some ⟨b, o, none⟩) l.length c | 1 => r 1 = .int .i64 (k : Nat) | 2 => r 2 = .pointer (some ⟨b, o + k * 2, none⟩) | 3 => r 3 = .pointer (some ⟨b, o + k * 2, none⟩) | 4 => r 4 = .int .i64 p.draft | 5 => r 5 = .int .i64 (p.draft + 1) | 6 => r 6 = .pointer (some ⟨g4, 0, none⟩) | 7 => r 7 = .int .i64 y.draft | 9 => r 9 = .bool true | 10 => r 10 = .bool false | 11 => r 11 = .bool false | 12 => r 12 = .slice (some ⟨b, o, none⟩) l.length c | 13 => r 13 = .int .i64 (k : Nat) | 14 => r 14 = .pointer (some ⟨b, o + k * 2, none⟩) | 15 => r 15 = .pointer (some ⟨b, o + k * 2 + 1, none⟩) | 16 => r 16 = .int .i64 p.vol | 17 => r 17 = .int .i64 (p.vol + 1) | 18 => r 18 = .pointer (some ⟨g4, 1, none⟩) | 19 => r 19 = .int .i64 y.vol | 21 => r 21 = .bool true | 22 => r 22 = .bool false | 23 => r 23 = .bool false | _ => True) [(8, fun r w_ => ∃ g_, r 8 = .slice (some ⟨g_, 0, none⟩) 1 1 ∧ Blk w_ g_ 3 #[.int .i64 y.draft] ∧ w5.heap.size ≤ g_), (20, fun r w_ => ∃ g_, r 20 = .slice (some ⟨g_, 0, none⟩) 1 1 ∧ Blk w_ g_ 3 #[.int .i64 y.vol] ∧ w5.heap.size ≤ g_)]) (by kernel_rfl) rfl rfl (ZT Zw (ZT Zw (ZY))) (fun i_ hi_ => ?_) ?_
      ·match i_, hi_ with
       | 0, _ =>
        intro val w1 a hb ha hd;have ha := ha.s0 (d := 0) rfl
        exact ZB ha rfl rfl (ZH rfl) rfl rfl
       | 1, _ =>
        intro val w1 a hb ha hd;have ha := ha.s0 (d := 3) rfl
        exact ZB ha rfl rfl (ZH rfl) rfl rfl
       | 2, _ =>
        intro val w1 a hb ha hd;have e0 : val 0 = _ := hd 0 (ZA.1 rfl);have e1 : val 1 = _ := hd 1 (ZA.1 rfl);have ha := ha.s2 (d := 26) (e := 25) rfl e1 rfl e0
        exact ZB ha rfl rfl (QAs rfl rfl (show k < l.length by omega)) rfl rfl
       | 3, _ =>
        intro val w1 a hb ha hd;have e2 : val 2 = _ := hd 2 (ZA.1 rfl);have ha := ha.s1 (d := 27) rfl e2
        exact ZB ha rfl rfl (YJ rfl) rfl rfl
       | 4, _ =>
        intro val w1 a hb ha hd;have e3 : val 3 = _ := hd 3 (ZA.1 rfl);have ha := ha.s1 (d := 28) rfl e3
        exact ZB ha rfl rfl (ld_3 rfl (ZD ((hbw.trans (hb.mono hbw.size))) cx.c0)) rfl rfl
       | 5, _ =>
        intro val w1 a hb ha hd;have e4 : val 4 = _ := hd 4 (ZA.1 rfl);have ha := ha.s1 (d := 29) rfl e4
        exact ZB ha rfl rfl (ZM rfl rfl (IntWalk.i64_in _ ⟨by omega, by omega⟩)) rfl rfl
       | 6, _ =>
        intro val w1 a hb ha hd;have ha := ha.s0 (d := 4) rfl
        exact ZB ha rfl rfl (YJ rfl) rfl rfl
       | 7, _ =>
        intro val w1 a hb ha hd;have e6 : val 6 = _ := hd 6 (ZA.1 rfl);have ha := ha.s1 (d := 31) rfl e6
        exact ZB ha rfl rfl (ld_3 rfl ((q4.below hb q4.lt).at (j := 0) rfl)) rfl rfl
       | 8, _ =>
        intro val w1 a hb ha hd;have e7 : val 7 = _ := hd 7 (ZA.1 rfl);have ha := ha.s1 (d := 32) rfl e7
        exact YB ha rfl rfl (Zt rfl) rfl (fun g w' hq _ hge => ⟨g, rfl, hq, Nat.le_trans hb.size hge⟩)
       | 9, _ =>
        intro val w1 a hb ha hd;have e5 : val 5 = _ := hd 5 (ZA.1 rfl);obtain ⟨g8_, e8, q8_, h8_⟩ := hd 8 (ZA.1 rfl);change val 8 = _ at e8;have ha := ha.s2 (d := 33) (e := 30) rfl e8 rfl e5;refine Zf ha rfl rfl (cA3 cF35 rfl rfl rfl) (ZW q8_ h3) rfl ?_
        rintro e w' ⟨rfl, hb'⟩
        exact ⟨_, rfl, hb', rfl⟩
       | 10, _ =>
        intro val w1 a hb ha hd;have e9 : val 9 = _ := hd 9 (ZA.1 rfl);have ha := ha.s1 (d := 34) rfl e9
        exact ZB ha rfl rfl (ZV rfl) rfl rfl
       | 11, _ =>
        intro val w1 a hb ha hd;have e10 : val 10 = _ := hd 10 (ZA.1 rfl);have ha := ha.s1 (d := 35) rfl e10
        exact ZB ha rfl rfl (ZH rfl) rfl rfl
       | 12, _ =>
        intro val w1 a hb ha hd;have e11 : val 11 = _ := hd 11 (ZA.1 rfl);have ha := ha.sub (Sub.ins (d := 36) (Sub.ins (d := 0) (Sub.nil _) rfl) (ZI rfl e11))
        exact Zz ha rfl rfl rfl rfl (ZH rfl) rfl rfl
       | 13, _ =>
        intro val w1 a hb ha hd;have e11 : val 11 = _ := hd 11 (ZA.1 rfl);have ha := ha.sub (Sub.ins (d := 36) (Sub.ins (d := 3) (Sub.nil _) rfl) (ZI rfl e11))
        exact Zz ha rfl rfl rfl rfl (ZH rfl) rfl rfl
       | 14, _ =>
        intro val w1 a hb ha hd;have e12 : val 12 = _ := hd 12 (ZA.1 rfl);have e13 : val 13 = _ := hd 13 (ZA.1 rfl);have e11 : val 11 = _ := hd 11 (ZA.1 rfl);have ha := ha.sub (Sub.ins (d := 36) (Sub.ins (d := 38) (Sub.ins (d := 37) (Sub.nil _) (ZI rfl e12)) (ZI rfl e13)) (ZI rfl e11))
        exact Zz ha rfl rfl rfl rfl (QAs rfl rfl (show k < l.length by omega)) rfl rfl
       | 15, _ =>
        intro val w1 a hb ha hd;have e14 : val 14 = _ := hd 14 (ZA.1 rfl);have e11 : val 11 = _ := hd 11 (ZA.1 rfl);have ha := ha.s2 (d := 36) (e := 39) rfl e11 rfl e14
        exact Zz ha rfl rfl rfl rfl (Y9 rfl) rfl rfl
       | 16, _ =>
        intro val w1 a hb ha hd;have e15 : val 15 = _ := hd 15 (ZA.1 rfl);have e11 : val 11 = _ := hd 11 (ZA.1 rfl);have ha := ha.s2 (d := 36) (e := 40) rfl e11 rfl e15
        exact Zz ha rfl rfl rfl rfl (ld_3 rfl (ZD ((hbw.trans (hb.mono hbw.size))) cx.c1)) rfl rfl
       | 17, _ =>
        intro val w1 a hb ha hd;have e16 : val 16 = _ := hd 16 (ZA.1 rfl);have e11 : val 11 = _ := hd 11 (ZA.1 rfl);have ha := ha.s2 (d := 36) (e := 41) rfl e11 rfl e16
        exact Zz ha rfl rfl rfl rfl (ZM rfl rfl (IntWalk.i64_in _ ⟨by omega, by omega⟩)) rfl rfl
       | 18, _ =>
        intro val w1 a hb ha hd;have e11 : val 11 = _ := hd 11 (ZA.1 rfl);have ha := ha.sub (Sub.ins (d := 36) (Sub.ins (d := 4) (Sub.nil _) rfl) (ZI rfl e11))
        exact Zz ha rfl rfl rfl rfl (Y9 rfl) rfl rfl
       | 19, _ =>
        intro val w1 a hb ha hd;have e18 : val 18 = _ := hd 18 (ZA.1 rfl);have e11 : val 11 = _ := hd 11 (ZA.1 rfl);have ha := ha.s2 (d := 36) (e := 43) rfl e11 rfl e18
        exact Zz ha rfl rfl rfl rfl (ld_3 rfl ((q4.below hb q4.lt).at (j := 1) rfl)) rfl rfl
       | 20, _ =>
        intro val w1 a hb ha hd;have e19 : val 19 = _ := hd 19 (ZA.1 rfl);have e11 : val 11 = _ := hd 11 (ZA.1 rfl);have ha := ha.s2 (d := 36) (e := 44) rfl e11 rfl e19
        exact QFa ha rfl rfl rfl rfl (Zt rfl) rfl (fun g w' hq _ hge => ⟨g, rfl, hq, Nat.le_trans hb.size hge⟩)
       | 21, _ =>
        intro val w1 a hb ha hd;have e17 : val 17 = _ := hd 17 (ZA.1 rfl);obtain ⟨g20_, e20, q20_, h20_⟩ := hd 20 (ZA.1 rfl);change val 20 = _ at e20;have e11 : val 11 = _ := hd 11 (ZA.1 rfl);have ha := ha.sub (Sub.ins (d := 36) (Sub.ins (d := 45) (Sub.ins (d := 42) (Sub.nil _) (ZI rfl e17)) (ZI rfl e20)) (ZI rfl e11));refine QFb ha rfl rfl rfl rfl (cA3 cF35 rfl rfl rfl) (ZW q20_ h4) rfl ?_
        rintro e w' ⟨rfl, hb'⟩
        exact ⟨_, rfl, hb', rfl⟩
       | 22, _ =>
        intro val w1 a hb ha hd;have e21 : val 21 = _ := hd 21 (ZA.1 rfl);have e11 : val 11 = _ := hd 11 (ZA.1 rfl);have ha := ha.s2 (d := 36) (e := 46) rfl e11 rfl e21
        exact Zz ha rfl rfl rfl rfl (ZV rfl) rfl rfl
       | 23, _ =>
        intro val w1 a hb ha hd;have e11 : val 11 = _ := hd 11 (ZA.1 rfl);have e22 : val 22 = _ := hd 22 (ZA.1 rfl);have ha := ha.s2 (d := 47) (e := 36) rfl e22 rfl e11
        exact ZB ha rfl rfl (YC rfl rfl) rfl rfl
       | k + 24, h => exact absurd h (by omega)
      ·intro val wR6 hb halc hd
       have e0 : val 0 = _ := hd 0 (by omega)
       have e1 : val 1 = _ := hd 1 (by omega)
       have e2 : val 2 = _ := hd 2 (by omega)
       have e3 : val 3 = _ := hd 3 (by omega)
       have e4 : val 4 = _ := hd 4 (by omega)
       have e5 : val 5 = _ := hd 5 (by omega)
       have e6 : val 6 = _ := hd 6 (by omega)
       have e7 : val 7 = _ := hd 7 (by omega)
       obtain ⟨ga8_6, e8, qa8_6, hga8_6⟩ := hd 8 (by omega)
       change val 8 = _ at e8;change Blk wR6 ga8_6 3 #[.int .i64 y.draft] at qa8_6;have e9 : val 9 = _ := hd 9 (by omega)
       have e10 : val 10 = _ := hd 10 (by omega)
       have e11 : val 11 = _ := hd 11 (by omega)
       have e12 : val 12 = _ := hd 12 (by omega)
       have e13 : val 13 = _ := hd 13 (by omega)
       have e14 : val 14 = _ := hd 14 (by omega)
       have e15 : val 15 = _ := hd 15 (by omega)
       have e16 : val 16 = _ := hd 16 (by omega)
       have e17 : val 17 = _ := hd 17 (by omega)
       have e18 : val 18 = _ := hd 18 (by omega)
       have e19 : val 19 = _ := hd 19 (by omega)
       obtain ⟨ga20_6, e20, qa20_6, hga20_6⟩ := hd 20 (by omega)
       change val 20 = _ at e20;change Blk wR6 ga20_6 3 #[.int .i64 y.vol] at qa20_6;have e21 : val 21 = _ := hd 21 (by omega)
       have e22 : val 22 = _ := hd 22 (by omega)
       have e23 : val 23 = _ := hd 23 (by omega)
       refine EL.ends (cs := [_, _, _, _, _, _, _, _, _, _, _, _, _, _, _, _, _, _, _, _, _, _, _, _]) ⟨e0, e1, e2, e3, e4, e5, e6, e7, e8, e9, e10, e11, e12, e13, e14, e15, e16, e17, e18, e19, e20, e21, e22, e23, trivial⟩ rfl ?_;replace q4 := q4.bl hb;have n4_9 : g4 ≠ ga8_6 := Nat.ne_of_lt (Nat.lt_of_lt_of_le lt_4 hga8_6);have bhbw_9 := Nat.le_trans hbw.size hga8_6;have n4_10 : g4 ≠ ga20_6 := Nat.ne_of_lt (Nat.lt_of_lt_of_le lt_4 hga20_6);have bhbw_10 := Nat.le_trans hbw.size hga20_6;replace hbw := bo_ hbw hb;clear hb;refine EL.nil (EX.seq (EC.no rfl (EC.skip (EX.blk (EX.seq (EC.region ?_))))));refine EL.val (ZM rfl rfl (c := ((k + 1 : Nat) : Int)) ((IntWalk.i64_in _ ⟨by first | omega | (simp only; omega), by first | omega | (simp only; omega)⟩).trans (by first | omega | (simp only; omega)))) rfl ?_
       refine EL.mv rfl rfl (EL.nil ?_);refine EX.roundD (k + 1) ⟨rfl, trivial⟩ (by repeat first | with_reducible exact .refl _ | refine sp_ rfl ?_ | exact .refl _ | refine sd_ rfl ?_ | refine sn_ ?_) ⟨by omega, hyes, hbw⟩ (by omega)
   ·
    obtain rfl : k = l.length - 1 := by omega
    refine EC.seq (EC.region ?_);refine EL.val (ZO rfl rfl (decide_eq_false (by omega))) rfl ?_
    refine EL.nil (EX.seq (EC.seq (EC.no rfl (EC.exit (EX.seq_exit (EX.seq_exit (EX.blk_here (EX.seq (EC.seq ?_)))))))));refine EC.region (EL.as rfl rfl (EL.nil (EX.seq (EC.ret ?_))))
    exact EX.done (res1 rfl rfl) ⟨by rw [QGH h1 hz.1 hz.2 hst], hbw⟩
theorem QD9 {l : List HRow} {b : Bool} (h : YI l = b) (v : Value) (w : World) (B : Nat) (hr : Rd w B 2 v l.length (hrowsC l)) (hB : B ≤ w.heap.size) (hlen : l.length ≤ 9223372036854775806) :
  Calls Try.prog 79 #[v] w fun e w' => e = .returned (.bool b) ∧ Below w.heap.size w w' := h ▸ QGJ l v w B hr hB hlen
theorem QIa (s : Sec) (vc vh : Value) (w : World) (B : Nat) (hc : Rd w B 2 vc s.curve.length (hrowsC s.curve)) (hh : Rd w B 2 vh s.holds.length (holdsC s.holds)) (hB : B ≤ w.heap.size) (hlc : s.curve.length ≤ 9223372036854775806) (hlh : s.holds.length ≤ 9223372036854775806) :
  Calls Try.prog 55 #[.agg #[.int .i64 s.len, .int .i64 s.light, .int .i64 s.trim, vc, vh]] w fun e w' => e = .returned (.bool (secB s)) ∧ Below w.heap.size w w' := by
 have hbw := Below.refl w.heap.size w;refine EC.enter 33 Try.func55 rfl rfl rfl (EC.seq (EC.region (EL.newP (QKt rfl) rfl ?_)));intro g1 w1 q1 hb1 hg1 hl1;have bhbw_1 := Nat.le_trans hbw.size hg1;replace hbw := bo_ hbw hb1;clear hb1 hg1 hl1;refine EL.as rfl rfl (EL.nil (EX.seq (EC.seq (EC.region (EL.val (QBo rfl) rfl (EL.val (QG2 rfl (q1.at (j := 4) rfl)) rfl (EL.val (QHq rfl) rfl ?_)))))));refine EL.call (cA2 cF77 rfl rfl) rfl (QDq s.holds (fun x => !QDQ s.len x) _ _ w1 B (hh.below (hbw.mono hB)) (Nat.le_trans hB hbw.size) hlh (fun x _ W hb => QHV s.len x _ W (ZD hb (q1.at (j := 0) rfl)))) ?_
 rintro e w2 ⟨rfl, hc2⟩
 refine ⟨_, rfl, ?_⟩;replace q1 := q1.bl hc2;replace hbw := bo_ hbw hc2;clear hc2;refine EL.as rfl rfl (EL.nil (EX.seq (EC.seq (EC.region (EL.val (QBp rfl) rfl (EL.val (ld_3 rfl (q1.at (j := 0) rfl)) rfl (EL.newS (Zt rfl) rfl ?_)))))));intro g3 w3 q3 hb3 hg3 hl3;have n1_3 := q1.na hg3;have bhbw_3 := Nat.le_trans hbw.size hg3;replace q1 := q1.bl hb3;replace hbw := bo_ hbw hb3;clear hb3 hg3 hl3
 cases h1 : inB 1 100 s.len
 ·
  refine EL.call (cA3 cF35 rfl rfl rfl) rfl (ZW q3 h1) ?_
  rintro e w4 ⟨rfl, hc4⟩
  refine ⟨_, rfl, ?_⟩;replace q1 := q1.bl hc4;replace q3 := q3.bl hc4;replace hbw := bo_ hbw hc4;clear hc4;refine EL.mv rfl rfl (EL.skip rfl rfl rfl rfl (EL.skip rfl rfl rfl rfl (EL.skip rfl rfl rfl rfl (EL.skip rfl rfl rfl rfl (EL.pf rfl rfl rfl (EL.mv rfl rfl (EL.skip rfl rfl rfl rfl (EL.skip rfl rfl rfl rfl (EL.skip rfl rfl rfl rfl ?_)))))))));refine EL.skip rfl rfl rfl rfl (EL.pf rfl rfl rfl (EL.mv rfl rfl (EL.skip rfl rfl rfl rfl (EL.skip rfl rfl rfl rfl (EL.skip rfl rfl rfl rfl (EL.pf rfl rfl rfl (EL.mv rfl rfl (EL.skip rfl rfl rfl rfl (EL.skip rfl rfl rfl rfl ?_)))))))));refine EL.pf rfl rfl rfl (EL.as rfl rfl (EL.nil (EX.seq (EC.ret ?_))))
  exact EX.done (res1 rfl rfl) ⟨by congr 2; simp [secB, QBF, *], hbw⟩
 ·
  refine EL.call (cA3 cF35 rfl rfl rfl) rfl (ZW q3 h1) ?_
  rintro e w5 ⟨rfl, hc5⟩
  refine ⟨_, rfl, ?_⟩;replace q1 := q1.bl hc5;replace q3 := q3.bl hc5;replace hbw := bo_ hbw hc5;clear hc5;refine EL.mv rfl rfl (EL.valg rfl rfl (QEk rfl) rfl (EL.valg rfl rfl (ld_3 rfl (q1.at (j := 1) rfl)) rfl (EL.newSg rfl rfl (Zt rfl) rfl ?_)));intro g6 w6 q6 hb6 hg6 hl6;have n1_6 := q1.na hg6;have n3_6 := q3.na hg6;have bhbw_6 := Nat.le_trans hbw.size hg6;replace q1 := q1.bl hb6;replace q3 := q3.bl hb6;replace hbw := bo_ hbw hb6;clear hb6 hg6 hl6
  cases h2 : inB 0 10000 s.light
  ·
   refine EL.callg rfl rfl (cA3 cF35 rfl rfl rfl) rfl (ZW q6 h2) ?_
   rintro e w7 ⟨rfl, hc7⟩
   refine ⟨_, rfl, ?_⟩;replace q1 := q1.bl hc7;replace q3 := q3.bl hc7;replace q6 := q6.bl hc7;replace hbw := bo_ hbw hc7;clear hc7;refine EL.pt rfl rfl rfl (EL.mv rfl rfl (EL.skip rfl rfl rfl rfl (EL.skip rfl rfl rfl rfl (EL.skip rfl rfl rfl rfl (EL.skip rfl rfl rfl rfl (EL.pf rfl rfl rfl (EL.mv rfl rfl (EL.skip rfl rfl rfl rfl (EL.skip rfl rfl rfl rfl ?_)))))))));refine EL.skip rfl rfl rfl rfl (EL.pf rfl rfl rfl (EL.mv rfl rfl (EL.skip rfl rfl rfl rfl (EL.skip rfl rfl rfl rfl (EL.pf rfl rfl rfl (EL.as rfl rfl (EL.nil (EX.seq (EC.ret ?_)))))))))
   exact EX.done (res1 rfl rfl) ⟨by congr 2; simp [secB, QBF, *], hbw⟩
  ·
   refine EL.callg rfl rfl (cA3 cF35 rfl rfl rfl) rfl (ZW q6 h2) ?_
   rintro e w8 ⟨rfl, hc8⟩
   refine ⟨_, rfl, ?_⟩;replace q1 := q1.bl hc8;replace q3 := q3.bl hc8;replace q6 := q6.bl hc8;replace hbw := bo_ hbw hc8;clear hc8;refine EL.pt rfl rfl rfl (EL.mv rfl rfl (EL.valg rfl rfl (QG9 rfl) rfl (EL.valg rfl rfl (ld_3 rfl (q1.at (j := 2) rfl)) rfl (EL.newSg rfl rfl (Zt rfl) rfl ?_))));intro g9 w9 q9 hb9 hg9 hl9;have n1_9 := q1.na hg9;have n3_9 := q3.na hg9;have n6_9 := q6.na hg9;have bhbw_9 := Nat.le_trans hbw.size hg9;replace q1 := q1.bl hb9;replace q3 := q3.bl hb9;replace q6 := q6.bl hb9;replace hbw := bo_ hbw hb9;clear hb9 hg9 hl9
   cases h3 : inB 1 100000 s.trim
   ·
    refine EL.callg rfl rfl (cA3 cF35 rfl rfl rfl) rfl (ZW q9 h3) ?_
    rintro e w10 ⟨rfl, hc10⟩
    refine ⟨_, rfl, ?_⟩;replace q1 := q1.bl hc10;replace q3 := q3.bl hc10;replace q6 := q6.bl hc10;replace q9 := q9.bl hc10;replace hbw := bo_ hbw hc10;clear hc10;refine EL.pt rfl rfl rfl (EL.mv rfl rfl (EL.skip rfl rfl rfl rfl (EL.skip rfl rfl rfl rfl (EL.skip rfl rfl rfl rfl (EL.pf rfl rfl rfl (EL.mv rfl rfl (EL.skip rfl rfl rfl rfl (EL.skip rfl rfl rfl rfl (EL.pf rfl rfl rfl ?_)))))))));refine EL.as rfl rfl (EL.nil (EX.seq (EC.ret ?_)))
    exact EX.done (res1 rfl rfl) ⟨by congr 2; simp [secB, QBF, *], hbw⟩
   ·
    refine EL.callg rfl rfl (cA3 cF35 rfl rfl rfl) rfl (ZW q9 h3) ?_
    rintro e w11 ⟨rfl, hc11⟩
    refine ⟨_, rfl, ?_⟩;replace q1 := q1.bl hc11;replace q3 := q3.bl hc11;replace q6 := q6.bl hc11;replace q9 := q9.bl hc11;replace hbw := bo_ hbw hc11;clear hc11;refine EL.pt rfl rfl rfl (EL.mv rfl rfl (EL.valg rfl rfl (Yz rfl) rfl (EL.valg rfl rfl (QCN rfl (q1.at (j := 3) rfl)) rfl ?_)))
    cases h4 : YI s.curve
    ·
     refine EL.callg rfl rfl (cA1 cF79 rfl) rfl (QD9 h4 _ _ B (hc.below (hbw.mono hB)) (Nat.le_trans hB hbw.size) hlc) ?_
     rintro e w12 ⟨rfl, hc12⟩
     refine ⟨_, rfl, ?_⟩;replace q1 := q1.bl hc12;replace q3 := q3.bl hc12;replace q6 := q6.bl hc12;replace q9 := q9.bl hc12;replace hbw := bo_ hbw hc12;clear hc12;refine EL.pt rfl rfl rfl (EL.mv rfl rfl (EL.skip rfl rfl rfl rfl (EL.skip rfl rfl rfl rfl (EL.pf rfl rfl rfl (EL.as rfl rfl (EL.nil (EX.seq (EC.ret ?_))))))))
     exact EX.done (res1 rfl rfl) ⟨by congr 2; simp [secB, QBF, *], hbw⟩
    ·
     refine EL.callg rfl rfl (cA1 cF79 rfl) rfl (QD9 h4 _ _ B (hc.below (hbw.mono hB)) (Nat.le_trans hB hbw.size) hlc) ?_
     rintro e w13 ⟨rfl, hc13⟩
     refine ⟨_, rfl, ?_⟩;replace q1 := q1.bl hc13;replace q3 := q3.bl hc13;replace q6 := q6.bl hc13;replace q9 := q9.bl hc13;replace hbw := bo_ hbw hc13;clear hc13;refine EL.pt rfl rfl rfl (EL.mv rfl rfl (EL.mg rfl rfl rfl rfl (EL.valg rfl rfl (ZV rfl) rfl (EL.pt rfl rfl rfl (EL.as rfl rfl (EL.nil (EX.seq (EC.ret ?_))))))))
     exact EX.done (res1 rfl rfl) ⟨by congr 2; simp [secB, QBF, *], hbw⟩
theorem QGg {s : Sec} {b : Bool} (h : secB s = b) (vc vh : Value) (w : World) (B : Nat) (hc : Rd w B 2 vc s.curve.length (hrowsC s.curve)) (hh : Rd w B 2 vh s.holds.length (holdsC s.holds)) (hB : B ≤ w.heap.size) (hlc : s.curve.length ≤ 9223372036854775806) (hlh : s.holds.length ≤ 9223372036854775806) :
  Calls Try.prog 55 #[.agg #[.int .i64 s.len, .int .i64 s.light, .int .i64 s.trim, vc, vh]] w fun e w' => e = .returned (.bool b) ∧ Below w.heap.size w w' := h ▸ QIa s vc vh w B hc hh hB hlc hlh
section
variable {n : Nat} {σ : Sg} {w : World} {dst : Option Tmp} {ty : TypeId} {pos : String} {af : Array Edge} {g : Option (Nat × Bool)} {x y z : Operand} {at' : Array TypeId}
theorem QCT {v0 v1 : Value} (hx : evS σ x = some (.agg #[v0, v1])) (a : Act) (ha : Env n σ a) : (execOp a.eval ⟨dst, .box 44 x, ty, pos, af, g⟩).run Try.prog w = .ok (.value (.pointer (some ⟨w.heap.size, 0, none⟩))) (w.alloc (.cells #[v0, v1] 44)) := by
 simp only [execOp, ha.eval hx]
 simp [go_sem]
theorem QBj {b o : Nat} {v0 v1 : Value} (hx : evS σ x = some (.pointer (some ⟨b, o, none⟩))) (c0 : w.cell? ⟨b, o, none⟩ = some v0) (c1 : w.cell? ⟨b, o + 1, none⟩ = some v1) : ZE Try.prog n σ w ⟨dst, .load 44 x, ty, pos, af, g⟩ (.agg #[v0, v1]) := fun a ha => by
 simp only [execOp, ha.eval hx]
 simp [go_sem, c0, c1]
theorem QGR {x0 x1 : Operand} {v0_0 : Value} {v0_1 : Value} {z1 : Int} (h0 : evS σ x0 = some (.agg #[v0_0, v0_1])) (h1 : evS σ x1 = some (.int .i64 z1)) : ZE Try.prog n σ w ⟨dst, .build 125 #[(0, x0), (6, x1)], ty, pos, af, g⟩ (.agg #[v0_0, v0_1, .slice none 0 0, .int .i64 0, .int .i64 0, .int .i64 0, .int .i64 0, .int .i64 z1]) := fun a ha => by
 simp only [execOp, List.map_toArray, List.map_cons, List.map_nil, ha.eval h0, ha.eval h1]
 go_simp
theorem QLP {v0 v1 v2 v3 v4 v5 v6 v7 : Value} (hx : evS σ x = some (.agg #[v0, v1, v2, v3, v4, v5, v6, v7])) (a : Act) (ha : Env n σ a) : (execOp a.eval ⟨dst, .box 125 x, ty, pos, af, g⟩).run Try.prog w = .ok (.value (.pointer (some ⟨w.heap.size, 0, none⟩))) (w.alloc (.cells #[v0, v1, v2, v3, v4, v5, v6, v7] 125)) := by
 simp only [execOp, ha.eval hx]
 simp [go_sem]
theorem QCl {b o : Nat} (hx : evS σ x = some (.pointer (some ⟨b, o, none⟩))) : ZE Try.prog n σ w ⟨dst, .fieldAddr 44 x 0, ty, pos, af, g⟩ (.pointer (some ⟨b, o, none⟩)) := fun a ha => by
 simp only [execOp, ha.eval hx]
 simp [go_sem]
theorem Yc {b o : Nat} (hx : evS σ x = some (.pointer (some ⟨b, o, none⟩))) : ZE Try.prog n σ w ⟨dst, .fieldAddr 44 x 1, ty, pos, af, g⟩ (.pointer (some ⟨b, o + 1, none⟩)) := fun a ha => by
 simp only [execOp, ha.eval hx]
 simp [go_sem]
theorem QAb {b o : Nat} {v0 : Value} (hx : evS σ x = some (.pointer (some ⟨b, o, none⟩))) (c0 : w.cell? ⟨b, o, none⟩ = some v0) : ZE Try.prog n σ w ⟨dst, .load 42 x, ty, pos, af, g⟩ (v0) := fun a ha => by
 simp only [execOp, ha.eval hx]
 simp [go_sem, c0]
theorem QAp {A : Option Addr} {m c : Nat} (hx : evS σ x = some (.slice A m c)) : ZE Try.prog n σ w ⟨dst, .call { callee := .builtin .len, args := #[x], argTypes := #[42] }, ty, pos, af, g⟩ (.int .i64 (m : Int)) := fun a ha => by
 simp only [execOp, resolve, List.map_toArray, List.map_cons, List.map_nil, ha.eval hx]
 simp [go_sem]
theorem QFX {b o m c k : Nat} (hx : evS σ x = some (.slice (some ⟨b, o, none⟩) m c)) (hy : evS σ y = some (.int .i64 (k : Int))) (hk : k < m) : ZE Try.prog n σ w ⟨dst, .indexAddr 42 x y, ty, pos, af, g⟩ (.pointer (some ⟨b, o + k * 5, none⟩)) := fun a ha => by
 have k0 : (0 : Int) ≤ (k : Int) := Int.natCast_nonneg _;have k1 : (k : Int) < (m : Int) := by omega
 simp only [execOp, ha.eval hx, ha.eval hy]
 simp [go_sem, k0, k1]
theorem QAr {b o : Nat} {v0 v1 v2 v3 v4 : Value} (hx : evS σ x = some (.pointer (some ⟨b, o, none⟩))) (c0 : w.cell? ⟨b, o, none⟩ = some v0) (c1 : w.cell? ⟨b, o + 1, none⟩ = some v1) (c2 : w.cell? ⟨b, o + 2, none⟩ = some v2) (c3 : w.cell? ⟨b, o + 3, none⟩ = some v3) (c4 : w.cell? ⟨b, o + 4, none⟩ = some v4) : ZE Try.prog n σ w ⟨dst, .load 70 x, ty, pos, af, g⟩ (.agg #[v0, v1, v2, v3, v4]) := fun a ha => by
 simp only [execOp, ha.eval hx]
 simp [go_sem, c0, c1, c2, c3, c4]
theorem QEE (a : Act) (_ : Env n σ a) : (execOp a.eval ⟨dst, .alloc 70, ty, pos, af, g⟩).run Try.prog w = .ok (.value (.pointer (some ⟨w.heap.size, 0, none⟩))) (w.alloc (.cells #[.int .i64 0, .int .i64 0, .int .i64 0, .slice none 0 0, .slice none 0 0] 70)) := by
 simp only [execOp]
 simp [go_sem]
theorem QDw : (Try.prog.info? 70).map (·.size) = some 5 := by kernel_rfl
theorem cF55 : cF 55 := fun _ _ => by simp [go_sem]
theorem QAt {b o : Nat} (hx : evS σ x = some (.pointer (some ⟨b, o, none⟩))) : ZE Try.prog n σ w ⟨dst, .fieldAddr 125 x 2, ty, pos, af, g⟩ (.pointer (some ⟨b, o + 3, none⟩)) := fun a ha => by
 simp only [execOp, ha.eval hx]
 simp [go_sem]
theorem QDX {b o : Nat} (hx : evS σ x = some (.pointer (some ⟨b, o, none⟩))) : ZE Try.prog n σ w ⟨dst, .fieldAddr 125 x 3, ty, pos, af, g⟩ (.pointer (some ⟨b, o + 4, none⟩)) := fun a ha => by
 simp only [execOp, ha.eval hx]
 simp [go_sem]
theorem QBs {b o : Nat} (hx : evS σ x = some (.pointer (some ⟨b, o, none⟩))) : ZE Try.prog n σ w ⟨dst, .fieldAddr 125 x 5, ty, pos, af, g⟩ (.pointer (some ⟨b, o + 6, none⟩)) := fun a ha => by
 simp only [execOp, ha.eval hx]
 simp [go_sem]
theorem QCA {p q r : Int} (hx : evS σ x = some (.int .i64 p)) (hy : evS σ y = some (.int .i64 q)) (hr : min p q = r) : ZE Try.prog n σ w ⟨dst, .call { callee := .builtin .min, args := #[x, y], argTypes := at' }, ty, pos, af, g⟩ (.int .i64 r) := fun a ha => by
 simp only [execOp, resolve, List.map_toArray, List.map_cons, List.map_nil, ha.eval hx, ha.eval hy]
 subst hr
 simp [go_sem, Int.min_def]
 split <;> split <;> omega
theorem Y7 {b o : Nat} (hx : evS σ x = some (.pointer (some ⟨b, o, none⟩))) : ZE Try.prog n σ w ⟨dst, .fieldAddr 125 x 6, ty, pos, af, g⟩ (.pointer (some ⟨b, o + 7, none⟩)) := fun a ha => by
 simp only [execOp, ha.eval hx]
 simp [go_sem]
theorem QDW {b o : Nat} (hx : evS σ x = some (.pointer (some ⟨b, o, none⟩))) : ZE Try.prog n σ w ⟨dst, .fieldAddr 125 x 4, ty, pos, af, g⟩ (.pointer (some ⟨b, o + 5, none⟩)) := fun a ha => by
 simp only [execOp, ha.eval hx]
 simp [go_sem]
theorem QLr (a : Act) (_ : Env n σ a) : (execOp a.eval ⟨dst, .alloc 66, ty, pos, af, g⟩).run Try.prog w = .ok (.value (.pointer (some ⟨w.heap.size, 0, none⟩))) (w.alloc (.cells #[.int .i64 0, .int .i64 0] 66)) := by
 simp only [execOp]
 simp [go_sem]
theorem QLa : (Try.prog.info? 66).map (·.size) = some 2 := by kernel_rfl
theorem QJZ {x0 : Operand} {v0_0 v0_1 : Value} (h0 : evS σ x0 = some (.agg #[v0_0, v0_1]))  (a : Act) (ha : Env n σ a) : (execOp a.eval ⟨dst, .buildSlice 123 1 #[(0, x0)], ty, pos, af, g⟩).run Try.prog w = .ok (.value (.slice (some ⟨w.heap.size, 0, none⟩) 1 1)) (w.alloc (.cells #[v0_0, v0_1] 127)) := by
 simp only [execOp, List.map_toArray, List.map_cons, List.map_nil, ha.eval h0]
 go_simp
theorem Y8 {b o : Nat} (hx : evS σ x = some (.pointer (some ⟨b, o, none⟩))) : ZE Try.prog n σ w ⟨dst, .fieldAddr 125 x 1, ty, pos, af, g⟩ (.pointer (some ⟨b, o + 2, none⟩)) := fun a ha => by
 simp only [execOp, ha.eval hx]
 simp [go_sem]
theorem QAG {b o : Nat} {v0 : Value} (hx : evS σ x = some (.pointer (some ⟨b, o, none⟩))) (c0 : w.cell? ⟨b, o, none⟩ = some v0) : ZE Try.prog n σ w ⟨dst, .load 123 x, ty, pos, af, g⟩ (v0) := fun a ha => by
 simp only [execOp, ha.eval hx]
 simp [go_sem, c0]
theorem QGQ {x0 x1 : Operand} {z0 : Int} {z1 : Int} (h0 : evS σ x0 = some (.int .i64 z0)) (h1 : evS σ x1 = some (.int .i64 z1)) : ZE Try.prog n σ w ⟨dst, .build 127 #[(0, x0), (1, x1)], ty, pos, af, g⟩ (.agg #[.int .i64 z0, .int .i64 z1]) := fun a ha => by
 simp only [execOp, List.map_toArray, List.map_cons, List.map_nil, ha.eval h0, ha.eval h1]
 go_simp
theorem QK6 : (Try.prog.info? 123).map (·.size) = some 1 := by kernel_rfl
end
end Go.Proofs.Ytfgfenmaommclaa
