/- The operations of a head that also stores. -/
import Derived.Test.YtncnlhkmdljgpaaE2
import Derived.Test.YtncnlhkmdljgpaaE4
namespace Go.Proofs.Ytncnlhkmdljgpaa
open Go Go.RowKit
section
variable {P : Program} {n : Nat} {L : List Oper} {Q : Exit → Act → World → Prop} {cls : List (List Nat)} {m : Nat} {alc : List Nat} {w w1 : World} {Φ : Nat → (Nat → Bool) → (Nat → Value) → World → Prop} {i : Nat} {val : Nat → Value} {a : Act} {σ : Sg} {fl : Nat → Bool}
abbrev SK (fl : Nat → Bool) (L : List Oper) (cls : List (List Nat)) (alc : List Nat) (Φ : Nat → (Nat → Bool) → (Nat → Value) → World → Prop) (i : Nat) (val : Nat → Value) (a : Act) (w1 : World) : Act → World → Prop :=
  fun a' w' => ∃ v, a' = a.put (dstOf L i) v ∧ Below w1.heap.size w1 w' ∧ Φ i fl (res (upd val i v) i (clsAt cls i)) w' ∧ (i ∈ alc → v = .pointer (some ⟨w1.heap.size, 0, none⟩) ∧ w1.heap.size < w'.heap.size)
theorem ss_run {o : Oper} {v : Value} {w' : World} (ho : nthO L i = some o) (hg : o.guard = none) (hr : (execOp a.eval o).run P w1 = .ok (.value v) w') (hb : Below w1.heap.size w1 w') (hΦ : Φ i fl (res (upd val i v) i (clsAt cls i)) w') (halc : i ∈ alc → v = .pointer (some ⟨w1.heap.size, 0, none⟩) ∧ w1.heap.size < w'.heap.size) :
    wpOp P L.toArray Q i (SK fl L cls alc Φ i val a w1) a w1 := by
  obtain ⟨h1, h2⟩ := opL ho
  unfold wpOp
  simp only [h1]
  rw [if_pos (wanted_none hg _)]
  left
  unfold Oper.wp
  rw [hr]
  exact ⟨v, by rw [h2], hb, hΦ, halc⟩
/-- a value, the world as it was -/
theorem ss_val {o : Oper} {v : Value} (ha : Env n σ a) (ho : nthO L i = some o) (hg : o.guard = none) (hr : Gives P n σ w1 o v) (hΦ : Φ i fl (res (upd val i v) i (clsAt cls i)) w1) (halc : memB alc i = false) : wpOp P L.toArray Q i (SK fl L cls alc Φ i val a w1) a w1 :=
  ss_run ho hg (hr a ha) ⟨rfl, rfl, rfl, Nat.le_refl _, fun _ _ => rfl⟩ hΦ fun h => by rw [memB_mem.2 h] at halc; cases halc
theorem ss_new {o : Oper} {cs : Array Value} {T : TypeId} {v : Nat → Value} (ho : nthO L i = some o) (hg : o.guard = none) (hr : ∀ a, Env n σ a → (execOp a.eval o).run P w1 = .ok (.value (v w1.heap.size)) (w1.alloc (.cells cs T))) (ha : Env n σ a)
    (hv : memB alc i = true → v = fun g => .pointer (some ⟨g, 0, none⟩)) (hΦ : ∀ g w', Blk w' g T cs → Below w1.heap.size w1 w' → w1.heap.size ≤ g → Φ i fl (res (upd val i (v g)) i (clsAt cls i)) w') : wpOp P L.toArray Q i (SK fl L cls alc Φ i val a w1) a w1 :=
  ss_run ho hg (hr a ha) ((Below.refl _ _).alloc (Nat.le_refl _) _) (hΦ _ _ (Blk.new w1 T cs) ((Below.refl _ _).alloc (Nat.le_refl _) _) (Nat.le_refl _)) fun h => by rw [hv (memB_mem.2 h)]; exact ⟨rfl, by simp⟩
theorem ss_newP {o : Oper} {cs : Array Value} {T : TypeId} (ha : Env n σ a) (ho : nthO L i = some o) (hg : o.guard = none) (hr : ∀ a, Env n σ a → (execOp a.eval o).run P w1 = .ok (.value (.pointer (some ⟨w1.heap.size, 0, none⟩))) (w1.alloc (.cells cs T)))
    (hΦ : ∀ g w', Blk w' g T cs → Below w1.heap.size w1 w' → w1.heap.size ≤ g → Φ i fl (res (upd val i (.pointer (some ⟨g, 0, none⟩))) i (clsAt cls i)) w') : wpOp P L.toArray Q i (SK fl L cls alc Φ i val a w1) a w1 :=
  ss_new (v := fun g => .pointer (some ⟨g, 0, none⟩)) ho hg hr ha (fun _ => rfl) hΦ
theorem ss_newS {o : Oper} {m c : Nat} {cs : Array Value} {T : TypeId} (ha : Env n σ a) (ho : nthO L i = some o) (hg : o.guard = none) (hr : ∀ a, Env n σ a → (execOp a.eval o).run P w1 = .ok (.value (.slice (some ⟨w1.heap.size, 0, none⟩) m c)) (w1.alloc (.cells cs T))) (halc : memB alc i = false)
    (hΦ : ∀ g w', Blk w' g T cs → Below w1.heap.size w1 w' → w1.heap.size ≤ g → Φ i fl (res (upd val i (.slice (some ⟨g, 0, none⟩) m c)) i (clsAt cls i)) w') : wpOp P L.toArray Q i (SK fl L cls alc Φ i val a w1) a w1 :=
  ss_new (v := fun g => .slice (some ⟨g, 0, none⟩) m c) ho hg hr ha (fun h => by rw [halc] at h; cases h) hΦ
theorem ss_call {o : Oper} {f : FuncId} {args : Array Value} {R : Ending → World → Prop} (ha : Env n σ a) (ho : nthO L i = some o) (hg : o.guard = none) (hr : ∀ a, Env n σ a → (execOp a.eval o).run P w1 = .ok (.enter f args) w1) (hc : Calls P f args w1 R)
    (halc : memB alc i = false) (hΦ : ∀ e w', R e w' → ∃ v, e = .returned v ∧ Below w1.heap.size w1 w' ∧ Φ i fl (res (upd val i v) i (clsAt cls i)) w') : wpOp P L.toArray Q i (SK fl L cls alc Φ i val a w1) a w1 := by
  obtain ⟨h1, h2⟩ := opL ho
  unfold wpOp
  simp only [h1]
  rw [if_pos (wanted_none hg _)]
  left
  unfold Oper.wp
  rw [hr a ha, Oper.upon_enter]
  refine hc.mono fun e w' he => ?_
  obtain ⟨v, rfl, hb, hp⟩ := hΦ e w' he
  exact ⟨v, by rw [h2], hb, hp, fun h => by rw [memB_mem.2 h] at halc; cases halc⟩
theorem ss_push {d ty t e size bytes base B mm k : Nat} {s x : Operand} {pos : String} {af : Array Edge} (E : Elem P t e size bytes) {v src : Value} {xs news : List Value} (ha : Env n σ a) (ho : nthO L i = some ⟨some d, .call { callee := .builtin .append, args := #[s, x], argTypes := #[t, t] }, ty, pos, af, none⟩) (hs : evS σ s = some v) (hx : evS σ x = some src)
    (hown : w1.ownsRow base e size v k xs) (hr : Rd w1 B size src mm news) (h1 : ∀ u ∈ news, u.oneCell' = true) (hm : k + mm ≤ 1048576) (hby : Nat.ble bytes 1048576 = true) (hbase : base ≤ w1.heap.size) (halc : memB alc i = false)
    (hΦ : ∀ v' w', w'.ownsRow base e size v' (k + mm) (xs ++ news) → w1.grownBy w' v.ownBlock → Below base w1 w' → Below w1.heap.size w1 w' ∧ Φ i fl (res (upd val i v') i (clsAt cls i)) w') : wpOp P L.toArray Q i (SK fl L cls alc Φ i val a w1) a w1 := by
  obtain ⟨v', w', h2, h3, h4, h5, _⟩ := run_push (P := P) (ty := ty) E hown hr h1 hm (by simpa [Nat.ble_eq] using hby) hbase
  obtain ⟨h6, h7⟩ := hΦ v' w' h3 h4 h5
  exact ss_run ho rfl (run_append_call rfl (ha.eval hs) (ha.eval hx) h2) h6 h7 fun h => by rw [memB_mem.2 h] at halc; cases halc


def phiS (V : Nat → (Nat → Value) → Prop) : List (Nat × ((Nat → Bool) → (Nat → Value) → World → Prop)) → Nat → (Nat → Bool) → (Nat → Value) → World → Prop
  | [], i, _, r, _ => V i r
  | p :: l, i, fl, r, w => match Nat.beq i p.1 with
    | true => p.2 fl r w
    | false => phiS V l i fl r w
def MonoS (F : (Nat → Bool) → (Nat → Value) → World → Prop) : Prop := ∀ fl r w1 w2, Below w1.heap.size w1 w2 → F fl r w1 → F fl r w2
theorem phiS_nil {V : Nat → (Nat → Value) → Prop} : ∀ i fl r w1 w2, Below w1.heap.size w1 w2 → phiS V [] i fl r w1 → phiS V [] i fl r w2 := fun _ _ _ _ _ _ h => h
theorem phiS_cons {V : Nat → (Nat → Value) → Prop} {k : Nat} {F : (Nat → Bool) → (Nat → Value) → World → Prop} {l : List (Nat × ((Nat → Bool) → (Nat → Value) → World → Prop))} (hF : MonoS F) (hl : ∀ i fl r w1 w2, Below w1.heap.size w1 w2 → phiS V l i fl r w1 → phiS V l i fl r w2) :
    ∀ i fl r w1 w2, Below w1.heap.size w1 w2 → phiS V ((k, F) :: l) i fl r w1 → phiS V ((k, F) :: l) i fl r w2 := by
  intro i fl r w1 w2 hb h
  unfold phiS at h ⊢
  cases e : Nat.beq i k with
  | true => simp only [e] at h ⊢; exact hF fl r w1 w2 hb h
  | false => simp only [e] at h ⊢; exact hl i fl r w1 w2 hb h
/-- what a store to a block of its own keeps -/
theorem phiS_nil_st {V : Nat → (Nat → Value) → Prop} {s : Nat} {w2 : World} : ∀ j, phiS V [] j fl (res val j (clsAt cls j)) w1 → phiS V [] j (fset fl s) (res val j (clsAt cls j)) w2 := fun _ h => h
theorem phiS_cons_st {V : Nat → (Nat → Value) → Prop} {s k : Nat} {w2 : World} {C : Nat → Prop} {F : (Nat → Bool) → (Nat → Value) → World → Prop} {l : List (Nat × ((Nat → Bool) → (Nat → Value) → World → Prop))} (hF : C k → F fl (res val k (clsAt cls k)) w1 → F (fset fl s) (res val k (clsAt cls k)) w2)
    (hl : ∀ j, C j → phiS V l j fl (res val j (clsAt cls j)) w1 → phiS V l j (fset fl s) (res val j (clsAt cls j)) w2) :
    ∀ j, C j → phiS V ((k, F) :: l) j fl (res val j (clsAt cls j)) w1 → phiS V ((k, F) :: l) j (fset fl s) (res val j (clsAt cls j)) w2 := by
  intro j hc h
  unfold phiS at h ⊢
  cases e : Nat.beq j k with
  | true =>
    have e' := Nat.eq_of_beq_eq_true e
    subst e'
    simp only [e] at h ⊢
    exact hF hc h
  | false => simp only [e] at h ⊢; exact hl j hc h
/-- a block made here, till it is stored into -/
theorem monoS_alloc {T k s B : Nat} {cs : Array Value} : MonoS fun fl r w => ∃ g, r k = .pointer (some ⟨g, 0, none⟩) ∧ B ≤ g ∧ (fl s = false → Blk w g T cs) := fun _ _ _ _ hb ⟨g, h1, h2, h3⟩ => ⟨g, h1, h2, fun h => (h3 h).below hb (h3 h).lt⟩
theorem monoS_alloc0 {T k B : Nat} {cs : Array Value} : MonoS fun _ r w => ∃ g, r k = .pointer (some ⟨g, 0, none⟩) ∧ B ≤ g ∧ Blk w g T cs := fun _ _ _ _ hb ⟨g, h1, h2, h3⟩ => ⟨g, h1, h2, h3.below hb h3.lt⟩
theorem monoS_store {T k : Nat} {cs : (Nat → Value) → Array Value} : MonoS fun _ r w => ∃ g, r k = .pointer (some ⟨g, 0, none⟩) ∧ Blk w g T (cs r) := fun _ _ _ _ hb ⟨g, h1, h3⟩ => ⟨g, h1, h3.below hb h3.lt⟩
theorem monoS_own {T g : Nat} {cs : (Nat → Value) → Array Value} : MonoS fun _ r w => Blk w g T (cs r) := fun _ _ _ _ hb h3 => h3.below hb h3.lt
theorem monoS_bs {T k m c : Nat} {cs : (Nat → Value) → Array Value} {C : Nat → Prop} : MonoS fun _ r w => ∃ g, r k = .slice (some ⟨g, 0, none⟩) m c ∧ Blk w g T (cs r) ∧ C g := fun _ _ _ _ hb ⟨g, h1, h2, h3⟩ => ⟨g, h1, h2.below hb h2.lt, h3⟩
theorem monoS_row {T e size base k : Nat} {xs : List Value} {C : Value → Prop} : MonoS fun _ r w => w.ownsRow base T size (r e) k xs ∧ C (r e) := fun _ _ _ _ hb ⟨h1, h2⟩ => ⟨own_below h1 hb (Nat.le_refl _), h2⟩
theorem monoS_sl {e m o : Nat} {v : Value} : MonoS fun _ r w => ∃ g c, r e = .slice (some ⟨g, 0, none⟩) m c ∧ w.cell? ⟨g, o, none⟩ = some v := fun _ _ _ _ hb ⟨g, c, h1, h2⟩ => ⟨g, c, h1, below_load hb h2⟩
theorem monoS_pt {e o : Nat} {v : Value} : MonoS fun _ r w => ∃ g, r e = .pointer (some ⟨g, o, none⟩) ∧ w.cell? ⟨g, o, none⟩ = some v := fun _ _ _ _ hb ⟨g, h1, h2⟩ => ⟨g, h1, below_load hb h2⟩
/-- what is dropped once a store has come -/
theorem monoS_till {s : Nat} {F : (Nat → Value) → World → Prop} (h : Mono F) : MonoS fun fl r w => fl s = false → F r w := fun _ r w1 w2 hb hf e => h r w1 w2 hb (hf e)
theorem fset_eq {s : Nat} : fset fl s s = true := by simp [fset]
theorem fset_ne {s k : Nat} (h : Nat.beq k s = false) : fset fl s k = fl k := by simp [fset, h]
theorem grown_two {w w1 w2 : World} {g : Nat} (h : w.grownBy w1 (some g)) (k : w1.grownBy w2 (some g)) : w.grownBy w2 (some g) :=
  ⟨k.os.trans h.os, k.tape.trans h.tape, k.output.trans h.output, Nat.le_trans h.size k.size, fun i hi hne => (k.block i (Nat.lt_of_lt_of_le hi h.size) hne).trans (h.block i hi hne)⟩
theorem base_own {w : World} {g T s : Nat} {cs : Array Value} (hq : Blk w g T cs) : BaseOk w fun fl w1 => w.grownBy w1 (some g) ∧ (fl s = false → Blk w1 g T cs) :=
  ⟨fun _ _ => ⟨⟨rfl, rfl, rfl, Nat.le_refl _, fun _ _ _ => rfl⟩, fun _ => hq⟩, fun _ _ _ ⟨h1, h2⟩ hb => ⟨grown_below h1 hb, fun h => (h2 h).below hb (h2 h).lt⟩, fun _ _ h => h.1.size⟩
theorem base_row {w : World} {base e size k s : Nat} {v : Value} {xs : List Value} (ho : w.ownsRow base e size v k xs) : BaseOk w fun fl w1 => w.grownBy w1 v.ownBlock ∧ (fl s = false → w1.ownsRow base e size v k xs) :=
  ⟨fun _ _ => ⟨⟨rfl, rfl, rfl, Nat.le_refl _, fun _ _ _ => rfl⟩, fun _ => own_drewN ho 1⟩, fun _ _ _ ⟨h1, h2⟩ hb => ⟨grown_below h1 hb, fun h => own_below (h2 h) hb (Nat.le_refl _)⟩, fun _ _ h => h.1.size⟩
theorem grown_three {w w1 w2 : World} {row : Option Nat} (h : w.grownBy w1 row) (k : w1.grownBy w2 row) : w.grownBy w2 row :=
  ⟨k.os.trans h.os, k.tape.trans h.tape, k.output.trans h.output, Nat.le_trans h.size k.size, fun i hi hne => (k.block i (Nat.lt_of_lt_of_le hi h.size) hne).trans (h.block i hi hne)⟩
theorem below_row {w w1 : World} {base e size k : Nat} {v : Value} {xs : List Value} (ho : w.ownsRow base e size v k xs) (h : w.grownBy w1 v.ownBlock) (hb : base ≤ w.heap.size) : Below base w w1 :=
  (Below.refl _ _).grown h hb fun g hg => (ho.lt g hg).1
/-- an append to one's own row, in a head -/
theorem ts_push {d ty t e size bytes base B mm k : Nat} {s x : Operand} {pos : String} {af : Array Edge} (E : Elem P t e size bytes) {v src : Value} {xs news : List Value} {K : Act → World → Prop} (ha : Env n σ a) (ho : nthO L i = some ⟨some d, .call { callee := .builtin .append, args := #[s, x], argTypes := #[t, t] }, ty, pos, af, none⟩) (hs : evS σ s = some v) (hx : evS σ x = some src)
    (hown : w1.ownsRow base e size v k xs) (hr : Rd w1 B size src mm news) (h1 : ∀ u ∈ news, u.oneCell' = true) (hm : k + mm ≤ 1048576) (hby : Nat.ble bytes 1048576 = true) (hbase : base ≤ w1.heap.size)
    (next : ∀ v' w', w'.ownsRow base e size v' (k + mm) (xs ++ news) → w1.grownBy w' v.ownBlock → (v'.ownBlock = v.ownBlock ∨ v'.ownBlock = some w1.heap.size) → K (a.put (dstOf L i) v') w') : wpOp P L.toArray Q i K a w1 := by
  obtain ⟨v', w', h2, h3, h4, _, h6⟩ := run_push (P := P) (ty := ty) E hown hr h1 hm (by simpa [Nat.ble_eq] using hby) hbase
  obtain ⟨h7, h8⟩ := opL ho
  unfold wpOp
  simp only [h7]
  rw [if_pos (wanted_none rfl _)]
  left
  unfold Oper.wp
  rw [run_append_call rfl (ha.eval hs) (ha.eval hx) h2]
  have := next v' w' h3 h4 h6
  rw [h8] at this
  exact this
/-- a store, in a head -/
theorem ts_store {ty t T g o k : Nat} {x y : Operand} {pos : String} {af : Array Edge} {l l' : List Value} {v : Value} {K : Act → World → Prop} (ha : Env n σ a) (ho : nthO L i = some ⟨none, .store t x y, ty, pos, af, none⟩) (hx : evS σ x = some (.pointer (some ⟨g, o, none⟩))) (hy : evS σ y = some v) (hb : Blk w1 g T l.toArray) (hs : (P.info? t).map (·.size) = some k) (hv : v.cells.toList = l') (hk : lenV l' = k) (hok : Nat.ble (o + k) (lenV l) = true) (h1 : allOne l' = true)
    (next : ∀ w', Blk w' g T (spl l o l').toArray → w1.grownBy w' (some g) → K a w') : wpOp P L.toArray Q i K a w1 := by
  obtain ⟨h2, _⟩ := opL ho
  unfold wpOp
  simp only [h2]
  rw [if_pos (wanted_none rfl _)]
  left
  unfold Oper.wp
  have hr : (execOp a.eval ⟨none, .store t x y, ty, pos, af, none⟩).run P w1 = .ok .skip (w1.setRow g (spl l o l').toArray) := by
    simp only [execOp, ha.eval hx, ha.eval hy, Sem.run_bind, run_storeAt hs hb hv hk hok h1, Result.andThen_ok]
    rfl
  rw [hr, Oper.upon_skip]
  exact next _ (setRow_blk hb) (setRow_grown _ _ _)
end
end Go.Proofs.Ytncnlhkmdljgpaa
