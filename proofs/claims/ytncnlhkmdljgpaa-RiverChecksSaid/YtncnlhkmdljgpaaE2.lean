/- What operations on memory do, for the walk of XE1: new blocks, stores into one's own block, appends. -/
import Derived.Test.YtncnlhkmdljgpaaE3
import Derived.Test.YtncnlhkmdljgpaaBase6
import Derived.Laws.CopyRow
namespace Go.Proofs.Ytncnlhkmdljgpaa
open Go Go.RowKit

theorem below_load {w w' : World} (hb : Below w.heap.size w w') {p : Addr} {v : Value} (h : w.cell? p = some v) : w'.cell? p = some v := (hb.cell (block_lt_of_cell h)).trans h
def nth : List Value → Nat → Option Value
  | [], _ => none
  | v :: _, 0 => some v
  | _ :: l, k + 1 => nth l k
theorem nth_eq : ∀ (l : List Value) (k : Nat), nth l k = l[k]?
  | [], _ => rfl
  | _ :: _, 0 => rfl
  | _ :: l, k + 1 => by simpa [nth] using nth_eq l k
def ovr : List Value → List Value → List Value
  | l, [] => l
  | [], _ => []
  | _ :: l, v :: vs => v :: ovr l vs
/-- what is stored at offset o -/
def spl : List Value → Nat → List Value → List Value
  | l, 0, vs => ovr l vs
  | [], _, _ => []
  | x :: l, o + 1, vs => x :: spl l o vs
theorem ovr_eq : ∀ (l vs : List Value), vs.length ≤ l.length → ovr l vs = vs ++ l.drop vs.length
  | l, [], _ => by cases l <;> simp [ovr]
  | [], v :: vs, h => by simp at h
  | x :: l, v :: vs, h => by simp [ovr, ovr_eq l vs (by simpa using h)]
theorem spl_eq : ∀ (l : List Value) (o : Nat) (vs : List Value), o + vs.length ≤ l.length → spl l o vs = l.take o ++ vs ++ l.drop (o + vs.length)
  | [], 0, vs, h => by
    have e : vs = [] := List.eq_nil_of_length_eq_zero (by simpa using h)
    subst e
    rfl
  | x :: l, 0, vs, h => by
    have := ovr_eq (x :: l) vs (by simpa using h)
    simp [spl, this]
  | [], o + 1, vs, h => by simp at h
  | x :: l, o + 1, vs, h => by
    have := spl_eq l o vs (by simp at h; omega)
    simp [spl, this, show o + 1 + vs.length = o + vs.length + 1 by omega]
def lenV : List Value → Nat
  | [] => 0
  | _ :: l => lenV l + 1
theorem lenV_eq : ∀ l : List Value, lenV l = l.length
  | [] => rfl
  | _ :: l => by simp [lenV, lenV_eq l]
def allOne : List Value → Bool
  | [] => true
  | v :: l => bif v.oneCell' then allOne l else false
theorem allOne_mem : ∀ {l : List Value}, allOne l = true → ∀ v ∈ l, v.oneCell' = true
  | [], _, v, h => by cases h
  | x :: l, h, v, hv => by
    unfold allOne at h
    cases hx : x.oneCell' with
    | false => rw [hx] at h; cases h
    | true =>
      rw [hx] at h
      rcases List.mem_cons.1 hv with rfl | hv
      · exact hx
      · exact allOne_mem h v hv
section
variable {w w' : World} {g : Nat} {T : TypeId} {l : List Value}
theorem Blk.at {v : Value} (h : Blk w g T l.toArray) {j : Nat} (hj : nth l j = some v) : w.cell? ⟨g, j, none⟩ = some v := by
  rw [h.cell, ← hj, nth_eq]
  simp
end
section
variable {P : Program} {n : Nat} {σ : Sg} {w : World} {Q : Exit → Act → World → Prop} {L : List Oper} {rest : List Oper}
theorem run_storeAt {t T : TypeId} {g o k : Nat} {l l' : List Value} {v : Value} (hs : (P.info? t).map (·.size) = some k) (hb : Blk w g T l.toArray) (hv : v.cells.toList = l') (hk : lenV l' = k) (ho : Nat.ble (o + k) (lenV l) = true) (h1 : allOne l' = true) :
    (Instr.storeAt t (.pointer (some ⟨g, o, none⟩)) v).run P w = .ok () (w.setRow g (spl l o l').toArray) := by
  have hl : l'.length = k := by rw [← lenV_eq]; exact hk
  have hlo : o + k ≤ l.length := by rw [← lenV_eq]; simpa [Nat.ble_eq] using ho
  have hsz : v.cells.size = k := by rw [← hl, ← hv, Array.length_toList]
  have hst := run_storeCells_at P g o T l' 0 l.toArray w hb (by simp; omega) (allOne_mem h1)
  rw [spl_eq l o l' (by omega)]
  cases hq : P.info? t with
  | none => rw [hq] at hs; cases hs
  | some i =>
    have hi : i.size = k := by simpa [hq] using hs
    simp only [Nat.add_zero] at hst
    simp [Instr.storeAt, Instr.sureAddr, storeVar, sizeOf, typeInfo, hq, hi, hsz, hv, hst]
theorem setRow_blk {g : Nat} {T : TypeId} {cs ds : Array Value} (h : Blk w g T cs) : Blk (w.setRow g ds) g T ds := setRow_heap w g cs ds T (0, 0) h
theorem setRow_grown (w : World) (g : Nat) (ds : Array Value) : w.grownBy (w.setRow g ds) (some g) := by
  have e : ∀ k, k ≠ g → (w.setRow g ds).heap[k]? = w.heap[k]? := fun k hk => by
    unfold World.setRow
    simp only [Array.getElem?_modify]
    rw [if_neg (Ne.symm hk)]
  exact ⟨rfl, rfl, rfl, by simp [World.setRow], fun k _ hne => e k (fun h => hne (by rw [h]))⟩
/-- a store into one's own block -/
theorem EL.store {ty t T g o k : Nat} {x y : Operand} {pos : String} {af : Array Edge} {l l' : List Value} {v : Value} (hx : evS σ x = some (.pointer (some ⟨g, o, none⟩))) (hy : evS σ y = some v) (hb : Blk w g T l.toArray) (hs : (P.info? t).map (·.size) = some k) (hv : v.cells.toList = l') (hk : lenV l' = k) (ho : Nat.ble (o + k) (lenV l) = true) (h1 : allOne l' = true)
    (next : ∀ w', Blk w' g T (spl l o l').toArray → w.grownBy w' (some g) → EL P n L Q rest σ w') : EL P n L Q (⟨none, .store t x y, ty, pos, af, none⟩ :: rest) σ w := fun a ha => by
  unfold wpList
  rw [if_pos (wanted_none rfl _)]
  left
  unfold Oper.wp
  have hr : (execOp a.eval ⟨none, .store t x y, ty, pos, af, none⟩).run P w = .ok .skip (w.setRow g (spl l o l').toArray) := by
    simp only [execOp, ha.eval hx, ha.eval hy, Sem.run_bind, run_storeAt hs hb hv hk ho h1, Result.andThen_ok]
    rfl
  rw [hr, Oper.upon_skip]
  exact next _ (setRow_blk hb) (setRow_grown _ _ _) a ha
/-- a new block -/
theorem EL.new {d ty : Nat} {op : Op} {pos : String} {af : Array Edge} {cs : Array Value} {T : TypeId} {v : Nat → Value} (h : ∀ a, Env n σ a → (execOp a.eval ⟨some d, op, ty, pos, af, none⟩).run P w = .ok (.value (v w.heap.size)) (w.alloc (.cells cs T))) (hd : Nat.blt d n = true)
    (next : ∀ g w', Blk w' g T cs → Below w.heap.size w w' → w.heap.size ≤ g → w.heap.size < w'.heap.size → EL P n L Q rest (ins σ d (v g)) w') : EL P n L Q (⟨some d, op, ty, pos, af, none⟩ :: rest) σ w :=
  EL.turn _ _ h hd (next _ _ (Blk.new w T cs) ((Below.refl _ _).alloc (Nat.le_refl _) _) (Nat.le_refl _) (by simp))
theorem EL.newP {d ty : Nat} {op : Op} {pos : String} {af : Array Edge} {cs : Array Value} {T : TypeId} (h : ∀ a, Env n σ a → (execOp a.eval ⟨some d, op, ty, pos, af, none⟩).run P w = .ok (.value (.pointer (some ⟨w.heap.size, 0, none⟩))) (w.alloc (.cells cs T))) (hd : Nat.blt d n = true)
    (next : ∀ g w', Blk w' g T cs → Below w.heap.size w w' → w.heap.size ≤ g → w.heap.size < w'.heap.size → EL P n L Q rest (ins σ d (.pointer (some ⟨g, 0, none⟩))) w') : EL P n L Q (⟨some d, op, ty, pos, af, none⟩ :: rest) σ w :=
  EL.new (v := fun g => .pointer (some ⟨g, 0, none⟩)) h hd next
theorem EL.newS {d ty m c : Nat} {op : Op} {pos : String} {af : Array Edge} {cs : Array Value} {T : TypeId} (h : ∀ a, Env n σ a → (execOp a.eval ⟨some d, op, ty, pos, af, none⟩).run P w = .ok (.value (.slice (some ⟨w.heap.size, 0, none⟩) m c)) (w.alloc (.cells cs T))) (hd : Nat.blt d n = true)
    (next : ∀ g w', Blk w' g T cs → Below w.heap.size w w' → w.heap.size ≤ g → w.heap.size < w'.heap.size → EL P n L Q rest (ins σ d (.slice (some ⟨g, 0, none⟩) m c)) w') : EL P n L Q (⟨some d, op, ty, pos, af, none⟩ :: rest) σ w :=
  EL.new (v := fun g => .slice (some ⟨g, 0, none⟩) m c) h hd next
theorem below_store {w0 w w' : World} {g : Nat} (hb : Below w0.heap.size w0 w) (hg : w.grownBy w' (some g)) (h : w0.heap.size ≤ g) : Below w0.heap.size w0 w' :=
  hb.grown hg hb.size fun k hk => by injection hk with hk; omega
theorem run_append_call {t : TypeId} {s x : Operand} {o : Oper} {v v' : Value} {src : Value} {w' : World} {a : Act} (ho : o.op = .call { callee := .builtin .append, args := #[s, x], argTypes := #[t, t] }) (hs : a.eval s = v) (hx : a.eval x = src) (hr : (Builtin.append_ #[t, t] o.type #[v, src]).run P w = .ok v' w') :
    (execOp a.eval o).run P w = .ok (.value v') w' := by
  unfold execOp
  simp only [ho, resolve, invoke, builtin, Sem.run_bind, Sem.run_pure, Result.andThen_ok, List.map_toArray, List.map_cons, List.map_nil, hs, hx, hr]
theorem run_push {t e : TypeId} {size bytes base B m k ty : Nat} (E : Elem P t e size bytes) {v src : Value} {xs news : List Value} (hown : w.ownsRow base e size v k xs) (hr : Rd w B size src m news) (h1 : ∀ u ∈ news, u.oneCell' = true) (hm : k + m ≤ 1048576) (hby : bytes ≤ 1048576) (hbase : base ≤ w.heap.size) :
    ∃ v' w', (Builtin.append_ #[t, t] ty #[v, src]).run P w = .ok v' w' ∧ w'.ownsRow base e size v' (k + m) (xs ++ news) ∧ w.grownBy w' v.ownBlock ∧ Below base w w' ∧ (v'.ownBlock = v.ownBlock ∨ v'.ownBlock = some w.heap.size) := by
  obtain ⟨i, z, hi, hz, hsize, hb, hzs⟩ := E.hi
  have hmul : (k + m) * bytes ≤ 140737488355328 := by
    have h1 : (k + m) * bytes ≤ 1048576 * bytes := Nat.mul_le_mul_right _ hm
    omega
  obtain ⟨v', w', h2, h3, h4, h5⟩ := run_append_rd (P := P) w base t ty e i z size bytes E.ht hi hz hsize hb hzs E.hs v k xs hown B src m news hr h1 (by simp only [maxLen]; omega) hmul hbase
  exact ⟨v', w', h2, h3, h4, (Below.refl _ _).grown h4 hbase fun g hg => (hown.lt g hg).1, h5⟩
/-- an append to a row of one's own -/
theorem EL.push {d ty t e size bytes base B m k : Nat} {s x : Operand} {pos : String} {af : Array Edge} (E : Elem P t e size bytes) {v src : Value} {xs news : List Value} (hs : evS σ s = some v) (hx : evS σ x = some src) (hown : w.ownsRow base e size v k xs) (hr : Rd w B size src m news) (h1 : ∀ u ∈ news, u.oneCell' = true) (hm : k + m ≤ 1048576) (hby : Nat.ble bytes 1048576 = true) (hbase : base ≤ w.heap.size) (hd : Nat.blt d n = true)
    (next : ∀ v' w', w'.ownsRow base e size v' (k + m) (xs ++ news) → w.grownBy w' v.ownBlock → Below base w w' → (v'.ownBlock = v.ownBlock ∨ v'.ownBlock = some w.heap.size) → EL P n L Q rest (ins σ d v') w') : EL P n L Q (⟨some d, .call { callee := .builtin .append, args := #[s, x], argTypes := #[t, t] }, ty, pos, af, none⟩ :: rest) σ w := fun a ha => by
  obtain ⟨v', w', h2, h3, h4, h5, h6⟩ := run_push (P := P) (ty := ty) E hown hr h1 hm (by simpa [Nat.ble_eq] using hby) hbase
  exact wpL_run (wanted_none rfl _) (run_append_call rfl (ha.eval hs) (ha.eval hx) h2) (next v' w' h3 h4 h5 h6 _ (ha.put hd v'))
end
/-- one element in a block -/
theorem rd_one {w : World} {g size T : Nat} {l : List Value} (h : Blk w g T l.toArray) (hl : lenV l = size) : Rd w w.heap.size size (.slice (some ⟨g, 0, none⟩) 1 1) 1 l := by
  have hl' : l.length = size := by rw [← lenV_eq]; exact hl
  refine ⟨by omega, _, _, rfl, Nat.le_refl _, fun _ => ⟨g, 0, rfl, h.lt, fun j u hu => ?_⟩⟩
  rw [Nat.zero_add, h.cell]
  simpa using hu

section
variable {P : Program} {n : Nat} {σ : Sg} {w : World}
theorem resc1 {fn : Func} {c : Tmp} {t : TypeId} {p : Addr} {v : Value} (h : fn.results = #[.cell c t]) (hc : σ c = some (.pointer (some p))) (hl : (loadVar t p).run P w = .ok v w) (a : Act) (ha : Env n σ a) : (results fn a.tmps).run P w = .ok v w := by
  have h1 : a.tmps.getD c undef = .pointer (some p) := ha.eval (x := .tmp c) hc
  rw [Array.getD_eq_getD_getElem?] at h1
  simp [results, h, h1, asAddr, hl]
theorem resct {fn : Func} {c s : Tmp} {t : TypeId} {p : Addr} {v u : Value} (h : fn.results = #[.cell c t, .tmp s]) (hc : σ c = some (.pointer (some p))) (hs : σ s = some u) (hl : (loadVar t p).run P w = .ok v w) (a : Act) (ha : Env n σ a) : (results fn a.tmps).run P w = .ok (.tuple #[v, u]) w := by
  have h1 : a.tmps.getD c undef = .pointer (some p) := ha.eval (x := .tmp c) hc
  have h2 : a.tmps.getD s undef = u := ha.eval (x := .tmp s) hs
  rw [Array.getD_eq_getD_getElem?] at h1 h2
  simp [results, h, h1, h2, asAddr, hl]
end
/-- several elements in a block -/
theorem rd_blk {w : World} {g size k T : Nat} {l : List Value} (h : Blk w g T l.toArray) (hl : lenV l = k * size) : Rd w w.heap.size size (.slice (some ⟨g, 0, none⟩) k k) k l := by
  have hl' : l.length = k * size := by rw [← lenV_eq]; exact hl
  refine ⟨hl', _, _, rfl, Nat.le_refl _, fun _ => ⟨g, 0, rfl, h.lt, fun j u hu => ?_⟩⟩
  rw [Nat.zero_add, h.cell]
  simpa using hu
/-! ### The head of a drawn region -/
section
variable {P : Program} {n : Nat} {L : List Oper} {Q : Exit → Act → World → Prop} {cls : List (List Nat)} {m : Nat} {alc : List Nat} {w w1 : World} {Φ : Nat → (Nat → Value) → World → Prop} {i : Nat} {val : Nat → Value} {a : Act} {σ : Sg}
abbrev HK (L : List Oper) (cls : List (List Nat)) (alc : List Nat) (Φ : Nat → (Nat → Value) → World → Prop) (i : Nat) (val : Nat → Value) (a : Act) (w1 : World) : Act → World → Prop :=
  fun a' w' => ∃ v, a' = a.put (dstOf L i) v ∧ Below w1.heap.size w1 w' ∧ Φ i (res (upd val i v) i (clsAt cls i)) w' ∧ (i ∈ alc → v = .pointer (some ⟨w1.heap.size, 0, none⟩) ∧ w1.heap.size < w'.heap.size)
theorem opL {o : Oper} (ho : nthO L i = some o) : L.toArray[i]? = some o ∧ dstOf L i = o.dst := by
  have : ∀ (L : List Oper) (i : Nat), nthO L i = some o → L[i]? = some o := by
    intro L
    induction L with
    | nil => intro i h; cases h
    | cons x L ih =>
      intro i h
      cases i with
      | zero => simpa [nthO] using h
      | succ i => simpa using ih i h
  have h := this L i ho
  exact ⟨by simpa using h, dstOf_at h⟩
theorem hs_run {o : Oper} {v : Value} {w' : World} (ho : nthO L i = some o) (hg : o.guard = none) (hr : (execOp a.eval o).run P w1 = .ok (.value v) w') (hb : Below w1.heap.size w1 w') (hΦ : Φ i (res (upd val i v) i (clsAt cls i)) w') (halc : i ∈ alc → v = .pointer (some ⟨w1.heap.size, 0, none⟩) ∧ w1.heap.size < w'.heap.size) :
    wpOp P L.toArray Q i (HK L cls alc Φ i val a w1) a w1 := by
  obtain ⟨h1, h2⟩ := opL ho
  unfold wpOp
  simp only [h1]
  rw [if_pos (wanted_none hg _)]
  left
  unfold Oper.wp
  rw [hr]
  exact ⟨v, by rw [h2], hb, hΦ, halc⟩
/-- a value, the world as it was -/
theorem hs_val {o : Oper} {v : Value} (ha : Env n σ a) (ho : nthO L i = some o) (hg : o.guard = none) (hr : Gives P n σ w1 o v) (hΦ : Φ i (res (upd val i v) i (clsAt cls i)) w1) (halc : memB alc i = false) : wpOp P L.toArray Q i (HK L cls alc Φ i val a w1) a w1 :=
  hs_run ho hg (hr a ha) ⟨rfl, rfl, rfl, Nat.le_refl _, fun _ _ => rfl⟩ hΦ fun h => by rw [memB_mem.2 h] at halc; cases halc
theorem hs_new {o : Oper} {cs : Array Value} {T : TypeId} {v : Nat → Value} (ho : nthO L i = some o) (hg : o.guard = none) (hr : ∀ a, Env n σ a → (execOp a.eval o).run P w1 = .ok (.value (v w1.heap.size)) (w1.alloc (.cells cs T))) (ha : Env n σ a)
    (hv : memB alc i = true → v = fun g => .pointer (some ⟨g, 0, none⟩)) (hΦ : ∀ g w', Blk w' g T cs → Below w1.heap.size w1 w' → w1.heap.size ≤ g → Φ i (res (upd val i (v g)) i (clsAt cls i)) w') : wpOp P L.toArray Q i (HK L cls alc Φ i val a w1) a w1 :=
  hs_run ho hg (hr a ha) ((Below.refl _ _).alloc (Nat.le_refl _) _) (hΦ _ _ (Blk.new w1 T cs) ((Below.refl _ _).alloc (Nat.le_refl _) _) (Nat.le_refl _)) fun h => by rw [hv (memB_mem.2 h)]; exact ⟨rfl, by simp⟩
theorem hs_newP {o : Oper} {cs : Array Value} {T : TypeId} (ha : Env n σ a) (ho : nthO L i = some o) (hg : o.guard = none) (hr : ∀ a, Env n σ a → (execOp a.eval o).run P w1 = .ok (.value (.pointer (some ⟨w1.heap.size, 0, none⟩))) (w1.alloc (.cells cs T)))
    (hΦ : ∀ g w', Blk w' g T cs → Below w1.heap.size w1 w' → w1.heap.size ≤ g → Φ i (res (upd val i (.pointer (some ⟨g, 0, none⟩))) i (clsAt cls i)) w') : wpOp P L.toArray Q i (HK L cls alc Φ i val a w1) a w1 :=
  hs_new (v := fun g => .pointer (some ⟨g, 0, none⟩)) ho hg hr ha (fun _ => rfl) hΦ
theorem hs_newS {o : Oper} {m c : Nat} {cs : Array Value} {T : TypeId} (ha : Env n σ a) (ho : nthO L i = some o) (hg : o.guard = none) (hr : ∀ a, Env n σ a → (execOp a.eval o).run P w1 = .ok (.value (.slice (some ⟨w1.heap.size, 0, none⟩) m c)) (w1.alloc (.cells cs T))) (halc : memB alc i = false)
    (hΦ : ∀ g w', Blk w' g T cs → Below w1.heap.size w1 w' → w1.heap.size ≤ g → Φ i (res (upd val i (.slice (some ⟨g, 0, none⟩) m c)) i (clsAt cls i)) w') : wpOp P L.toArray Q i (HK L cls alc Φ i val a w1) a w1 :=
  hs_new (v := fun g => .slice (some ⟨g, 0, none⟩) m c) ho hg hr ha (fun h => by rw [halc] at h; cases h) hΦ
theorem hs_call {o : Oper} {f : FuncId} {args : Array Value} {R : Ending → World → Prop} (ha : Env n σ a) (ho : nthO L i = some o) (hg : o.guard = none) (hr : ∀ a, Env n σ a → (execOp a.eval o).run P w1 = .ok (.enter f args) w1) (hc : Calls P f args w1 R)
    (halc : memB alc i = false) (hΦ : ∀ e w', R e w' → ∃ v, e = .returned v ∧ Below w1.heap.size w1 w' ∧ Φ i (res (upd val i v) i (clsAt cls i)) w') : wpOp P L.toArray Q i (HK L cls alc Φ i val a w1) a w1 := by
  obtain ⟨h1, h2⟩ := opL ho
  unfold wpOp
  simp only [h1]
  rw [if_pos (wanted_none hg _)]
  left
  unfold Oper.wp
  rw [hr a ha, Oper.upon_enter]
  refine hc.mono fun e w' he => ?_
  obtain ⟨v, rfl, hb, hp⟩ := hΦ e w' he
  exact ⟨v, by rw [h2], hb, hp, fun h => by rw [memB_mem.2 h] at halc; cases halc⟩
theorem hs_push {d ty t e size bytes base B mm k : Nat} {s x : Operand} {pos : String} {af : Array Edge} (E : Elem P t e size bytes) {v src : Value} {xs news : List Value} (ha : Env n σ a) (ho : nthO L i = some ⟨some d, .call { callee := .builtin .append, args := #[s, x], argTypes := #[t, t] }, ty, pos, af, none⟩) (hs : evS σ s = some v) (hx : evS σ x = some src)
    (hown : w1.ownsRow base e size v k xs) (hr : Rd w1 B size src mm news) (h1 : ∀ u ∈ news, u.oneCell' = true) (hm : k + mm ≤ 1048576) (hby : Nat.ble bytes 1048576 = true) (hbase : base ≤ w1.heap.size) (halc : memB alc i = false)
    (hΦ : ∀ v' w', w'.ownsRow base e size v' (k + mm) (xs ++ news) → w1.grownBy w' v.ownBlock → Below base w1 w' → Below w1.heap.size w1 w' ∧ Φ i (res (upd val i v') i (clsAt cls i)) w') : wpOp P L.toArray Q i (HK L cls alc Φ i val a w1) a w1 := by
  obtain ⟨v', w', h2, h3, h4, h5, _⟩ := run_push (P := P) (ty := ty) E hown hr h1 hm (by simpa [Nat.ble_eq] using hby) hbase
  obtain ⟨h6, h7⟩ := hΦ v' w' h3 h4 h5
  exact hs_run ho rfl (run_append_call rfl (ha.eval hs) (ha.eval hx) h2) h6 h7 fun h => by rw [memB_mem.2 h] at halc; cases halc

theorem dep_get {d : Nat} {u v : Value} (h : σ d = some u) (e : u = v) : σ d = some v := h.trans (congrArg some e)
theorem alc_ge {w' : World} {g : Nat} (h : Alc alc m val w w') (hi : memB alc i = true) (him : Nat.blt i m = true) (e : val i = .pointer (some ⟨g, 0, none⟩)) : w.heap.size ≤ g := by
  obtain ⟨g', h1, h2, _⟩ := h.1 i (memB_mem.1 hi) (by simpa [Nat.blt_eq] using him)
  rw [e] at h1
  injection h1 with h1
  injection h1 with h1
  injection h1 with h1
  omega
theorem alc_ne {w' : World} {j g k : Nat} (h : Alc alc m val w w') (hi : memB alc i = true) (hj : memB alc j = true) (him : Nat.blt i m = true) (hjm : Nat.blt j m = true) (hij : Nat.beq i j = false) (e : val i = .pointer (some ⟨g, 0, none⟩)) (e' : val j = .pointer (some ⟨k, 0, none⟩)) : g ≠ k := fun hk => by
  have := h.2 i (memB_mem.1 hi) j (memB_mem.1 hj) (by simpa [Nat.blt_eq] using him) (by simpa [Nat.blt_eq] using hjm) (Nat.ne_of_beq_eq_false hij)
  rw [e, e', hk] at this
  exact this rfl
def Mono (F : (Nat → Value) → World → Prop) : Prop := ∀ r w1 w2, Below w1.heap.size w1 w2 → F r w1 → F r w2
theorem mono_bs {T k m c : Nat} {cs : (Nat → Value) → Array Value} {C : Nat → Prop} : Mono fun r w => ∃ g, r k = .slice (some ⟨g, 0, none⟩) m c ∧ Blk w g T (cs r) ∧ C g := fun _ _ _ hb ⟨g, h1, h2, h3⟩ => ⟨g, h1, h2.below hb h2.lt, h3⟩
theorem mono_alloc {T k : Nat} {cs : Array Value} : Mono fun r w => ∃ g, r k = .pointer (some ⟨g, 0, none⟩) ∧ Blk w g T cs := fun _ _ _ hb ⟨g, h1, h2⟩ => ⟨g, h1, h2.below hb h2.lt⟩
/-! what the operations of a head tell -/
def phi (V : Nat → (Nat → Value) → Prop) : List (Nat × ((Nat → Value) → World → Prop)) → Nat → (Nat → Value) → World → Prop
  | [], i, r, _ => V i r
  | p :: l, i, r, w => match Nat.beq i p.1 with
    | true => p.2 r w
    | false => phi V l i r w
theorem phi_nil {V : Nat → (Nat → Value) → Prop} : ∀ i r w1 w2, Below w1.heap.size w1 w2 → phi V [] i r w1 → phi V [] i r w2 := fun _ _ _ _ _ h => h
theorem phi_cons {V : Nat → (Nat → Value) → Prop} {k : Nat} {F : (Nat → Value) → World → Prop} {l : List (Nat × ((Nat → Value) → World → Prop))} (hF : Mono F) (hl : ∀ i r w1 w2, Below w1.heap.size w1 w2 → phi V l i r w1 → phi V l i r w2) :
    ∀ i r w1 w2, Below w1.heap.size w1 w2 → phi V ((k, F) :: l) i r w1 → phi V ((k, F) :: l) i r w2 := by
  intro i r w1 w2 hb h
  unfold phi at h ⊢
  cases e : Nat.beq i k with
  | true => simp only [e] at h ⊢; exact hF r w1 w2 hb h
  | false => simp only [e] at h ⊢; exact hl i r w1 w2 hb h
def nthV : List Value → Nat → Value
  | [], _ => undef
  | v :: _, 0 => v
  | _ :: l, k + 1 => nthV l k
def Agree (val : Nat → Value) : Nat → List Value → Prop
  | _, [] => True
  | k, c :: l => val k = c ∧ Agree val (k + 1) l
theorem agree_at {val : Nat → Value} : ∀ {l : List Value} {k : Nat}, Agree val k l → ∀ j, j < l.length → val (k + j) = nthV l j
  | [], _, _, j, h => by simp at h
  | c :: l, k, h, 0, _ => h.1
  | c :: l, k, h, j + 1, hj => by
    have := agree_at h.2 j (by simpa using hj)
    rw [show k + (j + 1) = k + 1 + j by omega]
    exact this
theorem sgEnd_congr {v1 v2 : Nat → Value} : ∀ m, (∀ j, j < m → v1 j = v2 j) → sgEnd L σ v1 m = sgEnd L σ v2 m
  | 0, _ => rfl
  | m + 1, h => by
    unfold sgEnd
    rw [sgEnd_congr m fun j hj => h j (by omega), h m (by omega)]
theorem EL.ends {rest : List Oper} {cs : List Value} (hv : Agree val 0 cs) (hl : Nat.ble m (lenV cs) = true) (h : EL P n L Q rest (sgEnd L σ (nthV cs) m) w) : EL P n L Q rest (sgEnd L σ val m) w := by
  have hl' : m ≤ cs.length := by rw [← lenV_eq]; simpa [Nat.ble_eq] using hl
  rw [sgEnd_congr m fun j hj => by have := agree_at hv j (by omega); simpa using this]
  exact h
end
end Go.Proofs.Ytncnlhkmdljgpaa
