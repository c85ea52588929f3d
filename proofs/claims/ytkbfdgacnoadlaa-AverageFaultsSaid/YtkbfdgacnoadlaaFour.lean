/- AverageFaults: the drawn region with four appends, walked once for all orders by an invariant. -/
import Derived.Test.YtkbfdgacnoadlaaInv
import Derived.Test.YtkbfdgacnoadlaaCopy2
import Derived.Test.YtkbfdgacnoadlaaA5
import Derived.StillTailTactics
namespace Go.Proofs.Ytkbfdgacnoadlaa
open Go Go.RowKit

def findRegion (n : Nat) : Code → Option (Array Oper)
  | .seq x y => match findRegion n x with
    | some r => some r
    | none => findRegion n y
  | .cond _ x y => match findRegion n x with
    | some r => some r
    | none => findRegion n y
  | .block _ x => findRegion n x
  | .loop x => findRegion n x
  | .region id ops _ => if id = n then some ops else none
  | _ => none
noncomputable def fr7 : Array Oper := ((Try.f11.body).bind (findRegion 7)).getD #[]
theorem fr7_size : fr7.size = 32 := by kernel_rfl
theorem fr7_back : backB fr7 = true := by kernel_rfl
theorem fr7_dist : distB fr7 = true := by kernel_rfl

section
variable {ops : Array Oper} {Q : Exit → Act → World → Prop}
theorem op_value {i : Nat} {o : Oper} {a : Act} {w w' : World} {K : Act → World → Prop} {v : Value} (ho : ops[i]? = some o) (hg : o.guard = none) (hr : (execOp a.eval o).run Try.prog w = .ok (.value v) w') (hK : K (a.put o.dst v) w') : wpOp Try.prog ops Q i K a w := by
  unfold wpOp
  simp only [ho]
  rw [if_pos (by simp [Region.wanted, hg])]
  left
  unfold Oper.wp
  rw [hr]
  exact hK
theorem ex_move {o : Oper} {a : Act} {w : World} {x : Operand} (h : o.op = .move x) : (execOp a.eval o).run Try.prog w = .ok (.value (a.eval x)) w := by
  unfold execOp; simp only [h]; rfl
theorem ex_assign {o : Oper} {a : Act} {w : World} {x : Operand} (h : o.op = .assign x) : (execOp a.eval o).run Try.prog w = .ok (.value (a.eval x)) w := by
  unfold execOp; simp only [h]; rfl
theorem ex_index32 {o : Oper} {a : Act} {w : World} {x y : Operand} {b off n c k : Nat} (h : o.op = .indexAddr 64 x y) (hx : a.eval x = .slice (some ⟨b, off, none⟩) n c) (hy : a.eval y = .int .i64 k) (hk : k < n) : (execOp a.eval o).run Try.prog w = .ok (.value (.pointer (some ⟨b, off + k, none⟩))) w := by
  have k0 : (0 : Int) ≤ (k : Int) := Int.natCast_nonneg _
  have k1 : (k : Int) < (n : Int) := by omega
  unfold execOp
  simp only [h, hx, hy]
  simp [go_sem, k0, k1]
theorem ex_index16 {o : Oper} {a : Act} {w : World} {x y : Operand} {b off n c k : Nat} (h : o.op = .indexAddr 62 x y) (hx : a.eval x = .slice (some ⟨b, off, none⟩) n c) (hy : a.eval y = .int .i64 k) (hk : k < n) : (execOp a.eval o).run Try.prog w = .ok (.value (.pointer (some ⟨b, off + k, none⟩))) w := by
  have k0 : (0 : Int) ≤ (k : Int) := Int.natCast_nonneg _
  have k1 : (k : Int) < (n : Int) := by omega
  unfold execOp
  simp only [h, hx, hy]
  simp [go_sem, k0, k1]
theorem ex_load32 {o : Oper} {a : Act} {w : World} {x : Operand} {p : Addr} {z : Int} (h : o.op = .load 61 x) (hx : a.eval x = .pointer (some p)) (hc : w.cell? p = some (.int .u32 z)) : (execOp a.eval o).run Try.prog w = .ok (.value (.int .u32 z)) w := by
  unfold execOp
  simp only [h, hx]
  simp [go_sem, hc]
theorem ex_conv32 {o : Oper} {a : Act} {w : World} {x : Operand} {z : Int} (h : o.op = .convert 61 3 x) (hx : a.eval x = .int .u32 z) (hc : IntKind.i64.wrap z = z) : (execOp a.eval o).run Try.prog w = .ok (.value (.int .i64 z)) w := by
  unfold execOp
  simp only [h, hx]
  simp [go_sem, hc]
theorem ex_load16 {o : Oper} {a : Act} {w : World} {x : Operand} {p : Addr} {z : Int} (h : o.op = .load 48 x) (hx : a.eval x = .pointer (some p)) (hc : w.cell? p = some (.int .u16 z)) : (execOp a.eval o).run Try.prog w = .ok (.value (.int .u16 z)) w := by
  unfold execOp
  simp only [h, hx]
  simp [go_sem, hc]
theorem ex_conv16 {o : Oper} {a : Act} {w : World} {x : Operand} {z : Int} (h : o.op = .convert 48 3 x) (hx : a.eval x = .int .u16 z) (hc : IntKind.i64.wrap z = z) : (execOp a.eval o).run Try.prog w = .ok (.value (.int .i64 z)) w := by
  unfold execOp
  simp only [h, hx]
  simp [go_sem, hc]
theorem ex_rem {o : Oper} {a : Act} {w : World} {x : Operand} {z : Int} {t : TypeId} (h : o.op = .binOp .rem 3 x (.const (.int .i64 10001)) t) (hx : a.eval x = .int .i64 z) : (execOp a.eval o).run Try.prog w = .ok (.value (.int .i64 (z.tmod 10001))) w := by
  unfold execOp
  simp only [h, hx]
  simp [go_sem, Act.eval]
theorem ex_build {o : Oper} {a : Act} {w : World} {x : Operand} {z : Int} (h : o.op = .buildSlice 34 1 #[(0, x)]) (hx : a.eval x = .int .i64 z) : (execOp a.eval o).run Try.prog w = .ok (.value (.slice (some ⟨w.heap.size, 0, none⟩) 1 1)) (w.alloc (.cells #[.int .i64 z] 3)) := by
  unfold execOp
  simp only [h, List.map_toArray, List.map_cons, List.map_nil, hx]
  go_simp
theorem deps_of {i : Nat} {o : Oper} {L : Array Bool} {ds : List Nat} (hd : (ops[i]?).map (fun o => (o.after.toList.filter fun e => Region.binds .any e).map (·.on)) = some ds) (ho : ops[i]? = some o)
    (hdep : ∀ e ∈ o.after, Region.binds .any e = true → L.getD e.on false = true) : ∀ d ∈ ds, L.getD d false = true := by
  rw [ho] at hd
  injection hd with hd
  intro d hm
  rw [← hd] at hm
  obtain ⟨e, he, rfl⟩ := List.mem_map.1 hm
  obtain ⟨h1, h2⟩ := List.mem_filter.1 he
  exact hdep e (by simpa using h1) h2
/-- no operation writes a slot: by reckoning -/
def freeB (ops : Array Oper) (s : Tmp) : Bool := (List.range ops.size).all fun i => dstN ops i != some s
theorem free_spec {s : Tmp} (h : freeB ops s = true) (i : Nat) : dstN ops i ≠ some s := by
  by_cases hi : i < ops.size
  · have := List.all_eq_true.1 h i (List.mem_range.2 hi)
    simpa using this
  · unfold dstN
    rw [Array.getElem?_eq_none (by omega)]
    simp
end

def appI (j : Nat) : Nat := [7, 16, 24, 27].getD j 0
def bldI (j : Nat) : Nat := [6, 15, 23, 26].getD j 0
def mvI (j : Nat) : Nat := [0, 8, 17, 25].getD j 0
def isApp (L : Array Bool) (j : Nat) : Bool := L.getD (appI j) false
/-- a row as it stands -/
def cur (v : Nat → Value) (val : Nat → Value) (L : Array Bool) (j : Nat) : Value := if isApp L j then val (appI j) else v j

/-- what is known when some of the operations have come up -/
structure RInv (w0 : World) (base k : Nat) (v : Nat → Value) (ls : Nat → List Int) (x : Nat → Int) (cst : Nat → Option Value) (L : Array Bool) (val : Nat → Value) (w : World) : Prop where
  cst : ∀ i c, cst i = some c → L.getD i false = true → val i = c
  bld : ∀ j, j < 4 → L.getD (bldI j) false = true → ∃ g, val (bldI j) = .slice (some ⟨g, 0, none⟩) 1 1 ∧ base ≤ g ∧ g < w.heap.size ∧ (∀ q, q < 4 → (cur v val L q).ownBlock ≠ some g) ∧ (isApp L j = false → Blk w g 3 #[.int .i64 (x j)])
  row : ∀ j, j < 4 → w.ownsRow base 3 1 (cur v val L j) (if isApp L j then k + 1 else k) (ints (if isApp L j then ls j ++ [x j] else ls j))
  apart : ∀ i j, i < 4 → j < 4 → i ≠ j → Apart (cur v val L i) (cur v val L j)
  asg : ∀ j, j < 4 → L.getD (28 + j) false = true → val (28 + j) = val (appI j) ∧ isApp L j = true ∧ L.getD (mvI j) false = true
  below : Below base w0 w
  size : base ≤ w.heap.size

section
variable {w0 w : World} {base k : Nat} {v : Nat → Value} {ls : Nat → List Int} {x : Nat → Int} {cst : Nat → Option Value} {L : Array Bool} {val : Nat → Value}
theorem set_get_ne {i m : Nat} (h : m ≠ i) : (L.setIfInBounds i true).getD m false = L.getD m false := by
  by_cases hs : m < L.size
  · simp [Array.getD, hs, Ne.symm h]
  · simp [Array.getD, hs]
theorem set_get_eq {i : Nat} (h : i < L.size) : (L.setIfInBounds i true).getD i false = true := by simp [Array.getD, h]
theorem upd_ne {i m : Nat} (c : Value) (h : m ≠ i) : upd val i c m = val m := by simp [upd, h]
theorem upd_eq {i : Nat} (c : Value) : upd val i c i = c := by simp [upd]
theorem isApp_ne {i j : Nat} (h : appI j ≠ i) : isApp (L.setIfInBounds i true) j = isApp L j := set_get_ne h
theorem cur_ne {i j : Nat} (c : Value) (h : appI j ≠ i) : cur v (upd val i c) (L.setIfInBounds i true) j = cur v val L j := by
  unfold cur
  rw [isApp_ne h, upd_ne c h]
theorem four {p : Nat → Prop} (h0 : p 0) (h1 : p 1) (h2 : p 2) (h3 : p 3) : ∀ j, j < 4 → p j := by
  intro j hj
  match j, hj with
  | 0, _ => exact h0
  | 1, _ => exact h1
  | 2, _ => exact h2
  | 3, _ => exact h3
/-- a value that is known, the world as it was -/
theorem RInv.const (R : RInv w0 base k v ls x cst L val w) {i : Nat} {c : Value} (hi : i < L.size) (hc : cst i = some c) (ha : ∀ j, j < 4 → appI j ≠ i ∧ bldI j ≠ i ∧ 28 + j ≠ i ∧ (mvI j = i → True)) : RInv w0 base k v ls x cst (L.setIfInBounds i true) (upd val i c) w where
  cst := fun m d hm hl => by
    by_cases e : m = i
    · subst e
      rw [upd_eq]
      rw [hc] at hm
      injection hm
    · rw [upd_ne c e]
      exact R.cst m d hm (by rwa [set_get_ne e] at hl)
  bld := fun j hj hl => by
    rw [set_get_ne (ha j hj).2.1] at hl
    obtain ⟨g, h1, h2, h3, h4, h5⟩ := R.bld j hj hl
    exact ⟨g, by rw [upd_ne c (ha j hj).2.1]; exact h1, h2, h3, fun q hq => by rw [cur_ne c (ha q hq).1]; exact h4 q hq, fun h => h5 (by rwa [isApp_ne (ha j hj).1] at h)⟩
  row := fun j hj => by
    rw [cur_ne c (ha j hj).1, isApp_ne (ha j hj).1]
    exact R.row j hj
  apart := fun p q hp hq hne => by
    rw [cur_ne c (ha p hp).1, cur_ne c (ha q hq).1]
    exact R.apart p q hp hq hne
  asg := fun j hj hl => by
    rw [set_get_ne (ha j hj).2.2.1] at hl
    obtain ⟨h1, h2, h3⟩ := R.asg j hj hl
    refine ⟨by rw [upd_ne c (ha j hj).2.2.1, upd_ne c (ha j hj).1]; exact h1, by rw [isApp_ne (ha j hj).1]; exact h2, ?_⟩
    by_cases e : mvI j = i
    · rw [e]
      exact set_get_eq hi
    · rw [set_get_ne e]
      exact h3
  below := R.below
  size := R.size
theorem app_inj : ∀ p q, p < 4 → q < 4 → appI p = appI q → p = q := by
  intro p q hp hq h
  match p, q, hp, hq with
  | 0, 0, _, _ | 1, 1, _, _ | 2, 2, _, _ | 3, 3, _, _ => rfl
  | 0, 1, _, _ | 0, 2, _, _ | 0, 3, _, _ | 1, 0, _, _ | 1, 2, _, _ | 1, 3, _, _ | 2, 0, _, _ | 2, 1, _, _ | 2, 3, _, _ | 3, 0, _, _ | 3, 1, _, _ | 3, 2, _, _ => simp [appI] at h
theorem bld_inj : ∀ p q, p < 4 → q < 4 → bldI p = bldI q → p = q := by
  intro p q hp hq h
  match p, q, hp, hq with
  | 0, 0, _, _ | 1, 1, _, _ | 2, 2, _, _ | 3, 3, _, _ => rfl
  | 0, 1, _, _ | 0, 2, _, _ | 0, 3, _, _ | 1, 0, _, _ | 1, 2, _, _ | 1, 3, _, _ | 2, 0, _, _ | 2, 1, _, _ | 2, 3, _, _ | 3, 0, _, _ | 3, 1, _, _ | 3, 2, _, _ => simp [bldI] at h
theorem apart_idx : ∀ p q, p < 4 → q < 4 → appI p ≠ bldI q ∧ appI p ≠ 28 + q ∧ bldI p ≠ 28 + q ∧ mvI p ≠ bldI q ∧ mvI p ≠ appI q ∧ mvI p ≠ 28 + q := by
  intro p q hp hq
  match p, q, hp, hq with
  | 0, 0, _, _ | 1, 1, _, _ | 2, 2, _, _ | 3, 3, _, _ | 0, 1, _, _ | 0, 2, _, _ | 0, 3, _, _ | 1, 0, _, _ | 1, 2, _, _ | 1, 3, _, _ | 2, 0, _, _ | 2, 1, _, _ | 2, 3, _, _ | 3, 0, _, _ | 3, 1, _, _ | 3, 2, _, _ => simp [appI, bldI, mvI]
/-- a slice of one is built -/
theorem RInv.build (R : RInv w0 base k v ls x cst L val w) {j : Nat} (hj : j < 4) (hi : bldI j < L.size) (hc : cst (bldI j) = none) :
    RInv w0 base k v ls x cst (L.setIfInBounds (bldI j) true) (upd val (bldI j) (.slice (some ⟨w.heap.size, 0, none⟩) 1 1)) (w.alloc (.cells #[.int .i64 (x j)] 3)) where
  cst := fun m d hm hl => by
    have e : m ≠ bldI j := fun e => by rw [e, hc] at hm; cases hm
    rw [upd_ne _ e]
    exact R.cst m d hm (by rwa [set_get_ne e] at hl)
  bld := fun q hq hl => by
    have ea : ∀ q, q < 4 → appI q ≠ bldI j := fun q hq => (apart_idx q j hq hj).1
    by_cases e : q = j
    · subst e
      refine ⟨w.heap.size, upd_eq _, R.size, by simp, fun p hp h => ?_, fun _ => Blk.new w _ _⟩
      rw [cur_ne _ (ea p hp)] at h
      have := ((R.row p hp).lt _ h).2
      omega
    · have hne : bldI q ≠ bldI j := fun h => e (bld_inj q j hq hj h)
      rw [set_get_ne hne] at hl
      obtain ⟨g, h1, h2, h3, h4, h5⟩ := R.bld q hq hl
      exact ⟨g, by rw [upd_ne _ hne]; exact h1, h2, by simp; omega, fun p hp => by rw [cur_ne _ (ea p hp)]; exact h4 p hp, fun h => (h5 (by rwa [isApp_ne (ea q hq)] at h)).alloc _⟩
  row := fun q hq => by
    have ea := (apart_idx q j hq hj).1
    rw [cur_ne _ ea, isApp_ne ea]
    exact (R.row q hq).alloc _
  apart := fun p q hp hq hne => by
    rw [cur_ne _ (apart_idx p j hp hj).1, cur_ne _ (apart_idx q j hq hj).1]
    exact R.apart p q hp hq hne
  asg := fun q hq hl => by
    have e := (apart_idx j q hj hq).2.2.1
    rw [set_get_ne (Ne.symm e)] at hl
    obtain ⟨h1, h2, h3⟩ := R.asg q hq hl
    exact ⟨by rw [upd_ne _ (Ne.symm e), upd_ne _ (apart_idx q j hq hj).1]; exact h1, by rw [isApp_ne (apart_idx q j hq hj).1]; exact h2, by rw [set_get_ne (apart_idx q j hq hj).2.2.2.1]; exact h3⟩
  below := R.below.alloc R.size _
  size := by simp; have := R.size; omega
/-- a row has grown by one -/
theorem RInv.push (R : RInv w0 base k v ls x cst L val w) {j : Nat} (hj : j < 4) (hi : appI j < L.size) (hc : cst (appI j) = none) (ha : isApp L j = false) {u : Value} {w' : World}
    (hown : w'.ownsRow base 3 1 u (k + 1) (ints (ls j) ++ [.int .i64 (x j)])) (hg : w.grownBy w' (cur v val L j).ownBlock) (hat : u.ownBlock = (cur v val L j).ownBlock ∨ u.ownBlock = some w.heap.size) :
    RInv w0 base k v ls x cst (L.setIfInBounds (appI j) true) (upd val (appI j) u) w' := by
  have en : ∀ q, q < 4 → q ≠ j → appI q ≠ appI j := fun q hq hne h => hne (app_inj q j hq hj h)
  have ej : isApp (L.setIfInBounds (appI j) true) j = true := set_get_eq hi
  have cj : cur v (upd val (appI j) u) (L.setIfInBounds (appI j) true) j = u := by
    unfold cur
    rw [ej, if_pos rfl, upd_eq]
  have rj := R.row j hj
  have hlt := rj.lt
  have ng : ∀ q g, q < 4 → g < w.heap.size → (∀ p, p < 4 → (cur v val L p).ownBlock ≠ some g) → (cur v (upd val (appI j) u) (L.setIfInBounds (appI j) true) q).ownBlock ≠ some g := by
    intro q g hq hgl h e
    by_cases hqj : q = j
    · subst hqj
      rw [cj] at e
      rcases hat with h1 | h1
      · exact h q hq (h1 ▸ e)
      · rw [h1] at e
        injection e with e
        omega
    · rw [cur_ne _ (en q hq hqj)] at e
      exact h q hq e
  have ap : ∀ q, q < 4 → q ≠ j → Apart u (cur v val L q) := by
    intro q hq hne g h1 h2
    rcases hat with h | h
    · exact R.apart j q hj hq (Ne.symm hne) g (h ▸ h1) h2
    · rw [h] at h1
      injection h1 with h1
      have := ((R.row q hq).lt g h2).2
      omega
  refine ⟨fun m d hm hl => ?_, fun q hq hl => ?_, fun q hq => ?_, fun p q hp hq hne => ?_, fun q hq hl => ?_, ?_, Nat.le_trans R.size hg.size⟩
  · have e : m ≠ appI j := fun e => by rw [e, hc] at hm; cases hm
    rw [upd_ne _ e]
    exact R.cst m d hm (by rwa [set_get_ne e] at hl)
  · have e := (apart_idx j q hj hq).1
    rw [set_get_ne (Ne.symm e)] at hl
    obtain ⟨g, h1, h2, h3, h4, h5⟩ := R.bld q hq hl
    refine ⟨g, by rw [upd_ne _ (Ne.symm e)]; exact h1, h2, Nat.lt_of_lt_of_le h3 hg.size, fun p hp => ng p g hp h3 h4, fun h => ?_⟩
    by_cases hqj : q = j
    · subst hqj
      rw [ej] at h
      cases h
    · rw [isApp_ne (en q hq hqj)] at h
      exact (h5 h).grown hg (fun h' => h4 j hj h'.symm)
  · by_cases hqj : q = j
    · subst hqj
      rw [cj, ej, if_pos rfl, if_pos rfl]
      simpa [ints] using hown
    · rw [cur_ne _ (en q hq hqj), isApp_ne (en q hq hqj)]
      exact own_apart (R.row q hq) hg (R.apart j q hj hq (Ne.symm hqj))
  · by_cases hpj : p = j
    · subst hpj
      rw [cj, cur_ne _ (en q hq (Ne.symm hne))]
      exact ap q hq (Ne.symm hne)
    · by_cases hqj : q = j
      · subst hqj
        rw [cj, cur_ne _ (en p hp hpj)]
        exact (ap p hp hpj).symm
      · rw [cur_ne _ (en p hp hpj), cur_ne _ (en q hq hqj)]
        exact R.apart p q hp hq hne
  · have e := (apart_idx j q hj hq).2.1
    rw [set_get_ne (Ne.symm e)] at hl
    obtain ⟨h1, h2, h3⟩ := R.asg q hq hl
    have hqj : q ≠ j := fun h => by subst h; rw [ha] at h2; cases h2
    exact ⟨by rw [upd_ne _ (Ne.symm e), upd_ne _ (en q hq hqj)]; exact h1, by rw [isApp_ne (en q hq hqj)]; exact h2, by rw [set_get_ne (apart_idx q j hq hj).2.2.2.2.1]; exact h3⟩
  · exact R.below.grown hg R.size fun g e => (hlt g e).1
/-- a row is laid into its variable -/
theorem RInv.assign (R : RInv w0 base k v ls x cst L val w) {j : Nat} (hj : j < 4) (hi : 28 + j < L.size) (hc : cst (28 + j) = none) (ha : isApp L j = true) (hm : L.getD (mvI j) false = true) :
    RInv w0 base k v ls x cst (L.setIfInBounds (28 + j) true) (upd val (28 + j) (val (appI j))) w := by
  have ea : ∀ q, q < 4 → appI q ≠ 28 + j := fun q hq => (apart_idx q j hq hj).2.1
  refine ⟨fun m d hm hl => ?_, fun q hq hl => ?_, fun q hq => ?_, fun p q hp hq hne => ?_, fun q hq hl => ?_, R.below, R.size⟩
  · have e : m ≠ 28 + j := fun e => by rw [e, hc] at hm; cases hm
    rw [upd_ne _ e]
    exact R.cst m d hm (by rwa [set_get_ne e] at hl)
  · have e := (apart_idx q j hq hj).2.2.1
    rw [set_get_ne e] at hl
    obtain ⟨g, h1, h2, h3, h4, h5⟩ := R.bld q hq hl
    exact ⟨g, by rw [upd_ne _ e]; exact h1, h2, h3, fun p hp => by rw [cur_ne _ (ea p hp)]; exact h4 p hp, fun h => h5 (by rwa [isApp_ne (ea q hq)] at h)⟩
  · rw [cur_ne _ (ea q hq), isApp_ne (ea q hq)]
    exact R.row q hq
  · rw [cur_ne _ (ea p hp), cur_ne _ (ea q hq)]
    exact R.apart p q hp hq hne
  · by_cases e : q = j
    · subst e
      exact ⟨by rw [upd_eq, upd_ne _ (ea q hq)], by rw [isApp_ne (ea q hq)]; exact ha, by rw [set_get_ne (apart_idx q q hq hq).2.2.2.2.2]; exact hm⟩
    · have e' : 28 + q ≠ 28 + j := by omega
      rw [set_get_ne e'] at hl
      obtain ⟨h1, h2, h3⟩ := R.asg q hq hl
      exact ⟨by rw [upd_ne _ e', upd_ne _ (ea q hq)]; exact h1, by rw [isApp_ne (ea q hq)]; exact h2, by rw [set_get_ne (apart_idx q j hq hj).2.2.2.2.2]; exact h3⟩
end
theorem op_push {ops : Array Oper} {Q : Exit → Act → World → Prop} {i : Nat} {o : Oper} {a : Act} {w : World} {K : Act → World → Prop} {s x : Operand} {base n g : Nat} {u : Value} {xs : List Value} {z : Int} (ho : ops[i]? = some o) (hg : o.guard = none)
    (hop : o.op = .call { callee := .builtin .append, args := #[s, x], argTypes := #[34, 34] }) (hs : a.eval s = u) (hx : a.eval x = .slice (some ⟨g, 0, none⟩) 1 1) (hown : w.ownsRow base 3 1 u n xs) (hb : Blk w g 3 #[.int .i64 z])
    (hn : n ≤ 1000) (hbase : base ≤ w.heap.size) (h : ∀ v' w', w'.ownsRow base 3 1 v' (n + 1) (xs ++ [.int .i64 z]) → w.grownBy w' u.ownBlock → (v'.ownBlock = u.ownBlock ∨ v'.ownBlock = some w.heap.size) → K (a.put o.dst v') w') : wpOp Try.prog ops Q i K a w := by
  have h1 := step_push_blk (P := Try.prog) (ops := ops) (Q := Q) (K := K) (F := True) int_elem hg s x hop hs g #[.int .i64 z] hx hown hb rfl (by intro u hu; simp at hu; subst hu; rfl) (by simp only [maxLen]; omega) (by omega) hbase h
  rw [if_pos (by simp [Region.wanted, hg])] at h1
  unfold wpOp
  simp only [ho]
  rw [if_pos (by simp [Region.wanted, hg])]
  exact .inl h1
def cstAt (v : Nat → Value) (k b0 o0 n0 c0 b1 o1 n1 c1 b2 o2 n2 c2 : Nat) (x0 y1 x2 : Int) (i : Nat) : Option Value := [some (v 0), some (.slice (some ⟨b0, o0, none⟩) n0 c0), some (.int .i64 k), some (.pointer (some ⟨b0, o0 + k, none⟩)), some (.int .u32 x0), some (.int .i64 x0), none, none, some (v 1), some (.slice (some ⟨b1, o1, none⟩) n1 c1), some (.int .i64 k), some (.pointer (some ⟨b1, o1 + k, none⟩)), some (.int .u16 y1), some (.int .i64 y1), some (.int .i64 (y1.tmod 10001)), none, none, some (v 2), some (.slice (some ⟨b2, o2, none⟩) n2 c2), some (.int .i64 k), some (.pointer (some ⟨b2, o2 + k, none⟩)), some (.int .u32 x2), some (.int .i64 x2), none, none, some (v 3), none, none, none, none, none, none].getD i none
def rowX (x0 y1 x2 : Int) (j : Nat) : Int := [x0, y1.tmod 10001, x2, 100000000000000].getD j 0

set_option maxRecDepth 20000 in
set_option maxHeartbeats 2000000 in
theorem four_rows {ops : Array Oper} {Q : Exit → Act → World → Prop} {id : Nat} (hops : ops = fr7) (a0 : Act) (w0 : World) (base k : Nat) (v : Nat → Value) (ls : Nat → List Int) (b0 o0 n0 c0 b1 o1 n1 c1 b2 o2 n2 c2 : Nat) (x0 y1 x2 : Int)
    (hN : 83 ≤ a0.tmps.size) (hk : k ≤ 999) (e7 : a0.eval (.tmp 7) = v 0) (e8 : a0.eval (.tmp 8) = v 1) (e9 : a0.eval (.tmp 9) = v 2) (e10 : a0.eval (.tmp 10) = v 3) (e13 : a0.eval (.tmp 13) = .int .i64 k)
    (e0 : a0.eval (.tmp 0) = .slice (some ⟨b0, o0, none⟩) n0 c0) (e1 : a0.eval (.tmp 1) = .slice (some ⟨b1, o1, none⟩) n1 c1) (e2 : a0.eval (.tmp 2) = .slice (some ⟨b2, o2, none⟩) n2 c2)
    (k0 : k < n0) (k1 : k < n1) (k2 : k < n2) (hb0 : b0 < base) (hb1 : b1 < base) (hb2 : b2 < base) (d0 : w0.cell? ⟨b0, o0 + k, none⟩ = some (.int .u32 x0)) (d1 : w0.cell? ⟨b1, o1 + k, none⟩ = some (.int .u16 y1)) (d2 : w0.cell? ⟨b2, o2 + k, none⟩ = some (.int .u32 x2))
    (g0 : IntKind.i64.wrap x0 = x0) (g1 : IntKind.i64.wrap y1 = y1) (g2 : IntKind.i64.wrap x2 = x2)
    (hrow : ∀ j, j < 4 → w0.ownsRow base 3 1 (v j) k (ints (ls j))) (hap : ∀ i j, i < 4 → j < 4 → i ≠ j → Apart (v i) (v j)) (hbase : base ≤ w0.heap.size)
    (hQ : ∀ (val : Nat → Value) (w : World), (∀ i c, cstAt v k b0 o0 n0 c0 b1 o1 n1 c1 b2 o2 n2 c2 x0 y1 x2 i = some c → i < 32 → val i = c) → (∀ j, j < 4 → w.ownsRow base 3 1 (val (28 + j)) (k + 1) (ints (ls j ++ [rowX x0 y1 x2 j]))) →
      (∀ i j, i < 4 → j < 4 → i ≠ j → Apart (val (28 + i)) (val (28 + j))) → (∀ j, j < 4 → val (28 + j) = val (appI j)) → Below base w0 w → Q .normal ((List.range 32).foldl (fun a i => a.put (dstN fr7 i) (val i)) a0) w) :
    (Code.region id ops true).wp Try.prog Q a0 w0 := by
  subst hops
  obtain ⟨cst, ecst⟩ : ∃ c, c = cstAt v k b0 o0 n0 c0 b1 o1 n1 c1 b2 o2 n2 c2 x0 y1 x2 := ⟨_, rfl⟩
  refine wp_region_inv (by kernel_rfl) fr7_back (fun L a w => ∃ val, a = lay fr7 val L (List.range 32) a0 ∧ RInv w0 base k v ls (rowX x0 y1 x2) cst L val w) ?_ ?_ ?_
  · have hf : ∀ i, (Array.replicate fr7.size false).getD i false = false := fun i => by
      by_cases hi : i < fr7.size <;> simp [Array.getD, hi]
    have hc : ∀ j, cur v (fun _ => undef) (Array.replicate fr7.size false) j = v j := fun j => by simp [cur, isApp, hf]
    refine ⟨fun _ => undef, (lay_none hf _ _ _).symm, ⟨fun i c _ h => (by rw [hf] at h; cases h), fun j _ h => (by rw [hf] at h; cases h), fun j hj => ?_, fun i j hi hj hne => ?_, fun j _ h => (by rw [hf] at h; cases h), (Below.refl _ _).drew, hbase⟩⟩
    · rw [hc, isApp, hf]
      exact (hrow j hj).drew
    · rw [hc, hc]
      exact hap i j hi hj hne
  · intro L a w i o hs hI hL ho hdep
    obtain ⟨val, rfl, R⟩ := hI
    have hi : i < 32 := by have := (Array.getElem?_eq_some_iff.1 ho).1; rwa [fr7_size] at this
    have hsz : L.size = 32 := hs.trans fr7_size
    have hLf : L.getD i false = false := by
      simp [Array.getD, hsz, hi] at hL ⊢
      exact hL
    have hdst : o.dst = dstN fr7 i := by simp [dstN, ho]
    have put_ : ∀ V, (lay fr7 val L (List.range 32) a0).put o.dst V = lay fr7 (upd val i V) (L.setIfInBounds i true) (List.range 32) a0 := fun V => by
      rw [hdst]
      exact (lay_step fr7_dist V (by omega) hL (List.range 32) a0 List.nodup_range (List.mem_range.2 hi)).symm
    have new_ : ∀ (d : Nat) (s : Tmp), dstN fr7 d = some s → d < 32 → s < 83 → L.getD d false = true → (lay fr7 val L (List.range 32) a0).eval (.tmp s) = val d := fun d s h1 h2 h3 h4 => lay_eval_new fr7_dist h1 h4 (List.range 32) a0 (List.mem_range.2 h2) (Nat.lt_of_lt_of_le h3 hN)
    have old_ : ∀ s : Tmp, freeB fr7 s = true → (lay fr7 val L (List.range 32) a0).eval (.tmp s) = a0.eval (.tmp s) := fun s h => lay_eval_old s (fun m _ => free_spec h m) _ _
    have mv_ : ∀ (j : Nat) (s : Tmp), j < 4 → mvI j = i → dstN fr7 (28 + j) = some s → (lay fr7 val L (List.range 32) a0).eval (.tmp s) = a0.eval (.tmp s) := fun j s hj he hd => lay_eval_old s (fun m hm e => by
      have := dist_spec fr7_dist e hd
      subst this
      have := (R.asg j hj hm).2.2
      rw [he, hLf] at this
      cases this) _ _
    have cell_ : ∀ (b q : Nat) (u : Value), b < base → w0.cell? ⟨b, q, none⟩ = some u → w.cell? ⟨b, q, none⟩ = some u := fun b q u h1 h2 => (R.below.cell (p := ⟨b, q, none⟩) h1).trans h2
    have cs_ : ∀ (m : Nat) (c : Value), cstAt v k b0 o0 n0 c0 b1 o1 n1 c1 b2 o2 n2 c2 x0 y1 x2 m = some c → L.getD m false = true → val m = c := fun m c h1 h2 => R.cst m c (by rw [ecst]; exact h1) h2
    match i, hi with
    | 0, _ =>
      have fk : (fr7[0]?).map (fun o => (o.op, o.guard)) = some (.move (.tmp 7), none) := by kernel_rfl
      rw [ho] at fk
      injection fk with fk
      injection fk with hop hgd
      exact op_value (v := v 0) ho hgd (by rw [ex_move hop, ((mv_ 0 7 (by omega) rfl (by kernel_rfl)).trans e7)]) ⟨_, put_ _, R.const (by omega) (by rw [ecst]; rfl) (by intro q hq; match q, hq with | 0, _ | 1, _ | 2, _ | 3, _ => simp [appI, bldI])⟩
    | 1, _ =>
      have fk : (fr7[1]?).map (fun o => (o.op, o.guard)) = some (.move (.tmp 0), none) := by kernel_rfl
      rw [ho] at fk
      injection fk with fk
      injection fk with hop hgd
      exact op_value (v := .slice (some ⟨b0, o0, none⟩) n0 c0) ho hgd (by rw [ex_move hop, ((old_ 0 (by kernel_rfl)).trans e0)]) ⟨_, put_ _, R.const (by omega) (by rw [ecst]; rfl) (by intro q hq; match q, hq with | 0, _ | 1, _ | 2, _ | 3, _ => simp [appI, bldI])⟩
    | 2, _ =>
      have fk : (fr7[2]?).map (fun o => (o.op, o.guard)) = some (.move (.tmp 13), none) := by kernel_rfl
      rw [ho] at fk
      injection fk with fk
      injection fk with hop hgd
      exact op_value (v := .int .i64 k) ho hgd (by rw [ex_move hop, ((old_ 13 (by kernel_rfl)).trans e13)]) ⟨_, put_ _, R.const (by omega) (by rw [ecst]; rfl) (by intro q hq; match q, hq with | 0, _ | 1, _ | 2, _ | 3, _ => simp [appI, bldI])⟩
    | 3, _ =>
      have fk : (fr7[3]?).map (fun o => (o.op, o.guard)) = some (.indexAddr 64 (.tmp 56) (.tmp 57), none) := by kernel_rfl
      rw [ho] at fk
      injection fk with fk
      injection fk with hop hgd
      have dp := deps_of (ds := [1, 2]) (by kernel_rfl) ho hdep
      exact op_value (v := .pointer (some ⟨b0, o0 + k, none⟩)) ho hgd (ex_index32 hop ((new_ 1 56 (by kernel_rfl) (by omega) (by decide) (dp 1 (by simp))).trans (cs_ 1 _ rfl (dp 1 (by simp)))) ((new_ 2 57 (by kernel_rfl) (by omega) (by decide) (dp 2 (by simp))).trans (cs_ 2 _ rfl (dp 2 (by simp)))) k0) ⟨_, put_ _, R.const (by omega) (by rw [ecst]; rfl) (by intro q hq; match q, hq with | 0, _ | 1, _ | 2, _ | 3, _ => simp [appI, bldI])⟩
    | 4, _ =>
      have fk : (fr7[4]?).map (fun o => (o.op, o.guard)) = some (.load 61 (.tmp 58), none) := by kernel_rfl
      rw [ho] at fk
      injection fk with fk
      injection fk with hop hgd
      have dp := deps_of (ds := [3]) (by kernel_rfl) ho hdep
      exact op_value (v := .int .u32 x0) ho hgd (ex_load32 hop ((new_ 3 58 (by kernel_rfl) (by omega) (by decide) (dp 3 (by simp))).trans (cs_ 3 _ rfl (dp 3 (by simp)))) (cell_ _ _ _ hb0 d0)) ⟨_, put_ _, R.const (by omega) (by rw [ecst]; rfl) (by intro q hq; match q, hq with | 0, _ | 1, _ | 2, _ | 3, _ => simp [appI, bldI])⟩
    | 5, _ =>
      have fk : (fr7[5]?).map (fun o => (o.op, o.guard)) = some (.convert 61 3 (.tmp 59), none) := by kernel_rfl
      rw [ho] at fk
      injection fk with fk
      injection fk with hop hgd
      have dp := deps_of (ds := [4]) (by kernel_rfl) ho hdep
      exact op_value (v := .int .i64 x0) ho hgd (ex_conv32 hop ((new_ 4 59 (by kernel_rfl) (by omega) (by decide) (dp 4 (by simp))).trans (cs_ 4 _ rfl (dp 4 (by simp)))) g0) ⟨_, put_ _, R.const (by omega) (by rw [ecst]; rfl) (by intro q hq; match q, hq with | 0, _ | 1, _ | 2, _ | 3, _ => simp [appI, bldI])⟩
    | 6, _ =>
      have fk : (fr7[6]?).map (fun o => (o.op, o.guard)) = some (.buildSlice 34 1 #[(0, .tmp 60)], none) := by kernel_rfl
      rw [ho] at fk
      injection fk with fk
      injection fk with hop hgd
      have dp := deps_of (ds := [5]) (by kernel_rfl) ho hdep
      exact op_value ho hgd (ex_build (z := rowX x0 y1 x2 0) hop ((new_ 5 60 (by kernel_rfl) (by omega) (by decide) (dp 5 (by simp))).trans (cs_ 5 _ rfl (dp 5 (by simp))))) ⟨_, put_ _, R.build (j := 0) (by omega) (by show 6 < L.size; omega) (by rw [ecst]; rfl)⟩
    | 7, _ =>
      have fk : (fr7[7]?).map (fun o => (o.op, o.guard)) = some (.call { callee := .builtin .append, args := #[.tmp 55, .tmp 61], argTypes := #[34, 34] }, none) := by kernel_rfl
      rw [ho] at fk
      injection fk with fk
      injection fk with hop hgd
      have dp := deps_of (ds := [0, 6]) (by kernel_rfl) ho hdep
      have ha : isApp L 0 = false := hLf
      obtain ⟨g, hv, _, _, _, hbk⟩ := R.bld 0 (by omega) (dp 6 (by simp))
      have hr := R.row 0 (by omega)
      have hcur : cur v val L 0 = v 0 := by rw [cur, ha]; rfl
      rw [ha] at hr
      exact op_push ho hgd hop (((new_ 0 55 (by kernel_rfl) (by omega) (by decide) (dp 0 (by simp))).trans (cs_ 0 _ rfl (dp 0 (by simp)))).trans hcur.symm) ((new_ 6 61 (by kernel_rfl) (by omega) (by decide) (dp 6 (by simp))).trans hv) hr (hbk ha) (by simp; omega) R.size fun u w' h1 h2 h3 => ⟨_, put_ _, R.push (j := 0) (by omega) (by show 7 < L.size; omega) (by rw [ecst]; rfl) ha (by simpa using h1) h2 h3⟩
    | 8, _ =>
      have fk : (fr7[8]?).map (fun o => (o.op, o.guard)) = some (.move (.tmp 8), none) := by kernel_rfl
      rw [ho] at fk
      injection fk with fk
      injection fk with hop hgd
      exact op_value (v := v 1) ho hgd (by rw [ex_move hop, ((mv_ 1 8 (by omega) rfl (by kernel_rfl)).trans e8)]) ⟨_, put_ _, R.const (by omega) (by rw [ecst]; rfl) (by intro q hq; match q, hq with | 0, _ | 1, _ | 2, _ | 3, _ => simp [appI, bldI])⟩
    | 9, _ =>
      have fk : (fr7[9]?).map (fun o => (o.op, o.guard)) = some (.move (.tmp 1), none) := by kernel_rfl
      rw [ho] at fk
      injection fk with fk
      injection fk with hop hgd
      exact op_value (v := .slice (some ⟨b1, o1, none⟩) n1 c1) ho hgd (by rw [ex_move hop, ((old_ 1 (by kernel_rfl)).trans e1)]) ⟨_, put_ _, R.const (by omega) (by rw [ecst]; rfl) (by intro q hq; match q, hq with | 0, _ | 1, _ | 2, _ | 3, _ => simp [appI, bldI])⟩
    | 10, _ =>
      have fk : (fr7[10]?).map (fun o => (o.op, o.guard)) = some (.move (.tmp 13), none) := by kernel_rfl
      rw [ho] at fk
      injection fk with fk
      injection fk with hop hgd
      exact op_value (v := .int .i64 k) ho hgd (by rw [ex_move hop, ((old_ 13 (by kernel_rfl)).trans e13)]) ⟨_, put_ _, R.const (by omega) (by rw [ecst]; rfl) (by intro q hq; match q, hq with | 0, _ | 1, _ | 2, _ | 3, _ => simp [appI, bldI])⟩
    | 11, _ =>
      have fk : (fr7[11]?).map (fun o => (o.op, o.guard)) = some (.indexAddr 62 (.tmp 64) (.tmp 65), none) := by kernel_rfl
      rw [ho] at fk
      injection fk with fk
      injection fk with hop hgd
      have dp := deps_of (ds := [9, 10]) (by kernel_rfl) ho hdep
      exact op_value (v := .pointer (some ⟨b1, o1 + k, none⟩)) ho hgd (ex_index16 hop ((new_ 9 64 (by kernel_rfl) (by omega) (by decide) (dp 9 (by simp))).trans (cs_ 9 _ rfl (dp 9 (by simp)))) ((new_ 10 65 (by kernel_rfl) (by omega) (by decide) (dp 10 (by simp))).trans (cs_ 10 _ rfl (dp 10 (by simp)))) k1) ⟨_, put_ _, R.const (by omega) (by rw [ecst]; rfl) (by intro q hq; match q, hq with | 0, _ | 1, _ | 2, _ | 3, _ => simp [appI, bldI])⟩
    | 12, _ =>
      have fk : (fr7[12]?).map (fun o => (o.op, o.guard)) = some (.load 48 (.tmp 66), none) := by kernel_rfl
      rw [ho] at fk
      injection fk with fk
      injection fk with hop hgd
      have dp := deps_of (ds := [11]) (by kernel_rfl) ho hdep
      exact op_value (v := .int .u16 y1) ho hgd (ex_load16 hop ((new_ 11 66 (by kernel_rfl) (by omega) (by decide) (dp 11 (by simp))).trans (cs_ 11 _ rfl (dp 11 (by simp)))) (cell_ _ _ _ hb1 d1)) ⟨_, put_ _, R.const (by omega) (by rw [ecst]; rfl) (by intro q hq; match q, hq with | 0, _ | 1, _ | 2, _ | 3, _ => simp [appI, bldI])⟩
    | 13, _ =>
      have fk : (fr7[13]?).map (fun o => (o.op, o.guard)) = some (.convert 48 3 (.tmp 67), none) := by kernel_rfl
      rw [ho] at fk
      injection fk with fk
      injection fk with hop hgd
      have dp := deps_of (ds := [12]) (by kernel_rfl) ho hdep
      exact op_value (v := .int .i64 y1) ho hgd (ex_conv16 hop ((new_ 12 67 (by kernel_rfl) (by omega) (by decide) (dp 12 (by simp))).trans (cs_ 12 _ rfl (dp 12 (by simp)))) g1) ⟨_, put_ _, R.const (by omega) (by rw [ecst]; rfl) (by intro q hq; match q, hq with | 0, _ | 1, _ | 2, _ | 3, _ => simp [appI, bldI])⟩
    | 14, _ =>
      have fk : (fr7[14]?).map (fun o => (o.op, o.guard)) = some (.binOp .rem 3 (.tmp 68) (.const (.int .i64 10001)) 3, none) := by kernel_rfl
      rw [ho] at fk
      injection fk with fk
      injection fk with hop hgd
      have dp := deps_of (ds := [13]) (by kernel_rfl) ho hdep
      exact op_value (v := .int .i64 (y1.tmod 10001)) ho hgd (ex_rem hop ((new_ 13 68 (by kernel_rfl) (by omega) (by decide) (dp 13 (by simp))).trans (cs_ 13 _ rfl (dp 13 (by simp))))) ⟨_, put_ _, R.const (by omega) (by rw [ecst]; rfl) (by intro q hq; match q, hq with | 0, _ | 1, _ | 2, _ | 3, _ => simp [appI, bldI])⟩
    | 15, _ =>
      have fk : (fr7[15]?).map (fun o => (o.op, o.guard)) = some (.buildSlice 34 1 #[(0, .tmp 69)], none) := by kernel_rfl
      rw [ho] at fk
      injection fk with fk
      injection fk with hop hgd
      have dp := deps_of (ds := [14]) (by kernel_rfl) ho hdep
      exact op_value ho hgd (ex_build (z := rowX x0 y1 x2 1) hop ((new_ 14 69 (by kernel_rfl) (by omega) (by decide) (dp 14 (by simp))).trans (cs_ 14 _ rfl (dp 14 (by simp))))) ⟨_, put_ _, R.build (j := 1) (by omega) (by show 15 < L.size; omega) (by rw [ecst]; rfl)⟩
    | 16, _ =>
      have fk : (fr7[16]?).map (fun o => (o.op, o.guard)) = some (.call { callee := .builtin .append, args := #[.tmp 63, .tmp 70], argTypes := #[34, 34] }, none) := by kernel_rfl
      rw [ho] at fk
      injection fk with fk
      injection fk with hop hgd
      have dp := deps_of (ds := [8, 15, 7]) (by kernel_rfl) ho hdep
      have ha : isApp L 1 = false := hLf
      obtain ⟨g, hv, _, _, _, hbk⟩ := R.bld 1 (by omega) (dp 15 (by simp))
      have hr := R.row 1 (by omega)
      have hcur : cur v val L 1 = v 1 := by rw [cur, ha]; rfl
      rw [ha] at hr
      exact op_push ho hgd hop (((new_ 8 63 (by kernel_rfl) (by omega) (by decide) (dp 8 (by simp))).trans (cs_ 8 _ rfl (dp 8 (by simp)))).trans hcur.symm) ((new_ 15 70 (by kernel_rfl) (by omega) (by decide) (dp 15 (by simp))).trans hv) hr (hbk ha) (by simp; omega) R.size fun u w' h1 h2 h3 => ⟨_, put_ _, R.push (j := 1) (by omega) (by show 16 < L.size; omega) (by rw [ecst]; rfl) ha (by simpa using h1) h2 h3⟩
    | 17, _ =>
      have fk : (fr7[17]?).map (fun o => (o.op, o.guard)) = some (.move (.tmp 9), none) := by kernel_rfl
      rw [ho] at fk
      injection fk with fk
      injection fk with hop hgd
      exact op_value (v := v 2) ho hgd (by rw [ex_move hop, ((mv_ 2 9 (by omega) rfl (by kernel_rfl)).trans e9)]) ⟨_, put_ _, R.const (by omega) (by rw [ecst]; rfl) (by intro q hq; match q, hq with | 0, _ | 1, _ | 2, _ | 3, _ => simp [appI, bldI])⟩
    | 18, _ =>
      have fk : (fr7[18]?).map (fun o => (o.op, o.guard)) = some (.move (.tmp 2), none) := by kernel_rfl
      rw [ho] at fk
      injection fk with fk
      injection fk with hop hgd
      exact op_value (v := .slice (some ⟨b2, o2, none⟩) n2 c2) ho hgd (by rw [ex_move hop, ((old_ 2 (by kernel_rfl)).trans e2)]) ⟨_, put_ _, R.const (by omega) (by rw [ecst]; rfl) (by intro q hq; match q, hq with | 0, _ | 1, _ | 2, _ | 3, _ => simp [appI, bldI])⟩
    | 19, _ =>
      have fk : (fr7[19]?).map (fun o => (o.op, o.guard)) = some (.move (.tmp 13), none) := by kernel_rfl
      rw [ho] at fk
      injection fk with fk
      injection fk with hop hgd
      exact op_value (v := .int .i64 k) ho hgd (by rw [ex_move hop, ((old_ 13 (by kernel_rfl)).trans e13)]) ⟨_, put_ _, R.const (by omega) (by rw [ecst]; rfl) (by intro q hq; match q, hq with | 0, _ | 1, _ | 2, _ | 3, _ => simp [appI, bldI])⟩
    | 20, _ =>
      have fk : (fr7[20]?).map (fun o => (o.op, o.guard)) = some (.indexAddr 64 (.tmp 73) (.tmp 74), none) := by kernel_rfl
      rw [ho] at fk
      injection fk with fk
      injection fk with hop hgd
      have dp := deps_of (ds := [18, 19]) (by kernel_rfl) ho hdep
      exact op_value (v := .pointer (some ⟨b2, o2 + k, none⟩)) ho hgd (ex_index32 hop ((new_ 18 73 (by kernel_rfl) (by omega) (by decide) (dp 18 (by simp))).trans (cs_ 18 _ rfl (dp 18 (by simp)))) ((new_ 19 74 (by kernel_rfl) (by omega) (by decide) (dp 19 (by simp))).trans (cs_ 19 _ rfl (dp 19 (by simp)))) k2) ⟨_, put_ _, R.const (by omega) (by rw [ecst]; rfl) (by intro q hq; match q, hq with | 0, _ | 1, _ | 2, _ | 3, _ => simp [appI, bldI])⟩
    | 21, _ =>
      have fk : (fr7[21]?).map (fun o => (o.op, o.guard)) = some (.load 61 (.tmp 75), none) := by kernel_rfl
      rw [ho] at fk
      injection fk with fk
      injection fk with hop hgd
      have dp := deps_of (ds := [20]) (by kernel_rfl) ho hdep
      exact op_value (v := .int .u32 x2) ho hgd (ex_load32 hop ((new_ 20 75 (by kernel_rfl) (by omega) (by decide) (dp 20 (by simp))).trans (cs_ 20 _ rfl (dp 20 (by simp)))) (cell_ _ _ _ hb2 d2)) ⟨_, put_ _, R.const (by omega) (by rw [ecst]; rfl) (by intro q hq; match q, hq with | 0, _ | 1, _ | 2, _ | 3, _ => simp [appI, bldI])⟩
    | 22, _ =>
      have fk : (fr7[22]?).map (fun o => (o.op, o.guard)) = some (.convert 61 3 (.tmp 76), none) := by kernel_rfl
      rw [ho] at fk
      injection fk with fk
      injection fk with hop hgd
      have dp := deps_of (ds := [21]) (by kernel_rfl) ho hdep
      exact op_value (v := .int .i64 x2) ho hgd (ex_conv32 hop ((new_ 21 76 (by kernel_rfl) (by omega) (by decide) (dp 21 (by simp))).trans (cs_ 21 _ rfl (dp 21 (by simp)))) g2) ⟨_, put_ _, R.const (by omega) (by rw [ecst]; rfl) (by intro q hq; match q, hq with | 0, _ | 1, _ | 2, _ | 3, _ => simp [appI, bldI])⟩
    | 23, _ =>
      have fk : (fr7[23]?).map (fun o => (o.op, o.guard)) = some (.buildSlice 34 1 #[(0, .tmp 77)], none) := by kernel_rfl
      rw [ho] at fk
      injection fk with fk
      injection fk with hop hgd
      have dp := deps_of (ds := [22]) (by kernel_rfl) ho hdep
      exact op_value ho hgd (ex_build (z := rowX x0 y1 x2 2) hop ((new_ 22 77 (by kernel_rfl) (by omega) (by decide) (dp 22 (by simp))).trans (cs_ 22 _ rfl (dp 22 (by simp))))) ⟨_, put_ _, R.build (j := 2) (by omega) (by show 23 < L.size; omega) (by rw [ecst]; rfl)⟩
    | 24, _ =>
      have fk : (fr7[24]?).map (fun o => (o.op, o.guard)) = some (.call { callee := .builtin .append, args := #[.tmp 72, .tmp 78], argTypes := #[34, 34] }, none) := by kernel_rfl
      rw [ho] at fk
      injection fk with fk
      injection fk with hop hgd
      have dp := deps_of (ds := [17, 23, 16]) (by kernel_rfl) ho hdep
      have ha : isApp L 2 = false := hLf
      obtain ⟨g, hv, _, _, _, hbk⟩ := R.bld 2 (by omega) (dp 23 (by simp))
      have hr := R.row 2 (by omega)
      have hcur : cur v val L 2 = v 2 := by rw [cur, ha]; rfl
      rw [ha] at hr
      exact op_push ho hgd hop (((new_ 17 72 (by kernel_rfl) (by omega) (by decide) (dp 17 (by simp))).trans (cs_ 17 _ rfl (dp 17 (by simp)))).trans hcur.symm) ((new_ 23 78 (by kernel_rfl) (by omega) (by decide) (dp 23 (by simp))).trans hv) hr (hbk ha) (by simp; omega) R.size fun u w' h1 h2 h3 => ⟨_, put_ _, R.push (j := 2) (by omega) (by show 24 < L.size; omega) (by rw [ecst]; rfl) ha (by simpa using h1) h2 h3⟩
    | 25, _ =>
      have fk : (fr7[25]?).map (fun o => (o.op, o.guard)) = some (.move (.tmp 10), none) := by kernel_rfl
      rw [ho] at fk
      injection fk with fk
      injection fk with hop hgd
      exact op_value (v := v 3) ho hgd (by rw [ex_move hop, ((mv_ 3 10 (by omega) rfl (by kernel_rfl)).trans e10)]) ⟨_, put_ _, R.const (by omega) (by rw [ecst]; rfl) (by intro q hq; match q, hq with | 0, _ | 1, _ | 2, _ | 3, _ => simp [appI, bldI])⟩
    | 26, _ =>
      have fk : (fr7[26]?).map (fun o => (o.op, o.guard)) = some (.buildSlice 34 1 #[(0, .const (.int .i64 100000000000000))], none) := by kernel_rfl
      rw [ho] at fk
      injection fk with fk
      injection fk with hop hgd
      exact op_value ho hgd (ex_build (z := rowX x0 y1 x2 3) hop rfl) ⟨_, put_ _, R.build (j := 3) (by omega) (by show 26 < L.size; omega) (by rw [ecst]; rfl)⟩
    | 27, _ =>
      have fk : (fr7[27]?).map (fun o => (o.op, o.guard)) = some (.call { callee := .builtin .append, args := #[.tmp 80, .tmp 81], argTypes := #[34, 34] }, none) := by kernel_rfl
      rw [ho] at fk
      injection fk with fk
      injection fk with hop hgd
      have dp := deps_of (ds := [25, 26, 24]) (by kernel_rfl) ho hdep
      have ha : isApp L 3 = false := hLf
      obtain ⟨g, hv, _, _, _, hbk⟩ := R.bld 3 (by omega) (dp 26 (by simp))
      have hr := R.row 3 (by omega)
      have hcur : cur v val L 3 = v 3 := by rw [cur, ha]; rfl
      rw [ha] at hr
      exact op_push ho hgd hop (((new_ 25 80 (by kernel_rfl) (by omega) (by decide) (dp 25 (by simp))).trans (cs_ 25 _ rfl (dp 25 (by simp)))).trans hcur.symm) ((new_ 26 81 (by kernel_rfl) (by omega) (by decide) (dp 26 (by simp))).trans hv) hr (hbk ha) (by simp; omega) R.size fun u w' h1 h2 h3 => ⟨_, put_ _, R.push (j := 3) (by omega) (by show 27 < L.size; omega) (by rw [ecst]; rfl) ha (by simpa using h1) h2 h3⟩
    | 28, _ =>
      have fk : (fr7[28]?).map (fun o => (o.op, o.guard)) = some (.assign (.tmp 62), none) := by kernel_rfl
      rw [ho] at fk
      injection fk with fk
      injection fk with hop hgd
      have dp := deps_of (ds := [7, 27, 0, 1, 2, 3, 4, 5, 6, 7]) (by kernel_rfl) ho hdep
      exact op_value ho hgd (by rw [ex_assign hop, (new_ 7 62 (by kernel_rfl) (by omega) (by decide) (dp 7 (by simp)))]; rfl) ⟨_, put_ _, R.assign (j := 0) (by omega) (by omega) (by rw [ecst]; rfl) (dp 7 (by simp)) (dp 0 (by simp))⟩
    | 29, _ =>
      have fk : (fr7[29]?).map (fun o => (o.op, o.guard)) = some (.assign (.tmp 71), none) := by kernel_rfl
      rw [ho] at fk
      injection fk with fk
      injection fk with hop hgd
      have dp := deps_of (ds := [16, 28, 0, 1, 2, 3, 4, 5, 6, 7, 8, 9, 10, 11, 12, 13, 14, 15, 16, 28]) (by kernel_rfl) ho hdep
      exact op_value ho hgd (by rw [ex_assign hop, (new_ 16 71 (by kernel_rfl) (by omega) (by decide) (dp 16 (by simp)))]; rfl) ⟨_, put_ _, R.assign (j := 1) (by omega) (by omega) (by rw [ecst]; rfl) (dp 16 (by simp)) (dp 8 (by simp))⟩
    | 30, _ =>
      have fk : (fr7[30]?).map (fun o => (o.op, o.guard)) = some (.assign (.tmp 79), none) := by kernel_rfl
      rw [ho] at fk
      injection fk with fk
      injection fk with hop hgd
      have dp := deps_of (ds := [24, 29, 0, 1, 2, 3, 4, 5, 6, 7, 8, 9, 10, 11, 12, 13, 14, 15, 16, 17, 18, 19, 20, 21, 22, 23, 24, 28, 29]) (by kernel_rfl) ho hdep
      exact op_value ho hgd (by rw [ex_assign hop, (new_ 24 79 (by kernel_rfl) (by omega) (by decide) (dp 24 (by simp)))]; rfl) ⟨_, put_ _, R.assign (j := 2) (by omega) (by omega) (by rw [ecst]; rfl) (dp 24 (by simp)) (dp 17 (by simp))⟩
    | 31, _ =>
      have fk : (fr7[31]?).map (fun o => (o.op, o.guard)) = some (.assign (.tmp 82), none) := by kernel_rfl
      rw [ho] at fk
      injection fk with fk
      injection fk with hop hgd
      have dp := deps_of (ds := [27, 30, 0, 1, 2, 3, 4, 5, 6, 7, 8, 9, 10, 11, 12, 13, 14, 15, 16, 17, 18, 19, 20, 21, 22, 23, 24, 25, 26, 27, 28, 29, 30]) (by kernel_rfl) ho hdep
      exact op_value ho hgd (by rw [ex_assign hop, (new_ 27 82 (by kernel_rfl) (by omega) (by decide) (dp 27 (by simp)))]; rfl) ⟨_, put_ _, R.assign (j := 3) (by omega) (by omega) (by rw [ecst]; rfl) (dp 27 (by simp)) (dp 25 (by simp))⟩
  · intro L a w hs hI hall
    obtain ⟨val, rfl, R⟩ := hI
    rw [fr7_size] at hall
    rw [lay_all (by rw [fr7_size]; exact hall) val _ _ (by intro i hi; rw [fr7_size]; exact List.mem_range.1 hi)]
    have ha : ∀ j, j < 4 → isApp L j = true := fun j hj => (R.asg j hj (hall (28 + j) (by omega))).2.1
    have hv : ∀ j, j < 4 → val (28 + j) = val (appI j) := fun j hj => (R.asg j hj (hall (28 + j) (by omega))).1
    have hc : ∀ j, j < 4 → cur v val L j = val (28 + j) := fun j hj => by rw [cur, ha j hj, if_pos rfl, hv j hj]
    refine hQ val w (fun i c h hi => R.cst i c (by rw [ecst]; exact h) (hall i hi)) (fun j hj => ?_) (fun i j hi hj hne => ?_) hv R.below
    · have := R.row j hj
      rw [hc j hj, ha j hj, if_pos rfl, if_pos rfl] at this
      exact this
    · have := R.apart i j hi hj hne
      rwa [hc i hi, hc j hj] at this
end Go.Proofs.Ytkbfdgacnoadlaa
