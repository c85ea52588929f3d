/- River: Base Base2 Base3 Base4 Base5 Base6 Flat SnowMath RivMath RivMath2 RivWords, merged (pack_all.py). -/
import Derived.WalkKit
import Derived.WalkSpells
import Derived.WalkLawsBesides
import Derived.Below
import Derived.Laws.OwnMore
import Derived.Maps.AppendAt
import Derived.Deep.AppendLies
import Derived.Deep.Draws
import Derived.Lib.Hide
import Derived.Deep.RegionHeld3
import Derived.StillTactics
/- Words for slices that are read: 'Rd w B size v n xs' says that the slice value v has n elements of 'size' cells each, which read as the cells xs, in blocks below B. -/
namespace Go.Proofs.Ytncnlhkmdljgpaa
open Go.RowKit

/-- a slice that is read -/
def Rd (w : World) (B size : Nat) (v : Value) (n : Nat) (xs : List Value) : Prop :=
  xs.length = n * size ∧ ∃ A c, v = .slice A n c ∧ n ≤ c ∧ (0 < n → ∃ b off, A = some ⟨b, off, none⟩ ∧ b < B ∧ ∀ j u, xs[j]? = some u → w.cell? ⟨b, off + j, none⟩ = some u)

section
variable {w w' : World} {B B' size n : Nat} {v : Value} {xs : List Value}
theorem Rd.nil_ (w : World) (B size : Nat) : Rd w B size (.slice none 0 0) 0 [] := ⟨by simp, none, 0, rfl, Nat.le_refl _, fun h => absurd h (by omega)⟩
theorem Rd.keep (h : Rd w B size v n xs) (hk : ∀ p : Addr, p.block < B → w'.cell? p = w.cell? p) : Rd w' B size v n xs := by
  obtain ⟨hl, A, c, rfl, hc, h⟩ := h
  refine ⟨hl, A, c, rfl, hc, fun hn => ?_⟩
  obtain ⟨b, off, rfl, hb, hcell⟩ := h hn
  exact ⟨b, off, rfl, hb, fun j u hu => (hk _ hb).trans (hcell j u hu)⟩
theorem Rd.more (h : Rd w B size v n xs) (hB : B ≤ B') : Rd w B' size v n xs := by
  obtain ⟨hl, A, c, rfl, hc, h⟩ := h
  refine ⟨hl, A, c, rfl, hc, fun hn => ?_⟩
  obtain ⟨b, off, rfl, hb, hcell⟩ := h hn
  exact ⟨b, off, rfl, by omega, hcell⟩
theorem Rd.below (h : Rd w B size v n xs) (hb : Below B w w') : Rd w' B size v n xs := h.keep fun _ hp => hb.cell hp
/-- carried to the world behind a call, and to its own size -/
theorem Rd.go (h : Rd w w.heap.size size v n xs) (hb : Below w.heap.size w w') : Rd w' w'.heap.size size v n xs := (h.below hb).more hb.size
theorem Rd.alloc (h : Rd w B size v n xs) (hB : B ≤ w.heap.size) (o : Obj) : Rd (w.alloc o) B size v n xs := h.keep fun p hp => World.cell?_alloc_lt w o p (by omega)
theorem Rd.setCell (h : Rd w B size v n xs) {p : Addr} (hB : B ≤ p.block) (u : Value) : Rd (w.setCell p u) B size v n xs :=
  h.keep fun q hq => World.cell?_setCell_other w p q u (fun e => by subst e; omega)
theorem Rd.grown (h : Rd w B size v n xs) {row : Option Nat} (hg : w.grownBy w' row) (hB : B ≤ w.heap.size) (hr : ∀ g, row = some g → B ≤ g) : Rd w' B size v n xs :=
  h.keep fun p hp => World.cell?_of_block (hg.block p.block (by omega) (fun e => by have := hr _ e.symm; omega))
theorem Rd.of_own {base : Nat} {e : TypeId} (h : w.ownsRow base e size v n xs) : Rd w w.heap.size size v n xs := by
  have hh := h
  obtain ⟨hl, ⟨rfl, rfl⟩ | ⟨g, cap, cur, rfl, hbg, hg, hnc, hcm, hcs, htk⟩⟩ := h
  · exact ⟨hl, none, 0, rfl, Nat.le_refl _, fun h => absurd h (by omega)⟩
  · have hlt : g < w.heap.size := by
      rcases Nat.lt_or_ge g w.heap.size with hlt | hge
      · exact hlt
      · rw [Array.getElem?_eq_none hge] at hg; cases hg
    exact ⟨hl, _, _, rfl, hnc, fun hn => ⟨g, 0, rfl, hlt, fun j u hu => by
      have := hh.cells (g := g) rfl j u hu
      rw [Addr.add_lit] at this
      simpa using this⟩⟩
theorem Rd.shape (h : Rd w B size v n xs) : ∃ A c, v = .slice A n c ∧ n ≤ c := by
  obtain ⟨_, A, c, rfl, hc, _⟩ := h
  exact ⟨A, c, rfl, hc⟩
/-- an element's cells -/
theorem Rd.at_ {A : Option Addr} {c : Nat} (h : Rd w B size (.slice A n c) n xs) (hn : 0 < n) : ∃ b off, A = some ⟨b, off, none⟩ ∧ b < B ∧ ∀ j u, xs[j]? = some u → w.cell? ⟨b, off + j, none⟩ = some u := by
  obtain ⟨_, A', c', e, _, h⟩ := h
  injection e with e1 e2 e3
  subst e1
  exact h hn
theorem Rd.len (h : Rd w B size v n xs) : xs.length = n * size := h.1
end

theorem wrap64_add_left (a b : Int) : wrap64 (wrap64 a + b) = wrap64 (a + b) := by unfold wrap64; omega
theorem ret_int {k : IntKind} {a b : Int} (h : a = b) : Ending.returned (.int k a) = .returned (.int k b) := by rw [h]
theorem ret_bool {a b : Bool} (h : a = b) : Ending.returned (.bool a) = .returned (.bool b) := by rw [h]
theorem bcell {W w1 : World} (hb : Below W.heap.size W w1) : (∀ b o, b < W.heap.size → w1.cell? ⟨b, o, none⟩ = W.cell? ⟨b, o, none⟩) ∧ (∀ b o, b < W.heap.size → w1.frozen? ⟨b, o, none⟩ = W.frozen? ⟨b, o, none⟩) :=
  ⟨fun b o h => hb.cell (p := ⟨b, o, none⟩) h, fun b o h => hb.frozen (p := ⟨b, o, none⟩) h⟩
theorem below_drewN {B : Nat} {a w : World} (h : Below B a w) (n : Nat) : Below B a (w.drewN n) := ⟨h.os, h.tape, h.output, h.size, h.block⟩
/-- calls in a row -/
theorem Below.on {B : Nat} {a b c : World} (h : Below B a b) (k : Below b.heap.size b c) (hB : B ≤ b.heap.size) : Below B a c := h.trans (k.mono hB)

/-- 'n' lies between lo and hi -/
def inB (lo hi n : Int) : Bool := decide (lo ≤ n) && decide (n ≤ hi)
theorem inB_iff {lo hi n : Int} : inB lo hi n = true ↔ lo ≤ n ∧ n ≤ hi := by simp [inB]
theorem inB_not {lo hi n : Int} : inB lo hi n = false ↔ n < lo ∨ hi < n := by simp [inB]; omega

theorem all_false_at {α : Type} {f : α → Bool} {l : List α} {k : Nat} (hk : k < l.length) (h : f l[k] = false) : l.all f = false :=
  List.all_eq_false.2 ⟨l[k], List.getElem_mem _, by simp [h]⟩

section
variable {P : Program} (w : World)
/-- appending no element to a slice of the call's own -/
theorem run_append_of_nil (base : Nat) (t ty e : TypeId) (i : TypeInfo) (size : Nat) (ht : P.underlying t = some (.slice e)) (hi : P.info? e = some i)
    (v : Value) (n : Nat) (xs : List Value) (hown : w.ownsRow base e size v n xs) (c : Nat) : (Builtin.append_ #[t, t] ty #[v, .slice none 0 c]).run P w = .ok v w := by
  rcases hown.2 with ⟨rfl, rfl⟩ | ⟨g, cap, cur, rfl, _, _, hnc, _⟩
  · simp [Builtin.append_, run_underlying ht, sizeOf, typeInfo, hi, Builtin.lenOf, Builtin.firstCells]
  · simp [Builtin.append_, run_underlying ht, sizeOf, typeInfo, hi, Builtin.lenOf, Builtin.firstCells, hnc, storeCells]

/-- append(own, read...): the new row; where it lies -/
theorem run_append_rd (base : Nat) (t ty e : TypeId) (i : TypeInfo) (z : Value) (size bytes : Nat) (ht : P.underlying t = some (.slice e)) (hi : P.info? e = some i) (hz : i.zero = some z)
    (hsize : i.size = size) (hby : i.bytes = bytes) (hzs : z.cells.size = size) (hsz : 0 < size)
    (v : Value) (n : Nat) (xs : List Value) (hown : w.ownsRow base e size v n xs)
    (B : Nat) (s : Value) (m : Nat) (news : List Value) (hr : Rd w B size s m news) (h1 : ∀ u ∈ news, u.oneCell' = true)
    (h63 : n + m ≤ maxLen) (hbytes : (n + m) * bytes ≤ 140737488355328) (hbase : base ≤ w.heap.size) :
    ∃ v' w', (Builtin.append_ #[t, t] ty #[v, s]).run P w = .ok v' w' ∧ w'.ownsRow base e size v' (n + m) (xs ++ news) ∧ w.grownBy w' v.ownBlock ∧
      (v'.ownBlock = v.ownBlock ∨ v'.ownBlock = some w.heap.size) := by
  obtain ⟨hl, A, c, rfl, hnc, hr⟩ := hr
  rcases Nat.eq_zero_or_pos m with hm | hm
  · subst hm
    have hn : news = [] := List.eq_nil_of_length_eq_zero (by simpa using hl)
    subst hn
    rcases A with _ | ad
    · exact ⟨v, w, run_append_of_nil w base t ty e i size ht hi v n xs hown c, by simpa using hown, World.grownBy.refl w _, .inl rfl⟩
    · obtain ⟨v', w', hrun, h2, h3, _, h5⟩ := run_append_own_at (P := P) w base t ty e i z size bytes ht hi hz hsize hby hzs hsz v n xs hown ad 0 c [] hl (by simp) (by simp) h63 hbytes hbase
      exact ⟨v', w', hrun, h2, h3, h5⟩
  · obtain ⟨b, off, rfl, _, hc⟩ := hr hm
    obtain ⟨v', w', hrun, h2, h3, _, h5⟩ := run_append_own_at (P := P) w base t ty e i z size bytes ht hi hz hsize hby hzs hsz v n xs hown ⟨b, off, none⟩ m c news hl (fun j u hu => by rw [Addr.add_lit]; exact hc j u hu) h1 h63 hbytes hbase
    exact ⟨v', w', hrun, h2, h3, h5⟩

theorem wp_append_rd {o : Oper} {a : Act} {K : Act → World → Prop} {Q : Exit → Act → World → Prop} (s x : Operand) (t : TypeId)
    (ho : o.op = .call { callee := .builtin .append, args := #[s, x], argTypes := #[t, t] })
    (base : Nat) (e : TypeId) (i : TypeInfo) (z : Value) (size bytes : Nat) (ht : P.underlying t = some (.slice e)) (hi : P.info? e = some i) (hz : i.zero = some z)
    (hsize : i.size = size) (hby : i.bytes = bytes) (hzs : z.cells.size = size) (hsz : 0 < size)
    (v : Value) (n : Nat) (xs : List Value) (hs : a.eval s = v) (hown : w.ownsRow base e size v n xs)
    (B : Nat) (src : Value) (m : Nat) (news : List Value) (hx : a.eval x = src) (hr : Rd w B size src m news) (h1 : ∀ u ∈ news, u.oneCell' = true)
    (h63 : n + m ≤ maxLen) (hbytes : (n + m) * bytes ≤ 140737488355328) (hbase : base ≤ w.heap.size)
    (h : ∀ v' w', w'.ownsRow base e size v' (n + m) (xs ++ news) → w.grownBy w' v.ownBlock → (v'.ownBlock = v.ownBlock ∨ v'.ownBlock = some w.heap.size) → K (a.put o.dst v') w') : o.wp P a w K Q := by
  obtain ⟨v', w', hrun, h2, h3, h4⟩ := run_append_rd (P := P) w base t o.type e i z size bytes ht hi hz hsize hby hzs hsz v n xs hown B src m news hr h1 h63 hbytes hbase
  unfold Oper.wp execOp
  simp only [ho, resolve, invoke, builtin, Sem.run_bind, Sem.run_pure, Result.andThen_ok, List.map_toArray, List.map_cons, List.map_nil, hs, hx, hrun]
  exact h v' w' h2 h3 h4

theorem wpList_append_rd {ops : Array Oper} {rest : List Oper} {o : Oper} {a : Act} {Q : Exit → Act → World → Prop} (hgd : o.guard = none) (s x : Operand) (t : TypeId)
    (ho : o.op = .call { callee := .builtin .append, args := #[s, x], argTypes := #[t, t] })
    (base : Nat) (e : TypeId) (i : TypeInfo) (z : Value) (size bytes : Nat) (ht : P.underlying t = some (.slice e)) (hi : P.info? e = some i) (hz : i.zero = some z)
    (hsize : i.size = size) (hby : i.bytes = bytes) (hzs : z.cells.size = size) (hsz : 0 < size)
    (v : Value) (n : Nat) (xs : List Value) (hs : a.eval s = v) (hown : w.ownsRow base e size v n xs)
    (B : Nat) (src : Value) (m : Nat) (news : List Value) (hx : a.eval x = src) (hr : Rd w B size src m news) (h1 : ∀ u ∈ news, u.oneCell' = true)
    (h63 : n + m ≤ maxLen) (hbytes : (n + m) * bytes ≤ 140737488355328) (hbase : base ≤ w.heap.size)
    (h : ∀ v' w', w'.ownsRow base e size v' (n + m) (xs ++ news) → w.grownBy w' v.ownBlock → (v'.ownBlock = v.ownBlock ∨ v'.ownBlock = some w.heap.size) → wpList P ops Q rest (a.put o.dst v') w') : wpList P ops Q (o :: rest) a w :=
  wpList_plain hgd fun _ hK => wp_append_rd w s x t ho base e i z size bytes ht hi hz hsize hby hzs hsz v n xs hs hown B src m news hx hr h1 h63 hbytes hbase fun v' w' h2 h3 h4 => hK _ _ (h v' w' h2 h3 h4)
end

/-- what is known of a slice type and of its element's type -/
structure Elem (P : Program) (t e : TypeId) (size bytes : Nat) : Prop where
  ht : P.underlying t = some (.slice e)
  hi : ∃ i z, P.info? e = some i ∧ i.zero = some z ∧ i.size = size ∧ i.bytes = bytes ∧ z.cells.size = size
  hs : 0 < size

theorem Elem.mk' {P : Program} {t e : TypeId} {size bytes : Nat} {z : Value} (ht : P.underlying t = some (.slice e)) (hi : (P.info? e).map (fun i => (i.zero, i.size, i.bytes)) = some (some z, size, bytes)) (hz : z.cells.size = size) (hs : 0 < size) : Elem P t e size bytes := by
  obtain ⟨i0, hi0, hz0, hz1, hz2⟩ := info_parts hi
  exact ⟨ht, ⟨i0, z, hi0, hz0, hz1, hz2, hz⟩, hs⟩

section
variable {P : Program} {t e : TypeId} {size bytes : Nat}
/-- append(own, one element): the element lies in the block that was just made -/
theorem wpList_push (E : Elem P t e size bytes) {ops : Array Oper} {rest : List Oper} {o : Oper} {a : Act} {Q : Exit → Act → World → Prop} (hgd : o.guard = none) (s x : Operand)
    (ho : o.op = .call { callee := .builtin .append, args := #[s, x], argTypes := #[t, t] })
    {W : World} {base : Nat} {v : Value} {n : Nat} {xs : List Value} (hs : a.eval s = v) (hown : W.ownsRow base e size v n xs) (cs : Array Value)
    (hx : a.eval x = .slice (some ⟨W.heap.size, 0, none⟩) 1 1) (hcs : cs.size = size) (h1 : ∀ u ∈ cs.toList, u.oneCell' = true)
    (h63 : n + 1 ≤ maxLen) (hbytes : (n + 1) * bytes ≤ 140737488355328) (hbase : base ≤ W.heap.size)
    (h : ∀ v' w', w'.ownsRow base e size v' (n + 1) (xs ++ cs.toList) → W.grownBy w' v.ownBlock → (v'.ownBlock = v.ownBlock ∨ v'.ownBlock = some (W.heap.size + 1)) → wpList P ops Q rest (a.put o.dst v') w') :
    wpList P ops Q (o :: rest) a (W.alloc (.cells cs e)) := by
  obtain ⟨i, z, hi, hz, hsize, hby, hzs⟩ := E.hi
  refine wpList_append_rd (W.alloc (.cells cs e)) hgd s x t ho base e i z size bytes E.ht hi hz hsize hby hzs E.hs v n xs hs (hown.alloc _) (W.heap.size + 1) _ 1 cs.toList hx ?_ h1 h63 hbytes (by simp; omega) fun v' w' h2 h3 h4 => ?_
  · refine ⟨by simpa using hcs, _, _, rfl, Nat.le_refl _, fun _ => ⟨W.heap.size, 0, rfl, by omega, fun j u hu => ?_⟩⟩
    rw [Nat.zero_add, World.cell?_alloc_new]
    simpa using hu
  · exact h v' w' h2 ((World.grownBy_alloc W _ _).trans h3) (by simpa using h4)
end

section
variable {w w' W : World} {B base e size n : Nat} {v v' : Value} {xs : List Value}
theorem Below.push (h : Below B w W) (hown : W.ownsRow base e size v n xs) (hg : W.grownBy w' v.ownBlock) (hb : B ≤ base) (hB : B ≤ W.heap.size) : Below B w w' :=
  h.grown hg hB fun k hk => Nat.le_trans hb (hown.lt k hk).1
theorem Rd.push {C m : Nat} {u : Value} {ys : List Value} {sz : Nat} (h : Rd W C sz u m ys) (hown : W.ownsRow base e size v n xs) (hg : W.grownBy w' v.ownBlock) (hb : C ≤ base) (hB : C ≤ W.heap.size) : Rd w' C sz u m ys :=
  h.grown hg hB fun k hk => Nat.le_trans hb (hown.lt k hk).1
end

/-- a block that is known whole -/
def Blk (w : World) (g : Nat) (t : TypeId) (cs : Array Value) : Prop := w.heap[g]? = some (.cells cs t (0, 0))
section
variable {w w' : World} {g : Nat} {t : TypeId} {cs : Array Value}
theorem Blk.lt (h : Blk w g t cs) : g < w.heap.size := by
  rcases Nat.lt_or_ge g w.heap.size with hlt | hge
  · exact hlt
  · unfold Blk at h; rw [Array.getElem?_eq_none hge] at h; cases h
theorem Blk.cell (h : Blk w g t cs) (i : Nat) : w.cell? ⟨g, i, none⟩ = cs[i]? := cell_of_row w g i cs t (0, 0) h
theorem Blk.frozen (h : Blk w g t cs) (i : Nat) : w.frozen? ⟨g, i, none⟩ = false := by
  unfold Blk at h
  simp [World.frozen?, h]
theorem Blk.new (w : World) (t : TypeId) (cs : Array Value) : Blk (w.alloc (.cells cs t)) w.heap.size t cs := heap_alloc_new w _
theorem Blk.drewN (h : Blk w g t cs) (n : Nat) : Blk (w.drewN n) g t cs := h
theorem Blk.drew (h : Blk w g t cs) : Blk w.drew g t cs := h
theorem Blk.alloc (h : Blk w g t cs) (o : Obj) : Blk (w.alloc o) g t cs := (Below.heap_alloc w o g h.lt).trans h
theorem Blk.set_ (h : Blk w g t cs) (i : Nat) (u : Value) : Blk (w.setCell ⟨g, i, none⟩ u) g t (cs.setIfInBounds i u) := by
  unfold Blk at h ⊢
  simp [World.setCell, Array.getElem?_modify, h]
theorem Blk.far (h : Blk w g t cs) {p : Addr} (hp : g ≠ p.block) (u : Value) : Blk (w.setCell p u) g t cs := (Below.heap_setCell w p u g hp).trans h
theorem Blk.below {B : Nat} (h : Blk w g t cs) (hb : Below B w w') (hg : g < B) : Blk w' g t cs := (hb.block g hg).trans h
theorem Blk.grown {row : Option Nat} (h : Blk w g t cs) (hb : w.grownBy w' row) (hg : some g ≠ row) : Blk w' g t cs := (hb.block g h.lt hg).trans h
theorem Blk.push {base e size n : Nat} {v : Value} {xs : List Value} (h : Blk w g t cs) (hown : w.ownsRow base e size v n xs) (hg : w.grownBy w' v.ownBlock) (hb : g < base) : Blk w' g t cs :=
  h.grown hg fun hk => by have := (hown.lt g hk.symm).1; omega
/-- a store into one's own block is no change of the others -/
theorem grown_set (w : World) (g i : Nat) (u : Value) : w.grownBy (w.setCell ⟨g, i, none⟩ u) (some g) :=
  ⟨rfl, rfl, rfl, by simp [World.setCell], fun k _ hne => Below.heap_setCell w _ u k (fun e => hne (by rw [e]))⟩
theorem grown_drewN {row : Option Nat} {a : World} (h : a.grownBy w row) (n : Nat) : a.grownBy (w.drewN n) row := ⟨h.os, h.tape, h.output, h.size, h.block⟩
theorem grown_below {row : Option Nat} {a : World} (h : a.grownBy w row) (k : Below w.heap.size w w') : a.grownBy w' row :=
  ⟨k.os.trans h.os, k.tape.trans h.tape, k.output.trans h.output, Nat.le_trans h.size k.size, fun i hi hne => (k.block i (Nat.lt_of_lt_of_le hi h.size)).trans (h.block i hi hne)⟩
end

/-- a block that has just been made is a row of the call's own -/
theorem own_new (w : World) (base : Nat) (e : TypeId) (size n : Nat) (cs : Array Value) (hb : base ≤ w.heap.size) (hn : cs.size = n * size) (hm : n ≤ maxLen) :
    (w.alloc (.cells cs e)).ownsRow base e size (.slice (some ⟨w.heap.size, 0, none⟩) n n) n cs.toList :=
  ⟨by simpa using hn, .inr ⟨w.heap.size, n, cs, rfl, hb, heap_alloc_new w _, Nat.le_refl _, hm, hn, by rw [← hn]; simp [← Array.length_toList]⟩⟩
theorem own_nil (w : World) (base : Nat) (e : TypeId) (size : Nat) : w.ownsRow base e size (.slice none 0 0) 0 [] := ⟨by simp, .inl ⟨rfl, rfl⟩⟩
/-- integers as values -/
def ints (l : List Int) : List Value := l.map (Value.int .i64)
theorem ints_one (l : List Int) : ∀ u ∈ ints l, u.oneCell' = true := by
  intro u hu
  obtain ⟨x, _, rfl⟩ := List.mem_map.1 hu
  rfl
theorem ints_len (l : List Int) : (ints l).length = l.length := by simp [ints]
theorem ints_get (l : List Int) (k : Nat) (hk : k < l.length) : (ints l)[k]? = some (.int .i64 (l[k]'hk)) := by simp [ints, hk]
theorem sum_nonneg {l : List Int} (h : ∀ x ∈ l, 0 ≤ x) : 0 ≤ l.sum := by
  induction l with
  | nil => simp
  | cons a l ih =>
    have h1 := h a (by simp)
    have h2 := ih fun x hx => h x (by simp [hx])
    simp
    omega
theorem take_sum {l : List Int} (h : ∀ x ∈ l, 0 ≤ x) (k : Nat) : 0 ≤ (l.take k).sum ∧ (l.take k).sum ≤ l.sum := by
  have h1 : 0 ≤ (l.take k).sum := sum_nonneg fun x hx => h x (List.mem_of_mem_take hx)
  have h2 : 0 ≤ (l.drop k).sum := sum_nonneg fun x hx => h x (List.mem_of_mem_drop hx)
  have h3 : l.sum = (l.take k).sum + (l.drop k).sum := by rw [← List.sum_append, List.take_append_drop]
  exact ⟨h1, by omega⟩
theorem take_sum_succ {l : List Int} {k : Nat} (hk : k < l.length) : (l.take (k + 1)).sum = (l.take k).sum + l[k] := by
  rw [List.take_succ_eq_append_getElem hk, List.sum_append]
  simp

/-- two lists of integers are the same -/
def eqL (a b : List Int) : Bool := decide (a = b)
theorem eqL_iff {a b : List Int} : eqL a b = true ↔ a = b := by simp [eqL]
theorem eqL_of_ne {a b : List Int} {k : Nat} (ha : k < a.length) (hb : k < b.length) (h : a[k] ≠ b[k]) : eqL a b = false := by
  simp only [eqL, decide_eq_false_iff_not]
  rintro rfl
  exact h rfl
theorem eqL_of_all {a b : List Int} (hl : a.length = b.length) (h : a.take a.length = b.take a.length) : eqL a b = true := by
  rw [List.take_of_length_le (Nat.le_refl _), hl, List.take_of_length_le (Nat.le_refl _)] at h
  exact eqL_iff.2 h
end Go.Proofs.Ytncnlhkmdljgpaa
/- More words on rows of the call's own. -/
namespace Go.Proofs.Ytncnlhkmdljgpaa
open Go.RowKit
/-- a row of the call's own is as it was where another block was written -/
theorem own_far {w w' : World} {base e size n g : Nat} {v : Value} {xs : List Value} (h : w.ownsRow base e size v n xs) (hg : w.grownBy w' (some g)) (hlt : g < base) : w'.ownsRow base e size v n xs :=
  h.kept hg (by
    rcases hv : v.ownBlock with _ | k
    · exact .inl rfl
    · exact .inr fun h' => by have := (h.lt k hv).1; injection h' with h'; omega)
theorem own_below {w w' : World} {base e size n B : Nat} {v : Value} {xs : List Value} (h : w.ownsRow base e size v n xs) (hg : Below B w w') (hB : w.heap.size ≤ B) : w'.ownsRow base e size v n xs :=
  h.kept (row := none) ⟨hg.os, hg.tape, hg.output, hg.size, fun k hk _ => hg.block k (by omega)⟩ (by
    rcases hv : v.ownBlock with _ | k
    · exact .inl rfl
    · exact .inr (by simp))
theorem own_drewN {w : World} {base e size n : Nat} {v : Value} {xs : List Value} (h : w.ownsRow base e size v n xs) (k : Nat) : (w.drewN k).ownsRow base e size v n xs := h
theorem own_less {w : World} {base base' e size n : Nat} {v : Value} {xs : List Value} (h : w.ownsRow base e size v n xs) (hb : base' ≤ base) : w.ownsRow base' e size v n xs := by
  obtain ⟨h1, h2 | ⟨g, cap, cur, e1, e2, h⟩⟩ := h
  · exact ⟨h1, .inl h2⟩
  · exact ⟨h1, .inr ⟨g, cap, cur, e1, Nat.le_trans hb e2, h⟩⟩
/-- a block that has just been made reads as its cells -/
theorem Rd.made (w : World) (e : TypeId) (size n : Nat) (cs : Array Value) (hn : cs.size = n * size) : Rd (w.alloc (.cells cs e)) (w.heap.size + 1) size (.slice (some ⟨w.heap.size, 0, none⟩) n n) n cs.toList := by
  refine ⟨by simpa using hn, _, _, rfl, Nat.le_refl _, fun _ => ⟨w.heap.size, 0, rfl, by omega, fun j u hu => ?_⟩⟩
  rw [Nat.zero_add, World.cell?_alloc_new]
  simpa using hu
theorem ret_pair {v v' u u' : Value} (h : v = v') (k : u = u') : Ending.returned (.tuple #[v, u]) = .returned (.tuple #[v', u']) := by rw [h, k]
end Go.Proofs.Ytncnlhkmdljgpaa
/- Several rows of the call's own, apart from each other. -/
namespace Go.Proofs.Ytncnlhkmdljgpaa
open Go.RowKit

/-- two rows share no block -/
def Apart (v u : Value) : Prop := ∀ g, v.ownBlock = some g → u.ownBlock ≠ some g
theorem Apart.nil_left (u : Value) : Apart (.slice none 0 0) u := fun g h => by simp [Value.ownBlock] at h
theorem Apart.nil_right (v : Value) : Apart v (.slice none 0 0) := fun g _ => by simp [Value.ownBlock]
theorem Apart.symm {v u : Value} (h : Apart v u) : Apart u v := fun g hu hv => h g hv hu

section
variable {W w' : World} {base e size n : Nat} {v v' u : Value} {xs : List Value}
/-- a row is as it was where another row has grown -/
theorem own_apart {base2 e2 size2 m : Nat} {ys : List Value} (hu : W.ownsRow base2 e2 size2 u m ys) (hg : W.grownBy w' v.ownBlock) (ha : Apart v u) : w'.ownsRow base2 e2 size2 u m ys :=
  hu.kept hg (by
    rcases h : u.ownBlock with _ | g
    · exact .inl rfl
    · exact .inr fun h' => ha g h'.symm h)
/-- a row that has grown is apart from those that it was apart from -/
theorem Apart.push {base2 e2 size2 m : Nat} {ys : List Value} (ha : Apart v u) (hu : W.ownsRow base2 e2 size2 u m ys) (hv : v'.ownBlock = v.ownBlock ∨ v'.ownBlock = some (W.heap.size + 1)) : Apart v' u := by
  intro g hg hgu
  rcases hv with h | h
  · exact ha g (h ▸ hg) hgu
  · rw [h] at hg
    injection hg with hg
    have := (hu.lt g hgu).2
    omega
/-- a row that is read, as long as its world's size -/
theorem rd_of_own (h : W.ownsRow base e size v n xs) : Rd W W.heap.size size v n xs := Rd.of_own h
end
end Go.Proofs.Ytncnlhkmdljgpaa
/- An append onto a row of the call's own inside a region that draws its order. -/
namespace Go.Proofs.Ytncnlhkmdljgpaa
open Go.RowKit

theorem Rd.drew {w : World} {B size n : Nat} {v : Value} {xs : List Value} (h : Rd w B size v n xs) : Rd w.drew B size v n xs := h.keep fun _ _ => rfl
theorem Rd.drewN {w : World} {B size n : Nat} {v : Value} {xs : List Value} (h : Rd w B size v n xs) (k : Nat) : Rd (w.drewN k) B size v n xs := h.keep fun _ _ => rfl

section
variable {P : Program} {t e : TypeId} {size bytes : Nat}
theorem step_push (E : Elem P t e size bytes) {ops : Array Oper} {o : Oper} {a : Act} {K : Act → World → Prop} {Q : Exit → Act → World → Prop} {F : Prop} (hgd : o.guard = none) (s x : Operand)
    (ho : o.op = .call { callee := .builtin .append, args := #[s, x], argTypes := #[t, t] })
    {w : World} {base : Nat} {v : Value} {n : Nat} {xs : List Value} (hs : a.eval s = v) (hown : w.ownsRow base e size v n xs)
    (B : Nat) (src : Value) (m : Nat) (news : List Value) (hx : a.eval x = src) (hr : Rd w B size src m news) (h1 : ∀ u ∈ news, u.oneCell' = true)
    (h63 : n + m ≤ maxLen) (hbytes : (n + m) * bytes ≤ 140737488355328) (hbase : base ≤ w.heap.size)
    (h : ∀ v' w', w'.ownsRow base e size v' (n + m) (xs ++ news) → w.grownBy w' v.ownBlock → (v'.ownBlock = v.ownBlock ∨ v'.ownBlock = some w.heap.size) → K (a.put o.dst v') w') :
    if Region.wanted o (yielded ops a.tmps) = true then Oper.wp P o a w K Q else F := by
  have hw : Region.wanted o (yielded ops a.tmps) = true := by simp [Region.wanted, hgd]
  rw [if_pos hw]
  obtain ⟨i, z, hi, hz, hsize, hby, hzs⟩ := E.hi
  exact wp_append_rd w s x t ho base e i z size bytes E.ht hi hz hsize hby hzs E.hs v n xs hs hown B src m news hx hr h1 h63 hbytes hbase h
end

theorem grown_drew {row : Option Nat} {a w : World} (h : a.grownBy w row) : a.grownBy w.drew row := ⟨h.os, h.tape, h.output, h.size, h.block⟩
/-- an element of a row of the call's own -/
theorem own_elem {w : World} {base e n : Nat} {v : Value} {l : List Int} (h : w.ownsRow base e 1 v n (ints l)) {k : Nat} (hk : k < l.length) :
    ∃ g cap, v = .slice (some ⟨g, 0, none⟩) n cap ∧ base ≤ g ∧ g < w.heap.size ∧ n = l.length ∧ w.cell? ⟨g, k, none⟩ = some (.int .i64 l[k]) := by
  have hn : n = l.length := by have := h.1; simp [ints] at this; omega
  obtain ⟨g, cap, rfl, h1, h2⟩ := h.form (by omega)
  refine ⟨g, cap, rfl, h1, h2, hn, ?_⟩
  rw [h.cellAt k (by omega)]
  exact ints_get l k hk

/-- a cell of another block is as it was behind an append -/
theorem push_cell {w w' : World} {base e size n b o : Nat} {v : Value} {xs : List Value} {u : Value} (hown : w.ownsRow base e size v n xs) (hg : w.grownBy w' v.ownBlock) (hc : w.cell? ⟨b, o, none⟩ = some u) (hb : b < base) (hbw : base ≤ w.heap.size) : w'.cell? ⟨b, o, none⟩ = some u := by
  rw [World.cell?_of_block (w := w) (hg.block b (by omega) (fun e => by have := (hown.lt b e.symm).1; omega))]
  exact hc

theorem wpList_push_at {P : Program} {t e : TypeId} {size bytes : Nat} (E : Elem P t e size bytes) {ops : Array Oper} {rest : List Oper} {o : Oper} {a : Act} {Q : Exit → Act → World → Prop} (hgd : o.guard = none) (s x : Operand)
    (ho : o.op = .call { callee := .builtin .append, args := #[s, x], argTypes := #[t, t] })
    {W : World} {base : Nat} {v : Value} {n : Nat} {xs : List Value} (hs : a.eval s = v) (hown : W.ownsRow base e size v n xs) (cs : Array Value) (g : Nat)
    (hx : a.eval x = .slice (some ⟨g, 0, none⟩) 1 1) (hg : g = W.heap.size) (hcs : cs.size = size) (h1 : ∀ u ∈ cs.toList, u.oneCell' = true)
    (h63 : n + 1 ≤ maxLen) (hbytes : (n + 1) * bytes ≤ 140737488355328) (hbase : base ≤ W.heap.size)
    (h : ∀ v' w', w'.ownsRow base e size v' (n + 1) (xs ++ cs.toList) → W.grownBy w' v.ownBlock → (v'.ownBlock = v.ownBlock ∨ v'.ownBlock = some (W.heap.size + 1)) → wpList P ops Q rest (a.put o.dst v') w') :
    wpList P ops Q (o :: rest) a (W.alloc (.cells cs e)) := by
  subst hg
  exact wpList_push E hgd s x ho hs hown cs hx hcs h1 h63 hbytes hbase h
end Go.Proofs.Ytncnlhkmdljgpaa
/- A copy of a slice that is read: append(T{}, l...). -/
namespace Go.Proofs.Ytncnlhkmdljgpaa
open Go.RowKit

section
variable {P : Program} {t e : TypeId} {size bytes : Nat}
theorem wpList_copy_all (E : Elem P t e size bytes) {ops : Array Oper} {rest : List Oper} {o : Oper} {a : Act} {Q : Exit → Act → World → Prop} (hgd : o.guard = none) (s x : Operand)
    (ho : o.op = .call { callee := .builtin .append, args := #[s, x], argTypes := #[t, t] })
    {W : World} {B : Nat} {src : Value} {m : Nat} {news : List Value} (hr : Rd W B size src m news) (hB : B ≤ W.heap.size)
    (hs : a.eval s = .slice (some ⟨W.heap.size, 0, none⟩) 0 0) (hx : a.eval x = src) (h1 : ∀ u ∈ news, u.oneCell' = true)
    (hm : m ≤ 1048576) (hby : bytes ≤ 1048576)
    (h : ∀ v' w', w'.ownsRow W.heap.size e size v' m news → Below W.heap.size W w' → wpList P ops Q rest (a.put o.dst v') w') :
    wpList P ops Q (o :: rest) a (W.alloc (.cells #[] e)) := by
  obtain ⟨i, z, hi, hz, hsize, hb, hzs⟩ := E.hi
  have hmul : (0 + m) * bytes ≤ 140737488355328 := by
    have h1 : (0 + m) * bytes ≤ 1048576 * bytes := Nat.mul_le_mul_right _ (by omega)
    omega
  refine wpList_append_rd (W.alloc (.cells #[] e)) hgd s x t ho W.heap.size e i z size bytes E.ht hi hz hsize hb hzs E.hs (.slice (some ⟨W.heap.size, 0, none⟩) 0 0) 0 [] hs
    (own_new W _ _ size 0 #[] (Nat.le_refl _) (by simp) (Nat.zero_le _)) B src m news hx (hr.alloc hB _) h1 (by simp only [maxLen]; omega) hmul (by simp) fun v' w' h2 h3 _ => ?_
  refine h v' w' (by simpa using h2) (((Below.refl _ _).alloc (Nat.le_refl _) _).grown h3 (by simp) ?_)
  simp [Value.ownBlock]
end
theorem int_eq {k : IntKind} {a b : Int} (h : a = b) : Value.int k a = .int k b := by rw [h]
end Go.Proofs.Ytncnlhkmdljgpaa
/- A copy of a slice that is read, made at an address known by an equation. -/
namespace Go.Proofs.Ytncnlhkmdljgpaa
open Go.RowKit

section
variable {P : Program} {t e : TypeId} {size bytes : Nat}
theorem wpList_copy_at (E : Elem P t e size bytes) {ops : Array Oper} {rest : List Oper} {o : Oper} {a : Act} {Q : Exit → Act → World → Prop} (hgd : o.guard = none) (s x : Operand)
    (ho : o.op = .call { callee := .builtin .append, args := #[s, x], argTypes := #[t, t] })
    {W : World} {B : Nat} {src : Value} {m : Nat} {news : List Value} (hr : Rd W B size src m news) (hB : B ≤ W.heap.size) (g : Nat)
    (hs : a.eval s = .slice (some ⟨g, 0, none⟩) 0 0) (hg : g = W.heap.size) (hx : a.eval x = src) (h1 : ∀ u ∈ news, u.oneCell' = true)
    (hm : m ≤ 1048576) (hby : bytes ≤ 1048576)
    (h : ∀ v' w', w'.ownsRow W.heap.size e size v' m news → Below W.heap.size W w' → wpList P ops Q rest (a.put o.dst v') w') :
    wpList P ops Q (o :: rest) a (W.alloc (.cells #[] e)) := by
  subst hg
  obtain ⟨i, z, hi, hz, hsize, hb, hzs⟩ := E.hi
  have hmul : (0 + m) * bytes ≤ 140737488355328 := by
    have h1 : (0 + m) * bytes ≤ 1048576 * bytes := Nat.mul_le_mul_right _ (by omega)
    omega
  refine wpList_append_rd (W.alloc (.cells #[] e)) hgd s x t ho W.heap.size e i z size bytes E.ht hi hz hsize hb hzs E.hs (.slice (some ⟨W.heap.size, 0, none⟩) 0 0) 0 [] hs
    (own_new W _ _ size 0 #[] (Nat.le_refl _) (by simp) (Nat.zero_le _)) B src m news hx (hr.alloc hB _) h1 (by simp only [maxLen]; omega) hmul (by simp) fun v' w' h2 h3 _ => ?_
  refine h v' w' (by simpa using h2) (((Below.refl _ _).alloc (Nat.le_refl _) _).grown h3 (by simp) ?_)
  simp [Value.ownBlock]
end
end Go.Proofs.Ytncnlhkmdljgpaa
/- Lists of structs, laid flat. -/
namespace Go.Proofs.Ytncnlhkmdljgpaa
theorem flat_len {α : Type} {f : α → List Value} {s : Nat} (hf : ∀ x, (f x).length = s) (l : List α) : (l.flatMap f).length = l.length * s := by
  induction l with
  | nil => simp
  | cons x l ih => simp [ih, hf, Nat.add_mul]; omega
theorem flat_get {α : Type} {f : α → List Value} {s : Nat} (hf : ∀ x, (f x).length = s) : ∀ (l : List α) (k : Nat) (hk : k < l.length) (j : Nat), j < s → (l.flatMap f)[k * s + j]? = (f l[k])[j]?
  | [], k, hk, _, _ => absurd hk (by simp)
  | x :: l, 0, _, j, hj => by
    rw [List.flatMap_cons, Nat.zero_mul, Nat.zero_add, List.getElem?_append_left (by rw [hf]; exact hj)]
    rfl
  | x :: l, k + 1, hk, j, hj => by
    rw [List.flatMap_cons, List.getElem?_append_right (by rw [hf, Nat.add_mul]; omega), hf, show (k + 1) * s + j - s = k * s + j by rw [Nat.add_mul]; omega]
    exact flat_get hf l k (by simpa using hk) j hj
theorem flat_one {α : Type} {f : α → List Value} (hf : ∀ x, ∀ u ∈ f x, u.oneCell' = true) (l : List α) : ∀ u ∈ l.flatMap f, u.oneCell' = true := by
  intro u hu
  obtain ⟨x, _, h⟩ := List.mem_flatMap.1 hu
  exact hf x u h
end Go.Proofs.Ytncnlhkmdljgpaa
/- What flows from land: the melt of each hour, plainly. No program in sight. -/
namespace Go.Proofs.Ytncnlhkmdljgpaa

structure Bd where
  lo : Int
  hi : Int
structure Sky where
  rain : Bd
  heat : Bd
structure Land where
  area : Int
  percent : Int
  melt : Int
  snow : Bd

def bdOk (lo hi : Int) (b : Bd) : Bool := decide (b.lo ≤ b.hi) && (inB lo hi b.lo && inB lo hi b.hi)
def skyOk (h : Sky) : Bool := bdOk 0 20000 h.rain && bdOk (-500) 500 h.heat
def landOk (c : Land) : Bool := inB 0 10000 c.area && (inB 0 100 c.percent && (inB 0 100 c.melt && bdOk 0 1000000 c.snow))
/-- the error of a land and a sky -/
def catchErr (c : Land) (sky : List Sky) : Int := if landOk c = false then 2 else if 400 < sky.length then 5 else if sky.all skyOk = false then 2 else 0

/-- how much can melt in an hour -/
def warmth (rate t : Int) : Int := max 0 t * rate
/-- what is left of so much snow behind so many temperatures -/
def leftOf (rate : Int) : Int → List Int → Int
  | s, [] => s
  | s, t :: l => leftOf rate (max 0 (s - warmth rate t)) l
/-- the melt of each hour of a truth -/
def meltsOf (rate : Int) : Int → List Int → List Int
  | _, [] => []
  | s, t :: l => min s (warmth rate t) :: meltsOf rate (s - min s (warmth rate t)) l
theorem warmth_nonneg {rate t : Int} (h : 0 ≤ rate) : 0 ≤ warmth rate t := Int.mul_nonneg (by omega) h
theorem left_step {s f : Int} : s - min s f = max 0 (s - f) := by omega
theorem melts_len (rate : Int) : ∀ (l : List Int) (s : Int), (meltsOf rate s l).length = l.length
  | [], _ => rfl
  | _ :: l, s => by rw [meltsOf, List.length_cons, melts_len rate l, List.length_cons]
theorem melts_at {rate : Int} (hr : 0 ≤ rate) (t : Int) : ∀ (l : List Int) (s : Int), 0 ≤ s → (meltsOf rate s (l ++ [t]))[l.length]? = some (min (leftOf rate s l) (warmth rate t))
  | [], s, _ => rfl
  | u :: l, s, hs => by
    rw [List.cons_append, meltsOf, List.length_cons, List.getElem?_cons_succ, melts_at hr t l _ (by omega), leftOf, left_step]
theorem left_nonneg {rate : Int} : ∀ (l : List Int) (s : Int), 0 ≤ s → 0 ≤ leftOf rate s l
  | [], _, h => h
  | _ :: l, s, _ => by rw [leftOf]; exact left_nonneg l _ (by omega)
theorem left_le {rate : Int} (hr : 0 ≤ rate) : ∀ (l : List Int) (s : Int), 0 ≤ s → leftOf rate s l ≤ s
  | [], _, _ => Int.le_refl _
  | t :: l, s, hs => by
    rw [leftOf]
    have h := left_le hr l (max 0 (s - warmth rate t)) (by omega)
    have hw := warmth_nonneg (t := t) hr
    omega
theorem left_snoc (rate t : Int) : ∀ (l : List Int) (s : Int), leftOf rate s (l ++ [t]) = max 0 (leftOf rate s l - warmth rate t)
  | [], _ => rfl
  | _ :: l, s => by rw [List.cons_append, leftOf, left_snoc rate t l, leftOf]

def floorD (n k : Int) : Int := n / k
def ceilD (n k : Int) : Int := -(-n / k)
def sky0 : Sky := ⟨⟨0, 0⟩, ⟨0, 0⟩⟩
/-- what melts in an hour, at least and at most -/
def least (c : Land) (sky : List Sky) (i : Nat) : Int := min (leftOf c.melt c.snow.lo ((sky.take i).map fun h => h.heat.hi)) (warmth c.melt (sky.getD i sky0).heat.lo)
def most (c : Land) (sky : List Sky) (i : Nat) : Int := min (leftOf c.melt c.snow.hi ((sky.take i).map fun h => h.heat.lo)) (warmth c.melt (sky.getD i sky0).heat.hi)
/-- what flows in an hour -/
def flowAt (c : Land) (sky : List Sky) (i : Nat) : Bd :=
  ⟨floorD ((sky.getD i sky0).rain.lo + least c sky i |> (· * (c.area * c.percent))) 10, ceilD ((sky.getD i sky0).rain.hi + most c sky i |> (· * (c.area * c.percent))) 10⟩
/-- what flows in the first so many hours -/
def flowsTo (c : Land) (sky : List Sky) (k : Nat) : List Bd := (List.range k).map (flowAt c sky)
theorem flowsTo_succ (c : Land) (sky : List Sky) (k : Nat) : flowsTo c sky (k + 1) = flowsTo c sky k ++ [flowAt c sky k] := by simp [flowsTo, List.range_succ]
theorem flowsTo_len (c : Land) (sky : List Sky) (k : Nat) : (flowsTo c sky k).length = k := by simp [flowsTo]
/-- the program's way of rounding -/
def downD (n k : Int) : Int := if n.tmod k < 0 then n.tdiv k - 1 else n.tdiv k
theorem downD_eq {n k : Int} (hk : 0 < k) : downD n k = floorD n k := by
  unfold downD floorD
  have h1 := Int.tmod_add_mul_tdiv n k
  have h2 := Int.emod_add_mul_ediv n k
  have h3 := Int.emod_nonneg n (show k ≠ 0 by omega)
  have h4 := Int.emod_lt_of_pos n hk
  rcases Int.lt_or_le n 0 with hn | hn
  · by_cases hm : n.tmod k < 0
    · rw [if_pos hm]
      have h5 : -k < n.tmod k := by
        have := Int.lt_tmod_of_pos n hk
        omega
      have e : k * (n.tdiv k - 1) + (n.tmod k + k) = n := by rw [Int.mul_sub, Int.mul_one]; omega
      exact (Int.ediv_emod_unique hk |>.2 ⟨by rw [Int.add_comm]; exact e, by omega, by omega⟩).1.symm
    · rw [if_neg hm]
      have h5 : n.tmod k ≤ 0 := by
        have h6 : (-n).tmod k = -(n.tmod k) := Int.neg_tmod _ _
        rw [Int.tmod_eq_emod_of_nonneg (show 0 ≤ -n by omega)] at h6
        have h7 := Int.emod_nonneg (-n) (show k ≠ 0 by omega)
        omega
      have e : n.tmod k + k * n.tdiv k = n := h1
      exact (Int.ediv_emod_unique hk |>.2 ⟨e, by omega, by omega⟩).1.symm
  · rw [Int.tmod_eq_emod_of_nonneg hn, if_neg (by omega), Int.tdiv_eq_ediv_of_nonneg hn]
end Go.Proofs.Ytncnlhkmdljgpaa
/- The river, plainly: what a valid river is, its flows, levels and beds. No program in sight. -/
namespace Go.Proofs.Ytncnlhkmdljgpaa

structure Row where
  flow : Int
  level : Int
structure Reach where
  len : Int
  delay : Int
  base : Bd
  curve : List Row
  weir : Int
  bottom : Bd
  flood : Int
structure Shoal where
  place : Int
  bed : Bd
  sounded : Int
  grow : Bd
structure River where
  reaches : List Reach
  shoals : List Shoal

def row0 : Row := ⟨0, 0⟩
def bd0 : Bd := ⟨0, 0⟩
def reach0 : Reach := ⟨0, 0, bd0, [], 0, bd0, 0⟩
def shoal0 : Shoal := ⟨0, bd0, 0, bd0⟩
/-- what a row must be behind another one -/
def rowB (f l : Int) (r : Row) : Bool := inB f 10000000000 r.flow && inB l 10000 r.level
/-- the least flow and level of row k -/
def lowF (c : List Row) (k : Nat) : Int := if k = 0 then 0 else (c.getD (k - 1) row0).flow + 1
def lowL (c : List Row) (k : Nat) : Int := if k = 0 then 0 else (c.getD (k - 1) row0).level
def rowAtB (c : List Row) (k : Nat) : Bool := rowB (lowF c k) (lowL c k) (c.getD k row0)
def curveB (c : List Row) : Bool := (List.range c.length).all (rowAtB c)
def reachB (x : Reach) : Bool := inB 1 5000 x.len && (inB 0 200 x.delay && (bdOk 0 10000000000 x.base && (inB 2 30 (x.curve.length : Int) && (inB 0 10000 x.weir && (bdOk 0 10000 x.bottom && (inB 0 10000 x.flood && curveB x.curve))))))
def placesOf (l : List Reach) : Int := (l.map Reach.len).sum
def shoalB (n : Int) (s : Shoal) : Bool := inB 0 (n - 1) s.place && (bdOk 0 10000 s.bed && (inB (-400) 400 s.sounded && bdOk (-500) 500 s.grow))
def riverB (r : River) : Bool := inB 1 20 (r.reaches.length : Int) && (decide (r.shoals.length ≤ 40) && (r.reaches.all reachB && r.shoals.all (shoalB (placesOf r.reaches))))
/-- the error of a river and what flows in from its sides -/
def startErr (r : River) (sides : List (List Bd)) : Int :=
  if riverB r = false then 2
  else if sides.length ≠ r.reaches.length ∨ (sides.getD 0 []).length = 0 then 4
  else if (sides.all fun l => decide (l.length = (sides.getD 0 []).length)) = false then 4
  else if 400 < (sides.getD 0 []).length then 5
  else if (sides.all fun l => l.all (bdOk 0 10000000000)) = false then 2 else 0

def Bd.add (a b : Bd) : Bd := ⟨a.lo + b.lo, a.hi + b.hi⟩
/-- the flow of a reach in an hour, also before the first one -/
def flowIn (r : List Reach) (sides : List (List Bd)) : Nat → Int → Bd
  | 0, h => if h < 0 then (r.getD 0 reach0).base else ((sides.getD 0 []).getD h.toNat bd0)
  | i + 1, h => if h < 0 then (r.getD (i + 1) reach0).base else ((sides.getD (i + 1) []).getD h.toNat bd0).add (flowIn r sides i (h - (r.getD i reach0).delay))
theorem flowIn_neg (r : List Reach) (sides : List (List Bd)) (i : Nat) {h : Int} (hh : h < 0) : flowIn r sides i h = (r.getD i reach0).base := by
  cases i <;> rw [flowIn, if_pos hh]
def flowsOf (r : List Reach) (sides : List (List Bd)) (m : Nat) (i : Nat) : List Bd := (List.range m).map fun h : Nat => flowIn r sides i h
def flowsAll (r : List Reach) (sides : List (List Bd)) : List (List Bd) := (List.range sides.length).map (flowsOf r sides (sides.getD 0 []).length)

/-- what holds of a reach that is valid -/
structure ReachOk (x : Reach) : Prop where
  len : 1 ≤ x.len ∧ x.len ≤ 5000
  delay : 0 ≤ x.delay ∧ x.delay ≤ 200
  base : 0 ≤ x.base.lo ∧ x.base.lo ≤ x.base.hi ∧ x.base.hi ≤ 10000000000
  rows : 2 ≤ x.curve.length ∧ x.curve.length ≤ 30
  weir : 0 ≤ x.weir ∧ x.weir ≤ 10000
  bottom : 0 ≤ x.bottom.lo ∧ x.bottom.lo ≤ x.bottom.hi ∧ x.bottom.hi ≤ 10000
  flood : 0 ≤ x.flood ∧ x.flood ≤ 10000
  curve : curveB x.curve = true
theorem bdOk_iff {lo hi : Int} {b : Bd} : bdOk lo hi b = true ↔ lo ≤ b.lo ∧ b.lo ≤ b.hi ∧ b.hi ≤ hi := by
  simp [bdOk, inB]
  omega
theorem reachB_ok {x : Reach} (h : reachB x = true) : ReachOk x := by
  simp only [reachB, Bool.and_eq_true, inB_iff, bdOk_iff] at h
  obtain ⟨h1, h2, h3, h4, h5, h6, h7, h8⟩ := h
  exact ⟨h1, h2, h3, ⟨by omega, by omega⟩, h5, h6, h7, h8⟩
theorem rowB_iff {f l : Int} {r : Row} : rowB f l r = true ↔ (f ≤ r.flow ∧ r.flow ≤ 10000000000) ∧ l ≤ r.level ∧ r.level ≤ 10000 := by
  simp only [rowB, Bool.and_eq_true, inB_iff]
theorem curve_row {c : List Row} (h : curveB c = true) {k : Nat} (hk : k < c.length) : rowAtB c k = true := List.all_eq_true.1 h k (List.mem_range.2 hk)
/-- rows of a valid curve -/
theorem curve_at {c : List Row} (h : curveB c = true) : ∀ k, k < c.length → (0 ≤ (c.getD k row0).flow ∧ (c.getD k row0).flow ≤ 10000000000) ∧ 0 ≤ (c.getD k row0).level ∧ (c.getD k row0).level ≤ 10000
  | 0, hk => by
    have h1 := rowB_iff.1 (curve_row h hk)
    simpa [lowF, lowL] using h1
  | k + 1, hk => by
    have h1 := rowB_iff.1 (curve_row h hk)
    have h2 := curve_at h k (by omega)
    simp only [lowF, lowL, Nat.add_eq_zero_iff, Nat.one_ne_zero, and_false, if_false, Nat.add_sub_cancel] at h1
    omega
theorem curve_step {c : List Row} (h : curveB c = true) {k : Nat} (hk : k + 1 < c.length) : (c.getD k row0).flow < (c.getD (k + 1) row0).flow ∧ (c.getD k row0).level ≤ (c.getD (k + 1) row0).level := by
  have h1 := rowB_iff.1 (curve_row h hk)
  simp only [lowF, lowL, Nat.add_eq_zero_iff, Nat.one_ne_zero, and_false, if_false, Nat.add_sub_cancel] at h1
  omega
theorem curve_mono {c : List Row} (h : curveB c = true) {i : Nat} : ∀ {j : Nat}, i ≤ j → j < c.length → (c.getD i row0).flow ≤ (c.getD j row0).flow ∧ (c.getD i row0).level ≤ (c.getD j row0).level := by
  intro j hij
  induction j with
  | zero => intro hj; obtain rfl : i = 0 := by omega
            exact ⟨Int.le_refl _, Int.le_refl _⟩
  | succ j ih =>
    intro hj
    rcases Nat.lt_or_ge i (j + 1) with hlt | hge
    · have h1 := ih (by omega) (by omega)
      have h2 := curve_step h hj
      omega
    · obtain rfl : i = j + 1 := by omega
      exact ⟨Int.le_refl _, Int.le_refl _⟩
theorem curve_lt {c : List Row} (h : curveB c = true) {i j : Nat} (hij : i < j) (hj : j < c.length) : (c.getD i row0).flow < (c.getD j row0).flow := by
  have h1 := curve_step h (show i + 1 < c.length by omega)
  have h2 := (curve_mono h (show i + 1 ≤ j by omega) hj).1
  omega

/-- how many rows have at most this flow -/
def nextR (c : List Row) (f : Int) : Nat := (c.takeWhile fun r => decide (r.flow ≤ f)).length
theorem nextR_le (c : List Row) (f : Int) : nextR c f ≤ c.length := (List.takeWhile_sublist _).length_le
theorem nextR_lt : ∀ (c : List Row) (f : Int) (j : Nat), j < nextR c f → (c.getD j row0).flow ≤ f
  | [], f, j, h => by simp [nextR] at h
  | r :: c, f, j, h => by
    by_cases hr : r.flow ≤ f
    · cases j with
      | zero => simpa using hr
      | succ j =>
        have := nextR_lt c f j (by simp [nextR, hr] at h; unfold nextR; omega)
        simpa using this
    · simp [nextR, hr] at h
theorem nextR_at : ∀ (c : List Row) (f : Int), nextR c f < c.length → f < (c.getD (nextR c f) row0).flow
  | [], f, h => by simp at h
  | r :: c, f, h => by
    by_cases hr : r.flow ≤ f
    · have e : nextR (r :: c) f = nextR c f + 1 := by simp [nextR, hr]
      rw [e] at h ⊢
      have := nextR_at c f (by simp at h; omega)
      simpa using this
    · have e : nextR (r :: c) f = 0 := by simp [nextR, hr]
      rw [e]
      simp
      omega
theorem nextR_ge {c : List Row} (h : curveB c = true) {f : Int} {j : Nat} (hj : nextR c f ≤ j) (hl : j < c.length) : f < (c.getD j row0).flow := by
  have h1 := nextR_at c f (by omega)
  have h2 := (curve_mono h hj hl).1
  omega
theorem nextR_eq {c : List Row} {f : Int} {n : Nat} (hn : n ≤ c.length) (h1 : ∀ j, j < n → (c.getD j row0).flow ≤ f) (h2 : n < c.length → f < (c.getD n row0).flow) : n = nextR c f := by
  have hle := nextR_le c f
  rcases Nat.lt_trichotomy n (nextR c f) with hlt | heq | hgt
  · have a := nextR_lt c f n hlt
    have b := h2 (by omega)
    omega
  · exact heq
  · have a := h1 _ hgt
    have b := nextR_at c f (by omega)
    omega
/-- a division, rounded down or up -/
def rnd (up : Bool) (n k : Int) : Int := if up then ceilD n k else floorD n k
/-- the curve at a flow -/
def curveAt (up : Bool) (c : List Row) (f : Int) : Int :=
  if nextR c f = 0 then (c.getD 0 row0).level
  else if nextR c f = c.length then (c.getD (c.length - 1) row0).level
  else (c.getD (nextR c f - 1) row0).level + rnd up ((f - (c.getD (nextR c f - 1) row0).flow) * ((c.getD (nextR c f) row0).level - (c.getD (nextR c f - 1) row0).level)) ((c.getD (nextR c f) row0).flow - (c.getD (nextR c f - 1) row0).flow)
def levelAt (x : Reach) (f : Bd) : Bd := ⟨max x.weir (curveAt false x.curve f.lo), max x.weir (curveAt true x.curve f.hi)⟩
/-- between two neighbouring rows -/
structure Between (c : List Row) (f : Int) (n : Nat) : Prop where
  pos : 0 < n
  lt : n < c.length
  f0 : 0 ≤ (c.getD (n - 1) row0).flow
  f1 : (c.getD (n - 1) row0).flow ≤ f
  f2 : f < (c.getD n row0).flow
  f3 : (c.getD n row0).flow ≤ 10000000000
  l0 : 0 ≤ (c.getD (n - 1) row0).level
  l1 : (c.getD (n - 1) row0).level ≤ (c.getD n row0).level
  l2 : (c.getD n row0).level ≤ 10000
theorem between_next {c : List Row} (h : curveB c = true) {f : Int} (h0 : nextR c f ≠ 0) (h1 : nextR c f ≠ c.length) : Between c f (nextR c f) := by
  have hle := nextR_le c f
  have a := curve_at h (nextR c f - 1) (by omega)
  have b := curve_at h (nextR c f) (by omega)
  have d := curve_step h (show nextR c f - 1 + 1 < c.length by omega)
  rw [Nat.sub_add_cancel (by omega)] at d
  exact ⟨by omega, by omega, a.1.1, nextR_lt c f _ (by omega), nextR_at c f (by omega), b.1.2, a.2.1, d.2, b.2.2⟩
theorem floor_bd {a b : Int} (ha : 0 ≤ a) (hb : 0 < b) {m : Int} (hm : a ≤ m * b) : 0 ≤ floorD a b ∧ floorD a b ≤ m := by
  unfold floorD
  exact ⟨Int.ediv_nonneg ha (by omega), Int.ediv_le_of_le_mul hb hm⟩
theorem ceil_bd {a b : Int} (ha : 0 ≤ a) (hb : 0 < b) {m : Int} (hm : a ≤ m * b) : 0 ≤ ceilD a b ∧ ceilD a b ≤ m := by
  unfold ceilD
  have h1 : -a / b ≤ 0 := by
    have := Int.ediv_le_of_le_mul hb (show -a ≤ 0 * b by omega)
    exact this
  have h2 : -m ≤ -a / b := (Int.le_ediv_iff_mul_le hb).2 (by rw [Int.neg_mul]; omega)
  omega
theorem Between.rnd_bd {c : List Row} {f : Int} {n : Nat} (h : Between c f n) (up : Bool) :
    0 ≤ rnd up ((f - (c.getD (n - 1) row0).flow) * ((c.getD n row0).level - (c.getD (n - 1) row0).level)) ((c.getD n row0).flow - (c.getD (n - 1) row0).flow) ∧
      rnd up ((f - (c.getD (n - 1) row0).flow) * ((c.getD n row0).level - (c.getD (n - 1) row0).level)) ((c.getD n row0).flow - (c.getD (n - 1) row0).flow) ≤ (c.getD n row0).level - (c.getD (n - 1) row0).level := by
  obtain ⟨_, _, _, h1, h2, _, _, h4, _⟩ := h
  have ha : 0 ≤ (f - (c.getD (n - 1) row0).flow) * ((c.getD n row0).level - (c.getD (n - 1) row0).level) := Int.mul_nonneg (by omega) (by omega)
  have hm : (f - (c.getD (n - 1) row0).flow) * ((c.getD n row0).level - (c.getD (n - 1) row0).level) ≤ ((c.getD n row0).level - (c.getD (n - 1) row0).level) * ((c.getD n row0).flow - (c.getD (n - 1) row0).flow) := by
    rw [Int.mul_comm]
    exact Int.mul_le_mul_of_nonneg_left (by omega) (by omega)
  unfold rnd
  cases up
  · exact floor_bd ha (by omega) hm
  · exact ceil_bd ha (by omega) hm
theorem curveAt_bd {c : List Row} (h : curveB c = true) (hl : 2 ≤ c.length) (up : Bool) (f : Int) : 0 ≤ curveAt up c f ∧ curveAt up c f ≤ 10000 := by
  unfold curveAt
  by_cases h0 : nextR c f = 0
  · rw [if_pos h0]; exact (curve_at h 0 (by omega)).2
  · rw [if_neg h0]
    by_cases h1 : nextR c f = c.length
    · rw [if_pos h1]; exact (curve_at h _ (by omega)).2
    · rw [if_neg h1]
      have b := between_next h h0 h1
      have r := b.rnd_bd up
      have := b.l0
      have := b.l2
      omega
/-- the bed at a place: the bottom, and all shoals there -/
def growB (up : Bool) (g d : Int) : Int := rnd up (g * d) 24
def bedOf (s : Shoal) (hour : Int) : Bd := ⟨s.bed.lo + floorD (s.grow.lo * max 0 (hour - s.sounded)) 24, s.bed.hi + ceilD (s.grow.hi * max 0 (hour - s.sounded)) 24⟩
def Bd.top (a b : Bd) : Bd := ⟨max a.lo b.lo, max a.hi b.hi⟩
def topOf (hour : Int) (b : Bd) (l : List Shoal) : Bd := l.foldl (fun b s => b.top (bedOf s hour)) b
/-- the reach of a place -/
def reachOf : List Reach → Int → Nat
  | [], _ => 0
  | x :: l, p => if p < x.len then 0 else reachOf l (p - x.len) + 1
def shoalsAt (l : List Shoal) (p : Int) : List Shoal := l.filter fun s => decide (s.place = p)
def bedAt (r : River) (p hour : Int) : Bd := topOf hour (r.reaches.getD (reachOf r.reaches p) reach0).bottom (shoalsAt r.shoals p)
def depthAt (r : River) (sides : List (List Bd)) (p hour : Int) : Bd :=
  let level := levelAt (r.reaches.getD (reachOf r.reaches p) reach0) (flowIn r.reaches sides (reachOf r.reaches p) hour)
  let bed := bedAt r p hour
  ⟨max 0 (level.lo - bed.hi), max 0 (level.hi - bed.lo)⟩
theorem placesOf_cons (x : Reach) (l : List Reach) : placesOf (x :: l) = x.len + placesOf l := by simp [placesOf]
theorem placesOf_succ {l : List Reach} {k : Nat} (hk : k < l.length) : placesOf (l.take (k + 1)) = placesOf (l.take k) + (l.getD k reach0).len := by
  unfold placesOf
  rw [List.take_succ_eq_append_getElem hk, List.map_append, List.sum_append]
  simp [hk]
theorem reachOf_lt : ∀ (l : List Reach) (p : Int), 0 ≤ p → p < placesOf l → reachOf l p < l.length
  | [], p, h0, h => by simp [placesOf] at h; omega
  | x :: l, p, h0, h => by
    rw [reachOf]
    split
    · simp
    · have := reachOf_lt l (p - x.len) (by omega) (by rw [placesOf_cons] at h; omega)
      simp
      omega
theorem places_nonneg : ∀ (l : List Reach), (∀ x ∈ l, 0 ≤ x.len) → 0 ≤ placesOf l
  | [], _ => by simp [placesOf]
  | x :: l, h => by
    have h1 := h x (by simp)
    have h2 := places_nonneg l fun y hy => h y (by simp [hy])
    rw [placesOf_cons]
    omega
theorem places_le : ∀ (l : List Reach) {m : Int}, (∀ x ∈ l, x.len ≤ m) → placesOf l ≤ l.length * m
  | [], _, _ => by simp [placesOf]
  | x :: l, m, h => by
    have h1 := h x (by simp)
    have h2 := places_le l fun y hy => h y (by simp [hy])
    have e : ((x :: l).length : Int) * m = l.length * m + m := by rw [List.length_cons, Int.natCast_add, Int.add_mul]; simp
    rw [placesOf_cons, e]
    omega
theorem reachOf_eq : ∀ (l : List Reach) (p : Int) (i : Nat), (∀ x ∈ l, 0 ≤ x.len) → i < l.length → placesOf (l.take i) ≤ p → p < placesOf (l.take (i + 1)) → reachOf l p = i
  | [], p, i, _, hi, _, _ => by simp at hi
  | x :: l, p, 0, h, hi, h1, h2 => by
    rw [reachOf, if_pos]
    simpa [placesOf] using h2
  | x :: l, p, i + 1, h, hi, h1, h2 => by
    rw [List.take_succ_cons, placesOf_cons] at h1 h2
    have h3 := places_nonneg (l.take i) fun y hy => h y (by simp [List.mem_of_mem_take hy])
    rw [reachOf, if_neg (by omega), reachOf_eq l (p - x.len) i (fun y hy => h y (by simp [hy])) (by simpa using hi) (by omega) (by omega)]
/-- what holds of a river that is valid -/
structure RiverOk (r : River) : Prop where
  some : 1 ≤ r.reaches.length ∧ r.reaches.length ≤ 20
  few : r.shoals.length ≤ 40
  reach : ∀ i, i < r.reaches.length → ReachOk (r.reaches.getD i reach0)
  shoal : ∀ i, i < r.shoals.length → shoalB (placesOf r.reaches) (r.shoals.getD i shoal0) = true
  places : 1 ≤ placesOf r.reaches ∧ placesOf r.reaches ≤ 100000
theorem getD_mem {α : Type} {l : List α} {d : α} {i : Nat} (h : i < l.length) : l.getD i d ∈ l := by
  rw [List.getD_eq_getElem?_getD, List.getElem?_eq_getElem h]
  exact List.getElem_mem h
theorem riverB_ok {r : River} (h : riverB r = true) : RiverOk r := by
  simp only [riverB, Bool.and_eq_true, inB_iff, decide_eq_true_eq] at h
  obtain ⟨h1, h2, h3, h4⟩ := h
  have hr := fun x hx => reachB_ok (List.all_eq_true.1 h3 x hx)
  refine ⟨by omega, h2, fun i hi => hr _ (getD_mem hi), fun i hi => List.all_eq_true.1 h4 _ (getD_mem hi), ?_, ?_⟩
  · have h5 := places_nonneg r.reaches.tail fun x hx => by have := (hr x (List.mem_of_mem_tail hx)).len; omega
    match e : r.reaches, h1 with
    | x :: l, _ =>
      rw [e] at h5 hr
      have := (hr x (by simp)).len
      rw [placesOf_cons]
      simp at h5
      omega
  · have h5 := places_le r.reaches (m := 5000) fun x hx => (hr x hx).len.2
    omega

/-- the reference's way of rounding -/
def floorR (n k : Int) : Int := if n < n.tdiv k * k then n.tdiv k - 1 else n.tdiv k
def ceilR (n k : Int) : Int := if n.tdiv k * k < n then n.tdiv k + 1 else n.tdiv k
theorem floorR_eq {n k : Int} (hk : 0 < k) : floorR n k = floorD n k := by
  rw [← downD_eq hk]
  unfold floorR downD
  have h1 := Int.tmod_add_mul_tdiv n k
  rw [Int.mul_comm] at h1
  by_cases h : n.tmod k < 0
  · rw [if_pos h, if_pos (by omega)]
  · rw [if_neg h, if_neg (by omega)]
theorem ceilR_eq {n k : Int} (hk : 0 < k) : ceilR n k = ceilD n k := by
  have h0 : ceilD n k = -(downD (-n) k) := by rw [downD_eq hk]; rfl
  rw [h0]
  unfold ceilR downD
  have h1 := Int.tmod_add_mul_tdiv n k
  rw [Int.mul_comm] at h1
  have h2 : (-n).tmod k = -(n.tmod k) := Int.neg_tmod _ _
  have h3 : (-n).tdiv k = -(n.tdiv k) := Int.neg_tdiv _ _
  rw [h2, h3]
  by_cases h : n.tdiv k * k < n
  · rw [if_pos h, if_pos (by omega)]; omega
  · rw [if_neg h, if_neg (by omega)]; omega
end Go.Proofs.Ytncnlhkmdljgpaa
/- The reference's curve is the program's; bounds of flows. No program in sight. -/
namespace Go.Proofs.Ytncnlhkmdljgpaa

theorem rnd_zero (up : Bool) (k : Int) : rnd up 0 k = 0 := by
  cases up <;> simp [rnd, ceilD, floorD]
theorem rnd_whole (up : Bool) {m k : Int} (hk : 0 < k) : rnd up (k * m) k = m := by
  cases up
  · simp only [rnd, floorD, Bool.false_eq_true, if_false]
    exact Int.mul_ediv_cancel_left m (by omega)
  · simp only [rnd, ceilD, if_true]
    rw [← Int.mul_neg, Int.mul_ediv_cancel_left (-m) (by omega)]
    omega
section
variable {c : List Row} {f : Int}
theorem curve_low (h : curveB c = true) (hl : 2 ≤ c.length) (up : Bool) (hf : f ≤ (c.getD 0 row0).flow) : curveAt up c f = (c.getD 0 row0).level := by
  rcases Int.lt_or_eq_of_le hf with hlt | heq
  · have e : nextR c f = 0 := (nextR_eq (Nat.zero_le _) (fun j hj => absurd hj (by omega)) (fun _ => hlt)).symm
    rw [curveAt, if_pos e]
  · have e : nextR c f = 1 := by
      refine (nextR_eq (by omega) (fun j hj => ?_) (fun _ => ?_)).symm
      · obtain rfl : j = 0 := by omega
        omega
      · have := curve_lt h (show 0 < 1 by omega) (by omega)
        omega
    rw [curveAt, e, if_neg (by omega), if_neg (by omega)]
    show (c.getD 0 row0).level + rnd up ((f - (c.getD 0 row0).flow) * _) _ = _
    rw [heq, Int.sub_self, Int.zero_mul, rnd_zero]
    omega
theorem curve_high (h : curveB c = true) (hl : 2 ≤ c.length) (up : Bool) (hf : (c.getD (c.length - 1) row0).flow ≤ f) : curveAt up c f = (c.getD (c.length - 1) row0).level := by
  have e : nextR c f = c.length := (nextR_eq (Nat.le_refl _) (fun j hj => by have := (curve_mono h (show j ≤ c.length - 1 by omega) (by omega)).1; omega) (fun hh => absurd hh (by omega))).symm
  rw [curveAt, e, if_neg (by omega), if_pos rfl]
theorem curve_mid (h : curveB c = true) (up : Bool) {i : Nat} (hi : i + 1 < c.length) (h1 : (c.getD i row0).flow < f) (h2 : f ≤ (c.getD (i + 1) row0).flow) (h3 : f < (c.getD (c.length - 1) row0).flow) :
    curveAt up c f = (c.getD i row0).level + rnd up ((f - (c.getD i row0).flow) * ((c.getD (i + 1) row0).level - (c.getD i row0).level)) ((c.getD (i + 1) row0).flow - (c.getD i row0).flow) := by
  rcases Int.lt_or_eq_of_le h2 with hlt | heq
  · have e : nextR c f = i + 1 := (nextR_eq (by omega) (fun j hj => by have := (curve_mono h (show j ≤ i by omega) (by omega)).1; omega) (fun _ => hlt)).symm
    rw [curveAt, e, if_neg (by omega), if_neg (by omega), Nat.add_sub_cancel]
  · have hne : i + 1 ≠ c.length - 1 := fun e => by rw [e] at heq; omega
    have e : nextR c f = i + 2 := (nextR_eq (by omega) (fun j hj => by have := (curve_mono h (show j ≤ i + 1 by omega) (by omega)).1; omega) (fun _ => by have := curve_lt h (show i + 1 < i + 2 by omega) (by omega); omega)).symm
    rw [curveAt, e, if_neg (by omega), if_neg (by omega)]
    show (c.getD (i + 1) row0).level + rnd up ((f - (c.getD (i + 1) row0).flow) * _) _ = _
    rw [← heq, Int.sub_self, Int.zero_mul, rnd_zero, rnd_whole up (by omega)]
    omega
end

/-- what holds of a forecast that is valid -/
structure StartOk (r : River) (sides : List (List Bd)) : Prop where
  river : RiverOk r
  many : sides.length = r.reaches.length
  hours : 1 ≤ (sides.getD 0 []).length ∧ (sides.getD 0 []).length ≤ 400
  same : ∀ i, i < sides.length → (sides.getD i []).length = (sides.getD 0 []).length
  side : ∀ i k, i < sides.length → k < (sides.getD 0 []).length → 0 ≤ ((sides.getD i []).getD k bd0).lo ∧ ((sides.getD i []).getD k bd0).lo ≤ ((sides.getD i []).getD k bd0).hi ∧ ((sides.getD i []).getD k bd0).hi ≤ 10000000000
theorem startErr_ok {r : River} {sides : List (List Bd)} (h : startErr r sides = 0) : riverB r = true ∧ StartOk r sides := by
  unfold startErr at h
  by_cases h1 : riverB r = false
  · rw [if_pos h1] at h; omega
  · rw [if_neg h1] at h
    by_cases h2 : sides.length ≠ r.reaches.length ∨ (sides.getD 0 []).length = 0
    · rw [if_pos h2] at h; omega
    · rw [if_neg h2] at h
      by_cases h3 : (sides.all fun l => decide (l.length = (sides.getD 0 []).length)) = false
      · rw [if_pos h3] at h; omega
      · rw [if_neg h3] at h
        by_cases h4 : 400 < (sides.getD 0 []).length
        · rw [if_pos h4] at h; omega
        · rw [if_neg h4] at h
          by_cases h5 : (sides.all fun l => l.all (bdOk 0 10000000000)) = false
          · rw [if_pos h5] at h; omega
          · have hr : riverB r = true := by simpa using h1
            have h3' := List.all_eq_true.1 (by simpa using h3 : (sides.all fun l => decide (l.length = (sides.getD 0 []).length)) = true)
            have h5' := List.all_eq_true.1 (by simpa using h5 : (sides.all fun l => l.all (bdOk 0 10000000000)) = true)
            have hs : ∀ i, i < sides.length → (sides.getD i []).length = (sides.getD 0 []).length := fun i hi => of_decide_eq_true (h3' _ (getD_mem hi))
            refine ⟨hr, riverB_ok hr, by omega, by omega, hs, fun i k hi hk => ?_⟩
            exact bdOk_iff.1 (List.all_eq_true.1 (h5' _ (getD_mem hi)) _ (getD_mem (by rw [hs i hi]; exact hk)))
/-- bounds of a flow -/
theorem flowIn_bd {r : River} {sides : List (List Bd)} (h : StartOk r sides) : ∀ (i : Nat) (t : Int), i < r.reaches.length → t < (sides.getD 0 []).length →
    0 ≤ (flowIn r.reaches sides i t).lo ∧ (flowIn r.reaches sides i t).lo ≤ (flowIn r.reaches sides i t).hi ∧ (flowIn r.reaches sides i t).hi ≤ ((i : Int) + 1) * 10000000000
  | 0, t, hi, ht => by
    rw [flowIn]
    by_cases hn : t < 0
    · rw [if_pos hn]
      have := (h.river.reach 0 hi).base
      omega
    · rw [if_neg hn]
      have := h.side 0 t.toNat (by have := h.many; omega) (by omega)
      omega
  | i + 1, t, hi, ht => by
    rw [flowIn]
    by_cases hn : t < 0
    · rw [if_pos hn]
      have := (h.river.reach (i + 1) hi).base
      omega
    · rw [if_neg hn]
      have h1 := h.side (i + 1) t.toNat (by have := h.many; omega) (by omega)
      have h2 := (h.river.reach i (by omega)).delay
      have h3 := flowIn_bd h i (t - (r.reaches.getD i reach0).delay) (by omega) (by omega)
      simp only [Bd.add]
      omega
theorem flowIn_small {r : River} {sides : List (List Bd)} (h : StartOk r sides) (i : Nat) (t : Int) (hi : i < r.reaches.length) (ht : t < (sides.getD 0 []).length) :
    0 ≤ (flowIn r.reaches sides i t).lo ∧ (flowIn r.reaches sides i t).lo ≤ (flowIn r.reaches sides i t).hi ∧ (flowIn r.reaches sides i t).hi ≤ 200000000000 := by
  have h1 := flowIn_bd h i t hi ht
  have h2 := h.river.some
  omega
/-- bounds of a level -/
theorem levelAt_bd {x : Reach} (h : ReachOk x) (f : Bd) : (0 ≤ (levelAt x f).lo ∧ (levelAt x f).lo ≤ 10000) ∧ 0 ≤ (levelAt x f).hi ∧ (levelAt x f).hi ≤ 10000 := by
  have h1 := curveAt_bd h.curve h.rows.1 false f.lo
  have h2 := curveAt_bd h.curve h.rows.1 true f.hi
  have h3 := h.weir
  simp only [levelAt]
  omega
theorem floor24 {n m : Int} (h : -m * 24 ≤ n) (h' : n ≤ m * 24) : -m ≤ floorD n 24 ∧ floorD n 24 ≤ m := by
  unfold floorD
  omega
theorem ceil24 {n m : Int} (h : -m * 24 ≤ n) (h' : n ≤ m * 24) : -m ≤ ceilD n 24 ∧ ceilD n 24 ≤ m := by
  unfold ceilD
  omega
/-- what a shoal is in an hour -/
theorem bedOf_bd {n : Int} {s : Shoal} (h : shoalB n s = true) {t : Int} (h1 : -400 ≤ t) (h2 : t ≤ 400) :
    (0 ≤ max 0 (t - s.sounded) ∧ max 0 (t - s.sounded) ≤ 800) ∧ (-400000 ≤ s.grow.lo * max 0 (t - s.sounded) ∧ s.grow.lo * max 0 (t - s.sounded) ≤ 400000) ∧ (-400000 ≤ s.grow.hi * max 0 (t - s.sounded) ∧ s.grow.hi * max 0 (t - s.sounded) ≤ 400000) ∧
      (-20000 ≤ (bedOf s t).lo ∧ (bedOf s t).lo ≤ 30000) ∧ -20000 ≤ (bedOf s t).hi ∧ (bedOf s t).hi ≤ 30000 := by
  simp only [shoalB, Bool.and_eq_true, inB_iff, bdOk_iff] at h
  obtain ⟨hp, hb, hs, hg⟩ := h
  have hd : 0 ≤ max 0 (t - s.sounded) ∧ max 0 (t - s.sounded) ≤ 800 := by omega
  have key : ∀ g : Int, -500 ≤ g → g ≤ 500 → -400000 ≤ g * max 0 (t - s.sounded) ∧ g * max 0 (t - s.sounded) ≤ 400000 := fun g g1 g2 => by
    have a := Int.mul_le_mul_of_nonneg_right g2 hd.1
    have b := Int.mul_le_mul_of_nonneg_right g1 hd.1
    omega
  have k1 := key s.grow.lo hg.1 (by omega)
  have k2 := key s.grow.hi (by omega) hg.2.2
  have f1 := floor24 (n := s.grow.lo * max 0 (t - s.sounded)) (m := 16667) (by omega) (by omega)
  have f2 := ceil24 (n := s.grow.hi * max 0 (t - s.sounded)) (m := 16667) (by omega) (by omega)
  refine ⟨hd, k1, k2, ?_⟩
  simp only [bedOf]
  omega
end Go.Proofs.Ytncnlhkmdljgpaa
/- Words for a river that is read: reaches with their curves, shoals, lists of bounds. -/
namespace Go.Proofs.Ytncnlhkmdljgpaa
open Go.RowKit

def bdC (b : Bd) : List Value := [.int .i64 b.lo, .int .i64 b.hi]
def bdsC (l : List Bd) : List Value := l.flatMap bdC
def rowC (r : Row) : List Value := [.int .i64 r.flow, .int .i64 r.level]
def rowsC (l : List Row) : List Value := l.flatMap rowC
def reachC (p : Reach × Value) : List Value := [.int .i64 p.1.len, .int .i64 p.1.delay, .int .i64 p.1.base.lo, .int .i64 p.1.base.hi, p.2, .int .i64 p.1.weir, .int .i64 p.1.bottom.lo, .int .i64 p.1.bottom.hi, .int .i64 p.1.flood]
def shoalC (s : Shoal) : List Value := [.int .i64 s.place, .int .i64 s.bed.lo, .int .i64 s.bed.hi, .int .i64 s.sounded, .int .i64 s.grow.lo, .int .i64 s.grow.hi]
def shoalsC (l : List Shoal) : List Value := l.flatMap shoalC
theorem bdC_len (b : Bd) : (bdC b).length = 2 := rfl
theorem rowC_len (b : Row) : (rowC b).length = 2 := rfl
theorem reachC_len (p : Reach × Value) : (reachC p).length = 9 := rfl
theorem shoalC_len (s : Shoal) : (shoalC s).length = 6 := rfl
theorem bdsC_len (l : List Bd) : (bdsC l).length = l.length * 2 := flat_len bdC_len l
theorem rowsC_len (l : List Row) : (rowsC l).length = l.length * 2 := flat_len rowC_len l
theorem shoalsC_len (l : List Shoal) : (shoalsC l).length = l.length * 6 := flat_len shoalC_len l
theorem bdsC_one (l : List Bd) : ∀ u ∈ bdsC l, u.oneCell' = true := flat_one (by intro x u hu; simp [bdC] at hu; rcases hu with rfl | rfl <;> rfl) l
theorem rowsC_one (l : List Row) : ∀ u ∈ rowsC l, u.oneCell' = true := flat_one (by intro x u hu; simp [rowC] at hu; rcases hu with rfl | rfl <;> rfl) l
theorem shoalsC_one (l : List Shoal) : ∀ u ∈ shoalsC l, u.oneCell' = true := flat_one (by intro x u hu; simp [shoalC] at hu; rcases hu with rfl | rfl | rfl | rfl | rfl | rfl <;> rfl) l
theorem bdsC_snoc (l : List Bd) (b : Bd) : bdsC (l ++ [b]) = bdsC l ++ bdC b := by simp [bdsC]

/-- reaches that are read: vs are their curves -/
structure RdReaches (w : World) (B : Nat) (v : Value) (l : List Reach) (vs : List Value) : Prop where
  len : vs.length = l.length
  rd : Rd w B 9 v l.length ((l.zip vs).flatMap reachC)
  curve : ∀ i, i < l.length → Rd w B 2 (vs.getD i undef) (l.getD i reach0).curve.length (rowsC (l.getD i reach0).curve)
/-- a river that is read -/
structure RdRiver (w : World) (B : Nat) (v u : Value) (r : River) (vs : List Value) : Prop where
  reaches : RdReaches w B v r.reaches vs
  shoals : Rd w B 6 u r.shoals.length (shoalsC r.shoals)
/-- lists of bounds that are read -/
structure RdSides (w : World) (B : Nat) (v : Value) (l : List (List Bd)) (vs : List Value) : Prop where
  len : vs.length = l.length
  rd : Rd w B 1 v l.length vs
  side : ∀ i, i < l.length → Rd w B 2 (vs.getD i undef) (l.getD i []).length (bdsC (l.getD i []))

section
variable {w w' : World} {B B' : Nat} {v u : Value} {l : List Reach} {vs : List Value} {r : River} {s : List (List Bd)}
theorem RdReaches.keep (h : RdReaches w B v l vs) (hk : ∀ p : Addr, p.block < B → w'.cell? p = w.cell? p) : RdReaches w' B v l vs := ⟨h.len, h.rd.keep hk, fun i hi => (h.curve i hi).keep hk⟩
theorem RdReaches.more (h : RdReaches w B v l vs) (hB : B ≤ B') : RdReaches w B' v l vs := ⟨h.len, h.rd.more hB, fun i hi => (h.curve i hi).more hB⟩
theorem RdRiver.keep (h : RdRiver w B v u r vs) (hk : ∀ p : Addr, p.block < B → w'.cell? p = w.cell? p) : RdRiver w' B v u r vs := ⟨h.reaches.keep hk, h.shoals.keep hk⟩
theorem RdRiver.more (h : RdRiver w B v u r vs) (hB : B ≤ B') : RdRiver w B' v u r vs := ⟨h.reaches.more hB, h.shoals.more hB⟩
theorem RdRiver.below (h : RdRiver w B v u r vs) (hb : Below B w w') : RdRiver w' B v u r vs := h.keep fun _ hp => hb.cell hp
theorem RdRiver.go (h : RdRiver w w.heap.size v u r vs) (hb : Below w.heap.size w w') : RdRiver w' w'.heap.size v u r vs := (h.below hb).more hb.size
theorem RdRiver.alloc (h : RdRiver w B v u r vs) (hB : B ≤ w.heap.size) (o : Obj) : RdRiver (w.alloc o) B v u r vs := h.keep fun p hp => World.cell?_alloc_lt w o p (by omega)
theorem RdReaches.below (h : RdReaches w B v l vs) (hb : Below B w w') : RdReaches w' B v l vs := h.keep fun _ hp => hb.cell hp
theorem RdReaches.alloc (h : RdReaches w B v l vs) (hB : B ≤ w.heap.size) (o : Obj) : RdReaches (w.alloc o) B v l vs := h.keep fun p hp => World.cell?_alloc_lt w o p (by omega)
theorem RdReaches.drewN (h : RdReaches w B v l vs) (k : Nat) : RdReaches (w.drewN k) B v l vs := h.keep fun _ _ => rfl
theorem RdRiver.drewN (h : RdRiver w B v u r vs) (k : Nat) : RdRiver (w.drewN k) B v u r vs := h.keep fun _ _ => rfl
theorem RdSides.keep (h : RdSides w B v s vs) (hk : ∀ p : Addr, p.block < B → w'.cell? p = w.cell? p) : RdSides w' B v s vs := ⟨h.len, h.rd.keep hk, fun i hi => (h.side i hi).keep hk⟩
theorem RdSides.more (h : RdSides w B v s vs) (hB : B ≤ B') : RdSides w B' v s vs := ⟨h.len, h.rd.more hB, fun i hi => (h.side i hi).more hB⟩
theorem RdSides.below (h : RdSides w B v s vs) (hb : Below B w w') : RdSides w' B v s vs := h.keep fun _ hp => hb.cell hp
theorem RdSides.go (h : RdSides w w.heap.size v s vs) (hb : Below w.heap.size w w') : RdSides w' w'.heap.size v s vs := (h.below hb).more hb.size
theorem RdSides.alloc (h : RdSides w B v s vs) (hB : B ≤ w.heap.size) (o : Obj) : RdSides (w.alloc o) B v s vs := h.keep fun p hp => World.cell?_alloc_lt w o p (by omega)
theorem RdSides.drewN (h : RdSides w B v s vs) (k : Nat) : RdSides (w.drewN k) B v s vs := h.keep fun _ _ => rfl
end

/-- the cells of an element -/
theorem bds_cells (l : List Bd) (k : Nat) (hk : k < l.length) (w : World) (B : Nat) (A : Option Addr) (n c : Nat) (hr : Rd w B 2 (.slice A n c) n (bdsC l)) :
    ∃ b off, A = some ⟨b, off, none⟩ ∧ b < B ∧ w.cell? ⟨b, off + k * 2, none⟩ = some (.int .i64 (l.getD k bd0).lo) ∧ w.cell? ⟨b, off + k * 2 + 1, none⟩ = some (.int .i64 (l.getD k bd0).hi) := by
  have hl : n * 2 = l.length * 2 := by rw [← hr.len, bdsC_len]
  obtain ⟨b, off, rfl, hb, hc⟩ := hr.at_ (by omega)
  have e : l.getD k bd0 = l[k] := by simp [hk]
  rw [e]
  exact ⟨b, off, rfl, hb, hc (k * 2) _ (flat_get bdC_len l k hk 0 (by omega)), hc (k * 2 + 1) _ (flat_get bdC_len l k hk 1 (by omega))⟩
theorem rows_cells (l : List Row) (k : Nat) (hk : k < l.length) (w : World) (B : Nat) (A : Option Addr) (n c : Nat) (hr : Rd w B 2 (.slice A n c) n (rowsC l)) :
    ∃ b off, A = some ⟨b, off, none⟩ ∧ b < B ∧ w.cell? ⟨b, off + k * 2, none⟩ = some (.int .i64 (l.getD k row0).flow) ∧ w.cell? ⟨b, off + k * 2 + 1, none⟩ = some (.int .i64 (l.getD k row0).level) := by
  have hl : n * 2 = l.length * 2 := by rw [← hr.len, rowsC_len]
  obtain ⟨b, off, rfl, hb, hc⟩ := hr.at_ (by omega)
  have e : l.getD k row0 = l[k] := by simp [hk]
  rw [e]
  exact ⟨b, off, rfl, hb, hc (k * 2) _ (flat_get rowC_len l k hk 0 (by omega)), hc (k * 2 + 1) _ (flat_get rowC_len l k hk 1 (by omega))⟩
/-- the six cells of a shoal -/
structure ShoalAt (w : World) (b o : Nat) (s : Shoal) : Prop where
  c0 : w.cell? ⟨b, o, none⟩ = some (.int .i64 s.place)
  c1 : w.cell? ⟨b, o + 1, none⟩ = some (.int .i64 s.bed.lo)
  c2 : w.cell? ⟨b, o + 2, none⟩ = some (.int .i64 s.bed.hi)
  c3 : w.cell? ⟨b, o + 3, none⟩ = some (.int .i64 s.sounded)
  c4 : w.cell? ⟨b, o + 4, none⟩ = some (.int .i64 s.grow.lo)
  c5 : w.cell? ⟨b, o + 5, none⟩ = some (.int .i64 s.grow.hi)
theorem shoals_cells (l : List Shoal) (k : Nat) (hk : k < l.length) (w : World) (B : Nat) (A : Option Addr) (n c : Nat) (hr : Rd w B 6 (.slice A n c) n (shoalsC l)) :
    ∃ b off, A = some ⟨b, off, none⟩ ∧ b < B ∧ ShoalAt w b (off + k * 6) (l.getD k shoal0) := by
  have hl : n * 6 = l.length * 6 := by rw [← hr.len, shoalsC_len]
  obtain ⟨b, off, rfl, hb, hc⟩ := hr.at_ (by omega)
  have e : l.getD k shoal0 = l[k] := by simp [hk]
  rw [e]
  have g := fun j hj => flat_get shoalC_len l k hk j hj
  exact ⟨b, off, rfl, hb, hc (k * 6) _ (g 0 (by omega)), hc (k * 6 + 1) _ (g 1 (by omega)), hc (k * 6 + 2) _ (g 2 (by omega)), hc (k * 6 + 3) _ (g 3 (by omega)), hc (k * 6 + 4) _ (g 4 (by omega)), hc (k * 6 + 5) _ (g 5 (by omega))⟩
/-- the nine cells of a reach -/
structure ReachAt (w : World) (b o : Nat) (x : Reach) (v : Value) : Prop where
  c0 : w.cell? ⟨b, o, none⟩ = some (.int .i64 x.len)
  c1 : w.cell? ⟨b, o + 1, none⟩ = some (.int .i64 x.delay)
  c2 : w.cell? ⟨b, o + 2, none⟩ = some (.int .i64 x.base.lo)
  c3 : w.cell? ⟨b, o + 3, none⟩ = some (.int .i64 x.base.hi)
  c4 : w.cell? ⟨b, o + 4, none⟩ = some v
  c5 : w.cell? ⟨b, o + 5, none⟩ = some (.int .i64 x.weir)
  c6 : w.cell? ⟨b, o + 6, none⟩ = some (.int .i64 x.bottom.lo)
  c7 : w.cell? ⟨b, o + 7, none⟩ = some (.int .i64 x.bottom.hi)
  c8 : w.cell? ⟨b, o + 8, none⟩ = some (.int .i64 x.flood)
theorem reaches_cells {l : List Reach} {vs : List Value} {w : World} {B : Nat} {A : Option Addr} {n c : Nat} (hr : RdReaches w B (.slice A n c) l vs) (k : Nat) (hk : k < l.length) :
    ∃ b off, A = some ⟨b, off, none⟩ ∧ b < B ∧ ReachAt w b (off + k * 9) (l.getD k reach0) (vs.getD k undef) := by
  obtain ⟨hv, hrd, _⟩ := hr
  have hn : n = l.length := by obtain ⟨_, _, _, e, _⟩ := hrd; injection e
  subst hn
  have hz : k < (l.zip vs).length := by rw [List.length_zip, hv]; omega
  obtain ⟨b, off, rfl, hb, hc⟩ := hrd.at_ (by omega)
  have e : l.getD k reach0 = l[k] := by simp [hk]
  have e' : vs.getD k undef = vs[k]'(by omega) := by simp [show k < vs.length by omega]
  have g := fun j hj => flat_get reachC_len (l.zip vs) k hz j hj
  simp only [List.getElem_zip] at g
  rw [e, e']
  exact ⟨b, off, rfl, hb, hc (k * 9) _ (g 0 (by omega)), hc (k * 9 + 1) _ (g 1 (by omega)), hc (k * 9 + 2) _ (g 2 (by omega)), hc (k * 9 + 3) _ (g 3 (by omega)), hc (k * 9 + 4) _ (g 4 (by omega)), hc (k * 9 + 5) _ (g 5 (by omega)), hc (k * 9 + 6) _ (g 6 (by omega)), hc (k * 9 + 7) _ (g 7 (by omega)), hc (k * 9 + 8) _ (g 8 (by omega))⟩
/-- a list among lists of bounds -/
theorem sides_cell {l : List (List Bd)} {vs : List Value} {w : World} {B : Nat} {A : Option Addr} {n c : Nat} (hr : RdSides w B (.slice A n c) l vs) (k : Nat) (hk : k < l.length) :
    ∃ b off, A = some ⟨b, off, none⟩ ∧ b < B ∧ w.cell? ⟨b, off + k, none⟩ = some (vs.getD k undef) := by
  obtain ⟨hv, hrd, _⟩ := hr
  have hn : n = l.length := by obtain ⟨_, _, _, e, _⟩ := hrd; injection e
  subst hn
  obtain ⟨b, off, rfl, hb, hc⟩ := hrd.at_ (by omega)
  exact ⟨b, off, rfl, hb, hc k _ (by simp [show k < vs.length by omega])⟩
end Go.Proofs.Ytncnlhkmdljgpaa
