/- WsMap, ExX12, X12, E26, ExX13, X13, E27, WsYard, ExX14, X14, WsPls, ExX15, X15, ExX16, X16, ExX17, X17, ExX18: what WashPlansProof needs of them (merged by trimpack.py). -/
import Derived.Test.YtdkedhcbdbpccaaPlansT3
set_option linter.unusedVariables false
set_option linter.unusedSimpArgs false
namespace Go.Proofs.Ytdkedhcbdbpccaa
open Go Go.RowKit
abbrev Sx := List (List Tr) × Pl
/-- a plan that is read -/
def PlV (W : World) (base : Nat) (v : Value) (p : Pl) : Prop := ∃ A c, v = .agg #[.slice A p.steps.length c, .int .i64 p.washes, .int .i64 p.cost] ∧ W.ownsRow base 70 2 (.slice A p.steps.length c) p.steps.length (stsC p.steps)
structure PlOk (p : Pl) (j : Nat) : Prop where
 len : p.steps.length = j
 w0 : 0 ≤ p.washes
 w1 : p.washes ≤ j
 c0 : 0 ≤ p.cost
 c1 : p.cost ≤ j * 100000000
section
variable {W W' : World} {base : Nat} {v : Value} {p : Pl}
theorem PlV.keep (h : PlV W base v p) (hk : ∀ (n : Nat) (u : Value) (xs : List Value), W.ownsRow base 70 2 u n xs → W'.ownsRow base 70 2 u n xs) : PlV W' base v p := let ⟨A, c, h1, h2⟩ := h; ⟨A, c, h1, hk _ _ _ h2⟩
theorem PlV.below (h : PlV W base v p) (hb : Below W.heap.size W W') : PlV W' base v p := h.keep fun _ _ _ ho => own_below ho hb (Nat.le_refl _)
theorem PlV.rd (h : PlV W base v p) : ∃ A c, v = .agg #[.slice A p.steps.length c, .int .i64 p.washes, .int .i64 p.cost] ∧ Rd W W.heap.size 2 (.slice A p.steps.length c) p.steps.length (stsC p.steps) := let ⟨A, c, h1, h2⟩ := h; ⟨A, c, h1, Rd.of_own h2⟩
theorem PlV.nil : PlV W base (.agg #[.slice none 0 0, .int .i64 0, .int .i64 0]) pl0 := ⟨none, 0, rfl, World.ownsRow_nil _ _ _ _⟩
end
/-- entries l are the plans F -/
structure Ents (W : World) (base j : Nat) (l : List (Value × Value)) (F : List Sx) : Prop where
 to : ∀ e ∈ l, ∃ x ∈ F, e.1 = flV x.1 ∧ PlV W base e.2 x.2
 fro : ∀ x ∈ F, ∃ e ∈ l, e.1 = flV x.1 ∧ PlV W base e.2 x.2
 ok : ∀ x ∈ F, FlOk x.1 ∧ PlOk x.2 j
 one : ∀ x ∈ F, ∀ y ∈ F, x.1 = y.1 → x = y
theorem Ents.keep {W W' : World} {base j : Nat} {l : List (Value × Value)} {F : List Sx} (h : Ents W base j l F) (hk : ∀ (n : Nat) (u : Value) (xs : List Value), W.ownsRow base 70 2 u n xs → W'.ownsRow base 70 2 u n xs) : Ents W' base j l F :=
 ⟨fun e he => let ⟨x, h1, h2, h3⟩ := h.to e he; ⟨x, h1, h2, h3.keep hk⟩, fun x hx => let ⟨e, h1, h2, h3⟩ := h.fro x hx; ⟨e, h1, h2, h3.keep hk⟩, h.ok, h.one⟩
/-- block mb is a front -/
def Front (W : World) (base mb n j : Nat) (F : List Sx) : Prop := ∃ l, MapV Try.prog 150 W mb n l ∧ Ents W base j l F
/-- .. that is ranged over by block r: D has come -/
def RFront (W : World) (base mb r n j : Nat) (F D : List Sx) (c : Nat) : Prop := ∃ l d, RangeV Try.prog 150 W mb r n l d c ∧ Ents W base j l F ∧ (∀ e ∈ d, ∃ x ∈ D, e.1 = flV x.1) ∧ ∀ x ∈ D, x ∈ F
/-- a step that writes only what is new, a block that holds no cells, or a box of another type -/
def Mild (k : Nat) (A B : World) : Prop := ∃ row, A.grownBy B row ∧ ∀ g, row = some g → g ≠ k ∧ ∀ T cs, Blk A g T cs → Nat.beq T 70 = false
section
variable {A B : World} {k : Nat}
theorem Mild.below (h : Below A.heap.size A B) : Mild k A B := ⟨none, ⟨h.os, h.tape, h.output, h.size, fun i hi _ => h.block i hi⟩, fun _ h => by cases h⟩
theorem Mild.box {g T : Nat} {cs : Array Value} (hq : Blk A g T cs) (hT : Nat.beq T 70 = false) (hg : A.grownBy B (some g)) (hk : g ≠ k) : Mild k A B := ⟨some g, hg, fun i e => by
 injection e with e
 subst e;refine ⟨hk, fun T' cs' h2 => ?_⟩
 unfold Blk at hq h2
 rw [hq] at h2
 injection h2 with h2
 injection h2 with _ h3
 rw [← h3]
 exact hT⟩
theorem Mild.other {g : Nat} {o : Obj} (hg : A.grownBy B (some g)) (ho : A.heap[g]? = some o) (hc : o.isCells = false) (hk : g ≠ k) : Mild k A B := ⟨some g, hg, fun i e => by
 injection e with e
 subst e;refine ⟨hk, fun T' cs' h2 => ?_⟩
 unfold Blk at h2
 rw [ho] at h2
 injection h2 with h2
 subst h2
 cases hc⟩
theorem Mild.row {base n : Nat} {u : Value} {xs : List Value} (h : Mild k A B) (ho : A.ownsRow base 70 2 u n xs) : B.ownsRow base 70 2 u n xs := by
 obtain ⟨row, hg, hr⟩ := h;refine ho.kept hg ?_;obtain ⟨_, ⟨rfl, _⟩ | ⟨b, cap, cur, rfl, _, hb, _⟩⟩ := ho
 ·exact .inl rfl
 ·refine .inr fun e => ?_
  have := (hr b e.symm).2 _ cur hb;rw [Nat.beq_refl] at this
  cases this
theorem Mild.soft {b m k : Nat} {U : List Nat} (h : Soft b m U A B) (hU : ∀ T, memB U T = true → Nat.beq T 70 = false) {o : Obj} (hk : A.heap[k]? = some o) (hc : o.isCells = false) (hkm : k < m) : Mild k A B := by
 obtain ⟨row, hg, hr⟩ := h;refine ⟨row, hg, fun g e => ?_⟩
 rcases hr g e with ⟨_, T, cs, h1, h2⟩ | ⟨h1, o', h2, h3⟩
 ·refine ⟨fun e2 => ?_, fun T' cs' h4 => ?_⟩
  ·subst e2
   unfold Blk at h2
   rw [hk] at h2
   injection h2 with h2
   subst h2
   cases hc
  ·unfold Blk at h2 h4
   rw [h2] at h4
   injection h4 with h4
   injection h4 with _ h5
   rw [← h5]
   exact hU T h1
 ·refine ⟨by omega, fun T' cs' h4 => ?_⟩
  unfold Blk at h4
  rw [h2] at h4
  injection h4 with h4
  subst h4
  cases h3
end
section
variable {W W' : World} {base mb r n j c : Nat} {F D : List Sx}
theorem Front.mild (h : Front W base mb n j F) (hm : Mild mb W W') : Front W' base mb n j F := by
 obtain ⟨l, h1, h2⟩ := h;have hr := fun n u xs => hm.row (n := n) (u := u) (xs := xs) (base := base)
 obtain ⟨row, hg, hk⟩ := hm
 exact ⟨l, h1.kept hg (fun e => (hk mb e.symm).1 rfl), h2.keep hr⟩
theorem Front.below (h : Front W base mb n j F) (hb : Below W.heap.size W W') : Front W' base mb n j F := h.mild (.below hb)
theorem Front.map (h : Front W base mb n j F) : ∃ es clock, W.heap[mb]? = some (.map es clock) := by
 obtain ⟨l, h1, _⟩ := h
 exact h1.map
theorem Front.lt (h : Front W base mb n j F) : mb < W.heap.size := by
 obtain ⟨l, h1, _⟩ := h
 exact h1.lt
theorem Front.ne {g T : Nat} {cs : Array Value} (h : Front W base mb n j F) (hq : Blk W g T cs) : g ≠ mb := fun e => by
 obtain ⟨es, clock, hm⟩ := h.map;subst e
 unfold Blk at hq
 rw [hq] at hm
 cases hm
theorem Front.box {g T : Nat} {cs : Array Value} (h : Front W base mb n j F) (hq : Blk W g T cs) (hT : Nat.beq T 70 = false) (hg : W.grownBy W' (some g)) : Front W' base mb n j F := h.mild (.box hq hT hg (h.ne hq))
theorem Front.ok (h : Front W base mb n j F) : ∀ x ∈ F, FlOk x.1 ∧ PlOk x.2 j := let ⟨_, _, h2⟩ := h; h2.ok
theorem Front.mono {m : Nat} (h : Front W base mb n j F) (hm : n ≤ m) : Front W base mb m j F := let ⟨l, h1, h2⟩ := h; ⟨l, h1.mono hm, h2⟩
theorem Front.made (w : World) {j : Nat} : Front (w.alloc (.map #[] 0)) base w.heap.size 0 j [] := ⟨[], MapV.made w, fun _ h => absurd h List.not_mem_nil, fun _ h => absurd h List.not_mem_nil, fun _ h => absurd h List.not_mem_nil, fun _ h => absurd h List.not_mem_nil⟩
open Classical in
/-- a store: the state's plan is this one -/
theorem Front.store {s : List (List Tr)} {p : Pl} {v : Value} (h : Front W base mb n j F) (hn : n < maxLen) (hs : FlOk s) (hp : PlOk p j) (hv : PlV W base v p) :
  ∃ W' F', (Instr.mapUpdate 171 (.map (some mb)) (flV s) v).run Try.prog W = .ok () W' ∧ W.grownBy W' (some mb) ∧ Front W' base mb (n + 1) j F' ∧ (s, p) ∈ F' ∧ (∀ y ∈ F', y = (s, p) ∨ (y ∈ F ∧ y.1 ≠ s)) ∧ ∀ y ∈ F, y ∈ F' ∨ y.1 = s := by
 obtain ⟨l, h1, h2⟩ := h;obtain ⟨kl, hkl⟩ := fleet_key hs;obtain ⟨W', l', hrun, k1, k2, k3, k4, k5⟩ := h1.store fleet_keyed Try.underlying171 hn hkl (val := v);obtain ⟨es, clock, hmap⟩ := h1.map;have hm : Mild (mb + 1) W W' := .other k2 hmap rfl (by omega)
 have hmem : ∀ y, y ∈ (F.filter fun x => decide (x.1 ≠ s)) ++ [(s, p)] ↔ y = (s, p) ∨ (y ∈ F ∧ y.1 ≠ s) := fun y => by
  rw [List.mem_append, List.mem_filter, List.mem_singleton, decide_eq_true_eq]
  exact Or.comm
 refine ⟨W', (F.filter fun x => decide (x.1 ≠ s)) ++ [(s, p)], hrun, k2, ⟨l', k1, fun e he => ?_, fun x hx => ?_, fun x hx => ?_, fun x hx y hy hxy => ?_⟩, (hmem _).2 (.inl rfl), fun y hy => (hmem y).1 hy, fun y hy => ?_⟩
 ·rcases k4 e he with rfl | ⟨h3, h4⟩
  ·exact ⟨(s, p), (hmem _).2 (.inl rfl), rfl, hv.keep fun _ _ _ => hm.row⟩
  ·obtain ⟨x, hx, e1, e2⟩ := h2.to e h3
   refine ⟨x, (hmem _).2 (.inr ⟨hx, fun e3 => h4 (by rw [e1, e3])⟩), e1, e2.keep fun _ _ _ => hm.row⟩
 ·rcases (hmem x).1 hx with rfl | ⟨h3, h4⟩
  ·exact ⟨_, k3, rfl, hv.keep fun _ _ _ => hm.row⟩
  ·obtain ⟨e, he, e1, e2⟩ := h2.fro x h3
   rcases k5 e he with h5 | h5
   ·exact ⟨e, h5, e1, e2.keep fun _ _ _ => hm.row⟩
   ·exact absurd (flV_inj (h2.ok x h3).1.fl hs.fl (e1.symm.trans h5)) h4
 ·rcases (hmem x).1 hx with rfl | ⟨h3, h4⟩
  ·exact ⟨hs, hp⟩
  ·exact h2.ok x h3
 ·rcases (hmem x).1 hx with rfl | ⟨h3, h4⟩
  ·rcases (hmem y).1 hy with rfl | ⟨h5, h6⟩
   ·rfl
   ·exact absurd hxy.symm h6
  ·rcases (hmem y).1 hy with rfl | ⟨h5, h6⟩
   ·exact absurd hxy h4
   ·exact h2.one x h3 y h5 hxy
 ·by_cases e : y.1 = s
  ·exact .inr e
  ·exact .inl ((hmem y).2 (.inr ⟨hy, e⟩))
theorem Front.look {s : List (List Tr)} (h : Front W base mb n j F) (hs : FlOk s) :
  ((Instr.lookup 171 (.map (some mb)) (flV s) true).run Try.prog W = .ok (.tuple #[.agg #[.slice none 0 0, .int .i64 0, .int .i64 0], .bool false]) W ∧ ∀ x ∈ F, x.1 ≠ s) ∨
  ∃ v q, (s, q) ∈ F ∧ PlV W base v q ∧ (Instr.lookup 171 (.map (some mb)) (flV s) true).run Try.prog W = .ok (.tuple #[v, .bool true]) W := by
 obtain ⟨l, h1, h2⟩ := h;obtain ⟨kl, hkl⟩ := fleet_key hs
 rcases h1.look true fleet_keyed Try.underlying171 (z := .agg #[.slice none 0 0, .int .i64 0, .int .i64 0]) (by kernel_rfl) hkl with ⟨h3, h4⟩ | ⟨v, h3, h4⟩
 ·refine .inl ⟨h3, fun x hx e => ?_⟩
  obtain ⟨e1, he1, h5, _⟩ := h2.fro x hx
  exact h4 e1 he1 (by rw [h5, e])
 ·obtain ⟨x, hx, e1, e2⟩ := h2.to _ h3
  have : x.1 = s := (flV_inj hs.fl (h2.ok x hx).1.fl e1).symm;refine .inr ⟨v, x.2, ?_, e2, h4⟩;rw [← this]
  exact hx
/-! ### Ranging -/
theorem Front.range (h : Front W base mb n j F) : ∃ W' c, (Instr.range 171 (.map (some mb))).run Try.prog W = .ok (.pointer (some ⟨W.heap.size, 0, none⟩)) W' ∧ RFront W' base mb W.heap.size n j F [] c ∧ c ≤ n ∧ Below W.heap.size W W' := by
 obtain ⟨l, h1, h2⟩ := h;obtain ⟨W', hrun, h3, h4⟩ := h1.range Try.underlying171
 exact ⟨W', _, hrun, ⟨l, [], h3, h2.keep (fun _ _ _ ho => own_below ho h4 (Nat.le_refl _)), fun _ h => absurd h List.not_mem_nil, fun _ h => absurd h List.not_mem_nil⟩, h1.len, h4⟩
theorem RFront.front (h : RFront W base mb r n j F D c) : Front W base mb n j F := let ⟨l, _, h1, h2, _⟩ := h; ⟨l, h1.map, h2⟩
theorem RFront.iter (h : RFront W base mb r n j F D c) : ∃ m s seen c, W.heap[r]? = some (.mapIter m s seen c) := let ⟨_, _, h1, _⟩ := h; h1.iter
theorem RFront.lt (h : RFront W base mb r n j F D c) : r < W.heap.size := let ⟨_, _, h1, _⟩ := h; h1.lt
theorem RFront.mild (h : RFront W base mb r n j F D c) (hm : Mild mb W W') (hr : Mild r W W') : RFront W' base mb r n j F D c := by
 obtain ⟨l, d, h1, h2, h3⟩ := h;have hrow := fun n u xs => hm.row (n := n) (u := u) (xs := xs) (base := base)
 obtain ⟨row, hg, hk⟩ := hm;obtain ⟨row2, hg2, hk2⟩ := hr;have k1 := h1.map.kept hg (fun e => (hk mb e.symm).1 rfl)
 refine ⟨l, d, ?_, h2.keep hrow, h3⟩;obtain ⟨es, clock, since, seen, c0, hb, F1, hs, e, hit, rest⟩ := h1;have hbl : mb < W.heap.size := (Array.getElem?_eq_some_iff.1 hb).1;have hil : r < W.heap.size := (Array.getElem?_eq_some_iff.1 hit).1
 exact ⟨es, clock, since, seen, c0, (hg.block mb hbl (fun e => (hk mb e.symm).1 rfl)).trans hb, F1, hs, e, (hg2.block r hil (fun e => (hk2 r e.symm).1 rfl)).trans hit, rest⟩
theorem RFront.below (h : RFront W base mb r n j F D c) (hb : Below W.heap.size W W') : RFront W' base mb r n j F D c := h.mild (.below hb) (.below hb)
theorem RFront.ne {g T : Nat} {cs : Array Value} (h : RFront W base mb r n j F D c) (hq : Blk W g T cs) : g ≠ r := fun e => by
 obtain ⟨m, s, seen, c', hi⟩ := h.iter;subst e
 unfold Blk at hq
 rw [hq] at hi
 cases hi
theorem RFront.box {g T : Nat} {cs : Array Value} (h : RFront W base mb r n j F D c) (hq : Blk W g T cs) (hT : Nat.beq T 70 = false) (hg : W.grownBy W' (some g)) : RFront W' base mb r n j F D c := h.mild (.box hq hT hg (h.front.ne hq)) (.box hq hT hg (h.ne hq))
theorem RFront.next (h : RFront W base mb r n j F D c) (ty : TypeId) :
  ((∀ x ∈ F, x ∈ D) ∧ (Instr.next (.pointer (some ⟨r, 0, none⟩)) false ty).run Try.prog W = .ok (.tuple #[.bool false]) W) ∨
  ∃ x v W' c', x ∈ F ∧ PlV W' base v x.2 ∧ (Instr.next (.pointer (some ⟨r, 0, none⟩)) false ty).run Try.prog W = .ok (.tuple #[.bool true, flV x.1, v]) W' ∧ RFront W' base mb r n j F (D ++ [x]) c' ∧ c' < c ∧ W.grownBy W' (some r) ∧ W'.heap.size = W.heap.size ∧ (Instr.entry (.pointer (some ⟨r, 0, none⟩))).run Try.prog W' = .ok (.tuple #[flV x.1, v]) W' := by
 obtain ⟨m, s, seen, c0, hit⟩ := h.iter;obtain ⟨l, d, h1, h2, h3, h4⟩ := h
 rcases h1.next ty with ⟨_, h5, hrun⟩ | ⟨key, v, W', c', h5, hrun, h6, h7, h8, h9, h10⟩
 ·refine .inl ⟨fun x hx => ?_, hrun⟩
  obtain ⟨e, he, e1, _⟩ := h2.fro x hx;obtain ⟨y, hy, e2⟩ := h3 e (h5 e he);have := h2.one x hx y (h4 y hy) (flV_inj (h2.ok x hx).1.fl (h2.ok y (h4 y hy)).1.fl (e1.symm.trans e2));rw [this]
  exact hy
 ·obtain ⟨x, hx, e1, e2⟩ := h2.to _ h5
  have e1 : key = flV x.1 := e1;subst e1;have hm : Mild mb W W' := .other h8 hit rfl (fun e => by
   obtain ⟨es, clock, hb⟩ := h1.map.map;subst e;rw [hb] at hit
   cases hit)
  have hrow := fun n u xs => hm.row (n := n) (u := u) (xs := xs) (base := base)
  refine .inr ⟨x, v, W', c', hx, e2.keep hrow, hrun, ⟨l, _, h6, h2.keep hrow, fun e he => ?_, fun y hy => ?_⟩, h7, h8, h9, h10⟩
  ·rcases List.mem_append.1 he with he | he
   ·obtain ⟨y, hy, h11⟩ := h3 e he
    exact ⟨y, List.mem_append.2 (.inl hy), h11⟩
   ·rw [List.mem_singleton.1 he]
    exact ⟨x, List.mem_append.2 (.inr (List.mem_singleton.2 rfl)), rfl⟩
  ·rcases List.mem_append.1 hy with hy | hy
   ·exact h4 y hy
   ·rw [List.mem_singleton.1 hy]
    exact hx
end
theorem blk_iter2 {W W' : World} {base mb r n j c g T : Nat} {F D : List Sx} {cs : Array Value} (hq : Blk W g T cs) (h : RFront W base mb r n j F D c) (hg : W.grownBy W' (some r)) : Blk W' g T cs := hq.grown hg fun e => h.ne hq (Option.some.inj e)
theorem blk_map2 {W W' : World} {base mb n j g T : Nat} {F : List Sx} {cs : Array Value} (hq : Blk W g T cs) (h : Front W base mb n j F) (hg : W.grownBy W' (some mb)) : Blk W' g T cs := hq.grown hg fun e => h.ne hq (Option.some.inj e)
theorem below_blk {B k : Nat} {W W' : World} (hg : W.grownBy W' (some k)) (h1 : B ≤ k) (h2 : B ≤ W.heap.size) : Below B W W' := (Below.refl _ _).grown hg h2 fun g hk => by injection hk with hk; omega
theorem below_then {k : Nat} {A B C : World} (h : Below A.heap.size A B) (hg : B.grownBy C (some k)) : A.grownBy C (some k) :=
 ⟨hg.os.trans h.os, hg.tape.trans h.tape, hg.output.trans h.output, Nat.le_trans h.size hg.size, fun i hi hne => (hg.block i (Nat.lt_of_lt_of_le hi h.size) hne).trans (h.block i hi)⟩
/-! ### The operations -/
section
variable {P : Program} {n : Nat} {L : List Oper} {Q : Exit → Act → World → Prop} {rest : List Oper} {σ : Sg} {w : World} {dst : Option Tmp} {ty : TypeId} {pos : String} {af : Array Edge} {g : Option (Nat × Bool)} {x y z : Operand} {t : TypeId}
theorem x_look {m key v : Value} {c : Bool} (hx : evS σ x = some m) (hy : evS σ y = some key) (hr : (Instr.lookup t m key c).run P w = .ok v w) : Gives P n σ w ⟨dst, .lookup t x y c, ty, pos, af, g⟩ v := fun a ha => by
 simp only [execOp, ha.eval hx, ha.eval hy]
 simp [hr, Result.andThen]
theorem x_entry2 {r : Nat} {v : Value} (hx : evS σ x = some (.pointer (some ⟨r, 0, none⟩))) (hen : (Instr.entry (.pointer (some ⟨r, 0, none⟩))).run P w = .ok v w) : Gives P n σ w ⟨dst, .entry x, ty, pos, af, g⟩ v := fun a ha => by
 simp only [execOp, ha.eval hx]
 simp [hen, Result.andThen]
theorem EL.mapPut {m key v : Value} {w' : World} (hx : evS σ x = some m) (hy : evS σ y = some key) (hz : evS σ z = some v) (hr : (Instr.mapUpdate t m key v).run P w = .ok () w') (k : EL P n L Q rest σ w') : EL P n L Q (⟨none, .mapUpdate t x y z, ty, pos, af, none⟩ :: rest) σ w := fun a ha => by
 unfold wpList
 rw [if_pos (wanted_none rfl _)]
 left
 unfold Oper.wp
 have hr' : (execOp a.eval ⟨none, .mapUpdate t x y z, ty, pos, af, none⟩).run P w = .ok .skip w' := by
  simp only [execOp, ha.eval hx, ha.eval hy, ha.eval hz]
  simp [hr, Result.andThen]
 rw [hr', Oper.upon_skip]
 exact k a ha
theorem EL.mapIns {m key v : Value} {w' : World} (hx : evS σ x = some m) (hy : evS σ y = some key) (hz : evS σ z = some v) (hr : (Instr.mapUpdate t m key v).run P w = .ok () w') (k : EL P n L Q rest σ w') : EL P n L Q (⟨none, .insert t x y z, ty, pos, af, none⟩ :: rest) σ w := fun a ha => by
 unfold wpList
 rw [if_pos (wanted_none rfl _)]
 left
 unfold Oper.wp
 have hr' : (execOp a.eval ⟨none, .insert t x y z, ty, pos, af, none⟩).run P w = .ok .skip w' := by
  simp only [execOp, ha.eval hx, ha.eval hy, ha.eval hz]
  simp [hr, Result.andThen]
 rw [hr', Oper.upon_skip]
 exact k a ha
theorem EL.rangeM {d : Nat} {m v : Value} {w' : World} (hx : evS σ x = some m) (hd : Nat.blt d n = true) (hr : (Instr.range t m).run P w = .ok v w') (k : EL P n L Q rest (ins σ d v) w') : EL P n L Q (⟨some d, .range t x, ty, pos, af, none⟩ :: rest) σ w := fun a ha => by
 refine wpL_run (wanted_none rfl _) (v := v) (w' := w') ?_ (k _ (ha.put hd _))
 simp only [execOp, ha.eval hx]
 simp [hr, Result.andThen]
theorem EL.nextM {d : Nat} {m v : Value} {w' : World} (hx : evS σ x = some m) (hd : Nat.blt d n = true) (hr : (Instr.next m false ty).run P w = .ok v w') (k : EL P n L Q rest (ins σ d v) w') : EL P n L Q (⟨some d, .next x false, ty, pos, af, none⟩ :: rest) σ w := fun a ha => by
 refine wpL_run (wanted_none rfl _) (v := v) (w' := w') ?_ (k _ (ha.put hd _))
 simp only [execOp, ha.eval hx]
 simp [hr, Result.andThen]
end
theorem EL.newFront {n : Nat} {L : List Oper} {Q : Exit → Act → World → Prop} {rest : List Oper} {σ : Sg} {w : World} {d ty base j : Nat} {pos : String} {af : Array Edge} (hd : Nat.blt d n = true)
  (next : ∀ b w', Front w' base b 0 j [] → Below w.heap.size w w' → w.heap.size ≤ b → EL Try.prog n L Q rest (ins σ d (.map (some b))) w') : EL Try.prog n L Q (⟨some d, .makeMap 171 none, ty, pos, af, none⟩ :: rest) σ w := fun a ha =>
 wpL_run (wanted_none rfl _) (by simp only [execOp]; kernel_rfl) (next _ _ (Front.made w) ((Below.refl _ _).alloc (Nat.le_refl _) _) (Nat.le_refl _) _ (ha.put hd _))
/-! ### What a store tells of the front -/
theorem FrontOf.stored {L F F' : List Sx} {s : List (List Tr)} {p : Pl} (h : FrontOf L F) (h1 : (s, p) ∈ F') (h2 : ∀ y ∈ F', y = (s, p) ∨ (y ∈ F ∧ y.1 ≠ s)) (h3 : ∀ y ∈ F, y ∈ F' ∨ y.1 = s) (hlt : ∀ q, (s, q) ∈ F → cmpP p q ≤ 0) : FrontOf (L ++ [(s, p)]) F' := by
 refine ⟨fun y hy => ?_, fun y hy => ?_⟩
 ·rcases h2 y hy with rfl | ⟨h4, _⟩
  ·exact List.mem_append.2 (.inr (List.mem_singleton.2 rfl))
  ·exact List.mem_append.2 (.inl (h.mem y h4))
 ·rcases List.mem_append.1 hy with hy | hy
  ·obtain ⟨q, h4, h5⟩ := h.least y hy
   rcases h3 _ h4 with h6 | h6
   ·exact ⟨q, h6, h5⟩
   ·have h6 : y.1 = s := h6
    refine ⟨p, by rw [h6]; exact h1, cmp_pl.trans _ _ _ (hlt q (by rw [← h6]; exact h4)) h5⟩
  ·rw [List.mem_singleton.1 hy]
   exact ⟨p, h1, by rw [cmp_pl.self]; decide⟩
section
variable {n : Nat} {σ : Sg} {w : World} {dst : Option Tmp} {ty : TypeId} {pos : String} {af : Array Edge} {g : Option (Nat × Bool)} {x y z : Operand} {at' : Array TypeId}
theorem sz_150 : (Try.prog.info? 150).map (·.size) = some 96 := by kernel_rfl
theorem al_134 (a : Act) (_ : Env n σ a) : (execOp a.eval ⟨dst, .alloc 134, ty, pos, af, g⟩).run Try.prog w = .ok (.value (.pointer (some ⟨w.heap.size, 0, none⟩))) (w.alloc (.cells #[.slice none 0 0, .int .i64 0, .int .i64 0] 134)) := by
 simp only [execOp]
 simp [go_sem]
theorem sz_134 : (Try.prog.info? 134).map (·.size) = some 3 := by kernel_rfl
theorem ld_134 {b o : Nat} {v0 v1 v2 : Value} (hx : evS σ x = some (.pointer (some ⟨b, o, none⟩))) (c0 : w.cell? ⟨b, o, none⟩ = some v0) (c1 : w.cell? ⟨b, o + 1, none⟩ = some v1) (c2 : w.cell? ⟨b, o + 2, none⟩ = some v2) : Gives Try.prog n σ w ⟨dst, .load 134 x, ty, pos, af, g⟩ (.agg #[v0, v1, v2]) := fun a ha => by
 simp only [execOp, ha.eval hx]
 simp [go_sem, c0, c1, c2]
theorem cl_99 {x0 x1 : Operand} {v0 v1 : Value} (h0 : evS σ x0 = some v0) (h1 : evS σ x1 = some v1) (a : Act) (ha : Env n σ a) : (execOp a.eval ⟨dst, .call { callee := .value (.func 99), args := #[x0, x1], argTypes := at' }, ty, pos, af, g⟩).run Try.prog w = .ok (.enter 99 #[v0, v1]) w := by
 simp only [execOp, resolve, List.map_toArray, List.map_cons, List.map_nil, ha.eval h0, ha.eval h1]
 simp [go_sem, Act.eval]
theorem lv_134 {b o : Nat} {v0 v1 v2 : Value} (c0 : w.cell? ⟨b, o, none⟩ = some v0) (c1 : w.cell? ⟨b, o + 1, none⟩ = some v1) (c2 : w.cell? ⟨b, o + 2, none⟩ = some v2) : (loadVar 134 ⟨b, o, none⟩).run Try.prog w = .ok (.agg #[v0, v1, v2]) w := by
 simp [go_sem, loadVar, c0, c1, c2]
end
theorem al_fleet {n : Nat} {σ : Sg} {w : World} {dst : Option Tmp} {ty : TypeId} {pos : String} {af : Array Edge} {g : Option (Nat × Bool)} (a : Act) (_ : Env n σ a) : (execOp a.eval ⟨dst, .alloc 150, ty, pos, af, g⟩).run Try.prog w = .ok (.value (.pointer (some ⟨w.heap.size, 0, none⟩))) (w.alloc (.cells (flC [tank0, tank0, tank0]).toArray 150)) := by
 simp only [execOp]
 kernel_rfl
set_option maxHeartbeats 1000000 in
theorem note_any {w : World} {base mb n j : Nat} {F : List Sx} (hf : Front w base mb n j F) (hn : n < maxLen) {sf : List (List Tr)} (hs : FlOk sf) {p : Pl} {v : Value} (hv : PlV w base v p) (hp : PlOk p j) (hj : j ≤ 1048576) :
  Calls Try.prog 98 #[.map (some mb), flV sf, v] w fun e w' => e = .returned (.tuple #[]) ∧ w.grownBy w' (some mb) ∧ ∃ F2, Front w' base mb (n + 1) j F2 ∧ ∀ L, FrontOf L F → FrontOf (L ++ [(sf, p)]) F2 := by
 obtain ⟨A, c, rfl, ho⟩ := hv;have hf_one : ∀ x ∈ F, ∀ y ∈ F, x.1 = y.1 → x = y := let ⟨_, _, h⟩ := hf; h.one
 have hbw := Below.refl w.heap.size w;refine EC.enter 25 Try.func98 rfl rfl rfl (EC.seq (EC.region (EL.newP (x_boxA rfl) rfl ?_)));intro g1 w1 q1 hb1 hg1 hl1;have bhbw_1 := Nat.le_trans hbw.size hg1;replace hf := hf.below hb1;replace ho := own_below ho hb1 (Nat.le_refl _);replace hbw := bo_ hbw hb1;clear hb1 hg1 hl1;refine EL.newP (bx_134 rfl) rfl ?_;intro g2 w2 q2 hb2 hg2 hl2;have n1_2 := q1.na hg2;have bhbw_2 := Nat.le_trans hbw.size hg2;replace q1 := q1.bl hb2;replace hf := hf.below hb2;replace ho := own_below ho hb2 (Nat.le_refl _);replace hbw := bo_ hbw hb2;clear hb2 hg2 hl2;refine EL.nil (EX.seq (EC.seq (EC.region (EL.mv rfl rfl (EL.val (x_loadA rfl (q1.range (PartAt.whole _)) Try.underlying150 rfl (sz_150.trans (congrArg some hs.fl.len.symm))) rfl ?_)))))
 rcases hf.look hs with ⟨hlk, hno⟩ | ⟨v2, q, hin, hpv, hlk⟩
 ·
  refine EL.val (x_look rfl rfl hlk) rfl (EL.mv rfl rfl (EL.val (x_extract rfl rfl) rfl (EL.val (x_extract rfl rfl) rfl (EL.newP al_134 rfl ?_))));intro g3 w3 q3 hb3 hg3 hl3;have n1_3 := q1.na hg3;have n2_3 := q2.na hg3;have bhbw_3 := Nat.le_trans hbw.size hg3;replace q1 := q1.bl hb3;replace q2 := q2.bl hb3;replace hf := hf.below hb3;replace ho := own_below ho hb3 (Nat.le_refl _);replace hbw := bo_ hbw hb3;clear hb3 hg3 hl3;refine EL.store rfl rfl q3 sz_134 rfl rfl rfl rfl ?_;intro w4 hq4 hg4;replace q1 := q1.gr hg4 n1_3;replace q2 := q2.gr hg4 n2_3;replace hf := hf.box q3 rfl hg4;replace ho := own_type ho q3 rfl hg4;replace hbw := below_store hbw hg4 bhbw_3;replace q3 := hq4;clear hg4 hq4;refine EL.as rfl rfl (EL.nil (EX.seq (EC.seq (EC.region (EL.mv rfl rfl (EL.val (x_not rfl) rfl (EL.mv rfl rfl (EL.skip rfl rfl rfl rfl (EL.skip rfl rfl rfl rfl ?_)))))))));refine EL.skip rfl rfl rfl rfl (EL.skip rfl rfl rfl rfl (EL.val (x_pick_t rfl rfl) rfl (EL.nil (EX.seq (EC.yes rfl (EC.region (EL.mv rfl rfl (EL.val (x_loadA rfl (q1.range (PartAt.whole _)) Try.underlying150 rfl (sz_150.trans (congrArg some hs.fl.len.symm))) rfl (EL.val (ld_134 rfl (q2.at (j := 0) rfl) (q2.at (j := 1) rfl) (q2.at (j := 2) rfl)) rfl ?_)))))))));obtain ⟨w9, F2, hrun, hg9, hf2, k1, k2, k3⟩ := hf.store hn hs hp ⟨A, c, rfl, ho⟩;refine EL.mapPut rfl rfl rfl hrun (EL.nil ?_)
  exact EX.done' (res0 rfl) ⟨rfl, below_then hbw hg9, F2, hf2, fun L hL => hL.stored k1 k2 k3 (fun q2 hq2 => absurd rfl (hno _ hq2))⟩
 ·
  obtain ⟨A2, c2, rfl, ho2⟩ := hpv;have hq := (hf.ok _ hin).2;refine EL.val (x_look rfl rfl hlk) rfl (EL.mv rfl rfl (EL.val (x_extract rfl rfl) rfl (EL.val (x_extract rfl rfl) rfl (EL.newP al_134 rfl ?_))));intro g5 w5 q5 hb5 hg5 hl5;have n1_5 := q1.na hg5;have n2_5 := q2.na hg5;have bhbw_5 := Nat.le_trans hbw.size hg5;replace q1 := q1.bl hb5;replace q2 := q2.bl hb5;replace hf := hf.below hb5;replace ho := own_below ho hb5 (Nat.le_refl _);replace ho2 := own_below ho2 hb5 (Nat.le_refl _);replace hbw := bo_ hbw hb5;clear hb5 hg5 hl5;refine EL.store rfl rfl q5 sz_134 rfl rfl rfl rfl ?_;intro w6 hq6 hg6;replace q1 := q1.gr hg6 n1_5;replace q2 := q2.gr hg6 n2_5;replace hf := hf.box q5 rfl hg6;replace ho := own_type ho q5 rfl hg6;replace ho2 := own_type ho2 q5 rfl hg6;replace hbw := below_store hbw hg6 bhbw_5;replace q5 := hq6;clear hg6 hq6;refine EL.as rfl rfl (EL.nil (EX.seq (EC.seq (EC.region (EL.mv rfl rfl (EL.val (x_not rfl) rfl (EL.mv rfl rfl (EL.valg rfl rfl (ld_134 rfl (q2.at (j := 0) rfl) (q2.at (j := 1) rfl) (q2.at (j := 2) rfl)) rfl (EL.valg rfl rfl (ld_134 rfl (q5.at (j := 0) rfl) (q5.at (j := 1) rfl) (q5.at (j := 2) rfl)) rfl ?_)))))))));refine EL.callg rfl rfl (cl_99 rfl rfl) rfl (compare_any p q _ _ w6 _ (Rd.of_own ho) (Rd.of_own ho2) (Nat.le_refl _) (by rw [hp.len]; exact hj) (by rw [hq.len]; exact hj)) ?_
  rintro e w7 ⟨rfl, hc7⟩
  refine ⟨_, rfl, ?_⟩;replace q1 := q1.bl hc7;replace q2 := q2.bl hc7;replace q5 := q5.bl hc7;replace hf := hf.below hc7;replace ho := own_below ho hc7 (Nat.le_refl _);replace ho2 := own_below ho2 hc7 (Nat.le_refl _);replace hbw := bo_ hbw hc7;clear hc7
  by_cases hlt : cmpP p q < 0
  ·
   refine EL.valg rfl rfl (x_lss (r := true) rfl rfl (decide_eq_true hlt)) rfl (EL.val (x_pick_f rfl rfl) rfl (EL.nil (EX.seq (EC.yes rfl (EC.region (EL.mv rfl rfl (EL.val (x_loadA rfl (q1.range (PartAt.whole _)) Try.underlying150 rfl (sz_150.trans (congrArg some hs.fl.len.symm))) rfl (EL.val (ld_134 rfl (q2.at (j := 0) rfl) (q2.at (j := 1) rfl) (q2.at (j := 2) rfl)) rfl ?_))))))));obtain ⟨w9, F2, hrun, hg9, hf2, k1, k2, k3⟩ := hf.store hn hs hp ⟨A, c, rfl, ho⟩;refine EL.mapPut rfl rfl rfl hrun (EL.nil ?_)
   exact EX.done' (res0 rfl) ⟨rfl, below_then hbw hg9, F2, hf2, fun L hL => hL.stored k1 k2 k3 (fun q2 hq2 => by rw [(Prod.mk.inj (hf_one _ hq2 _ hin rfl)).2]; omega)⟩
  ·
   refine EL.valg rfl rfl (x_lss (r := false) rfl rfl (decide_eq_false hlt)) rfl (EL.val (x_pick_f rfl rfl) rfl (EL.nil (EX.seq (EC.no rfl (EC.skip ?_)))))
   exact EX.done' (res0 rfl) ⟨rfl, ⟨hbw.os, hbw.tape, hbw.output, hbw.size, fun k hk _ => hbw.block k hk⟩, F, hf.mono (Nat.le_succ _), fun L hL => hL.stay (x := (sf, p)) hin (by have := cmp_pl.anti p q; show cmpP q p ≤ 0; omega)⟩
/-- the best of what has come -/
def BestAt (W : World) (base g : Nat) (first : Bool) (D : List Sx) : Prop := (first = true ∧ D = [] ∧ Blk W g 134 #[.slice none 0 0, .int .i64 0, .int .i64 0]) ∨
 (first = false ∧ ∃ (p : Pl) (A : Option Addr) (c : Nat), Blk W g 134 #[.slice A p.steps.length c, .int .i64 p.washes, .int .i64 p.cost] ∧ W.ownsRow base 70 2 (.slice A p.steps.length c) p.steps.length (stsC p.steps) ∧ (∃ s, (s, p) ∈ D) ∧ ∀ y ∈ D, cmpP p y.2 ≤ 0)
theorem RFront.sub {W : World} {base mb r n j c : Nat} {F D : List Sx} (h : RFront W base mb r n j F D c) : ∀ x ∈ D, x ∈ F := let ⟨_, _, _, _, _, h4⟩ := h; h4
theorem best_new {p : Pl} {y : Sx} {D : List Sx} (h : cmpP y.2 p < 0) (hp : ∀ u ∈ D, cmpP p u.2 ≤ 0) : ∀ u ∈ D ++ [y], cmpP y.2 u.2 ≤ 0 := fun u hu => by
 rcases List.mem_append.1 hu with hu | hu
 ·exact cmp_pl.trans _ _ _ (by omega) (hp u hu)
 ·rw [List.mem_singleton.1 hu, cmp_pl.self]; decide
theorem best_old {p : Pl} {y : Sx} {D : List Sx} (h : ¬cmpP y.2 p < 0) (hp : ∀ u ∈ D, cmpP p u.2 ≤ 0) : ∀ u ∈ D ++ [y], cmpP p u.2 ≤ 0 := fun u hu => by
 rcases List.mem_append.1 hu with hu | hu
 ·exact hp u hu
 ·rw [List.mem_singleton.1 hu]; have := cmp_pl.anti p y.2; omega
set_option maxHeartbeats 1000000 in
theorem best_any {w : World} {base mb n j : Nat} {F : List Sx} (hf : Front w base mb n j F) (hne : F ≠ []) (hj : j ≤ 1048576) :
  Calls Try.prog 88 #[.map (some mb)] w fun e w' => (∃ (p : Pl) (sp : List (List Tr)) (A : Option Addr) (c : Nat), e = .returned (.agg #[.slice A p.steps.length c, .int .i64 p.washes, .int .i64 p.cost]) ∧ w'.ownsRow base 70 2 (.slice A p.steps.length c) p.steps.length (stsC p.steps) ∧ (sp, p) ∈ F ∧ ∀ u ∈ F, cmpP p u.2 ≤ 0) ∧ Below w.heap.size w w' := by
 have hbw := Below.refl w.heap.size w;refine EC.enter 21 Try.func88 rfl rfl rfl (EC.seq (EC.region (EL.newP al_134 rfl ?_)));intro g1 w1 q1 hb1 hg1 hl1;have bhbw_1 := Nat.le_trans hbw.size hg1;replace hf := hf.below hb1;replace hbw := bo_ hbw hb1;clear hb1 hg1 hl1;refine EL.nil (EX.seq (EC.seq (EC.region (EL.as rfl rfl (EL.nil (EX.seq (EC.seq (EC.seq (EC.region ?_)))))))));refine EL.mv rfl rfl ?_;obtain ⟨w2, c0, hrun, hR, hcn, hb2⟩ := hf.range;obtain ⟨rr, err⟩ : ∃ z, z = w1.heap.size := ⟨_, rfl⟩;rw [← err] at hrun hR;have hrw : w.heap.size ≤ rr := by rw [err]; exact hbw.size
 refine EL.rangeM rfl rfl hrun ?_;clear hf;replace q1 := q1.bl hb2;replace hbw := bo_ hbw hb2;clear hb2 hrun;refine EL.nil (EX.seq (EC.block ?_));refine EC.loopD [3, 5, 8, 9, 10, 11, 12, 13, 14, 15, 16, 17, 18, 19] (fun x : Bool × List Sx × Nat => [(3, .bool x.1)]) (fun x W => RFront W base mb rr n j F x.2.1 x.2.2 ∧ BestAt W base g1 x.1 x.2.1 ∧ Below w.heap.size w W) (fun x => x.2.2) (true, [], c0) ⟨hR, .inl ⟨rfl, rfl, q1⟩, hbw⟩ ⟨rfl, trivial⟩ ?_
 clear q1 hR hbw
 rintro ⟨fi, D, c⟩ wx ⟨hR, hB, hbw⟩
 dsimp only at hR hB
 rcases hB with ⟨hfi, hD0, q1⟩ | ⟨hfi, p, Ap, cp, q1, hop, hps, hpl⟩
 ·
  subst hfi;refine EC.seq (EC.region ?_)
  rcases hR.next 0 with ⟨hall, hrun⟩ | ⟨y, v, w3, c2, hyF, hpv, hrun, hR2, hcnt, hg3, hsz3, hen⟩
  ·
   refine EL.nextM rfl rfl hrun ?_
   exact absurd (List.eq_nil_iff_forall_not_mem.2 fun x hx => by have := hall x hx; rw [hD0] at this; exact absurd this List.not_mem_nil) hne
  ·
   refine EL.nextM rfl rfl hrun ?_;obtain ⟨Av, cv, rfl, hov⟩ := hpv;replace q1 := blk_iter2 q1 hR hg3;replace hbw := hbw.trans (below_blk hg3 hrw hbw.size);clear hR hrun hg3 hsz3;have hR := hR2;clear hR2;have hyo := (hR.front.ok _ hyF).2;refine EL.val (x_extract rfl rfl) rfl (EL.nil (EX.seq (EC.seq (EC.yes rfl (EC.skip (EX.seq (EC.block (EC.seq (EC.region ?_)))))))));refine EL.val (x_entry2 rfl hen) rfl (EL.val (x_extract rfl rfl) rfl (EL.newP al_134 rfl ?_));intro g4 w4 q4 hb4 hg4 hl4;have n1_4 := q1.na hg4;have bhbw_4 := Nat.le_trans hbw.size hg4;replace q1 := q1.bl hb4;replace hR := hR.below hb4;replace hov := own_below hov hb4 (Nat.le_refl _);replace hbw := bo_ hbw hb4;clear hb4 hg4 hl4;refine EL.store rfl rfl q4 sz_134 rfl rfl rfl rfl ?_;intro w5 hq5 hg5;replace q1 := q1.gr hg5 n1_4;replace hR := hR.box q4 rfl hg5;replace hov := own_type hov q4 rfl hg5;replace hbw := below_store hbw hg5 bhbw_4;replace q4 := hq5;clear hg5 hq5;refine EL.nil (EX.seq (EC.seq (EC.region (EL.mv rfl rfl (EL.mv rfl rfl (EL.skip rfl rfl rfl rfl (EL.skip rfl rfl rfl rfl (EL.skip rfl rfl rfl rfl (EL.skip rfl rfl rfl rfl ?_)))))))));refine EL.val (x_pick_t rfl rfl) rfl (EL.nil (EX.seq (EC.yes rfl (EC.region (EL.val (ld_134 rfl (q4.at (j := 0) rfl) (q4.at (j := 1) rfl) (q4.at (j := 2) rfl)) rfl (EL.store rfl rfl q1 sz_134 rfl rfl rfl rfl ?_))))));intro w6 hq6 hg6;replace q4 := q4.gr hg6 n1_4.symm;replace hR := hR.box q1 rfl hg6;replace hov := own_type hov q1 rfl hg6;replace hbw := below_store hbw hg6 bhbw_1;replace q1 := hq6;clear hg6 hq6;refine EL.as rfl rfl (EL.nil (EX.blk ?_));refine EX.roundD (false, D ++ [y], c2) ⟨rfl, trivial⟩ (by repeat first | with_reducible exact Sub.refl _ | refine sub_past rfl ?_ | exact Sub.refl _ | refine sub_del rfl ?_ | refine sub_insL_nil ?_) ⟨hR, .inr ⟨rfl, y.2, Av, cv, q1, hov, ⟨y.1, by rw [hD0]; exact List.mem_singleton.2 rfl⟩, fun u hu => by rw [hD0] at hu; rw [List.mem_singleton.1 hu, cmp_pl.self]; decide⟩, hbw⟩ hcnt
 ·
  subst hfi;obtain ⟨sp, hsp⟩ := hps;refine EC.seq (EC.region ?_)
  rcases hR.next 0 with ⟨hall, hrun⟩ | ⟨y, v, w7, c2, hyF, hpv, hrun, hR2, hcnt, hg7, hsz7, hen⟩
  ·
   refine EL.nextM rfl rfl hrun (EL.val (x_extract rfl rfl) rfl (EL.nil (EX.seq (EC.seq (EC.no rfl (EC.exit (EX.seq_exit (EX.seq_exit (EX.blk_here ?_)))))))));refine EX.seq (EC.seq (EC.region (EL.val (ld_134 rfl (q1.at (j := 0) rfl) (q1.at (j := 1) rfl) (q1.at (j := 2) rfl)) rfl (EL.store rfl rfl q1 sz_134 rfl rfl rfl rfl ?_))));intro w8 hq8 hg8;replace hR := hR.box q1 rfl hg8;replace hop := own_type hop q1 rfl hg8;replace hbw := below_store hbw hg8 bhbw_1;replace q1 := hq8;clear hg8 hq8;refine EL.nil (EX.seq (EC.ret ?_))
   exact EX.done (resc1 rfl rfl (lv_134 (q1.at (j := 0) rfl) (q1.at (j := 1) rfl) (q1.at (j := 2) rfl))) ⟨⟨p, sp, Ap, cp, rfl, hop, hR.sub _ hsp, fun u hu => hpl u (hall u hu)⟩, hbw⟩
  ·
   refine EL.nextM rfl rfl hrun ?_;obtain ⟨Av, cv, rfl, hov⟩ := hpv;replace q1 := blk_iter2 q1 hR hg7;obtain ⟨mi, si, sei, ci, hit⟩ := hR.iter;replace hop := (Mild.other (k := rr + 1) hg7 hit rfl (by omega)).row hop
   replace hbw := hbw.trans (below_blk hg7 hrw hbw.size);clear hR hrun hg7 hsz7;have hR := hR2;clear hR2;have hyo := (hR.front.ok _ hyF).2;refine EL.val (x_extract rfl rfl) rfl (EL.nil (EX.seq (EC.seq (EC.yes rfl (EC.skip (EX.seq (EC.block (EC.seq (EC.region ?_)))))))));refine EL.val (x_entry2 rfl hen) rfl (EL.val (x_extract rfl rfl) rfl (EL.newP al_134 rfl ?_));intro g9 w9 q9 hb9 hg9 hl9;have n1_9 := q1.na hg9;have bhbw_9 := Nat.le_trans hbw.size hg9;replace q1 := q1.bl hb9;replace hR := hR.below hb9;replace hop := own_below hop hb9 (Nat.le_refl _);replace hov := own_below hov hb9 (Nat.le_refl _);replace hbw := bo_ hbw hb9;clear hb9 hg9 hl9;refine EL.store rfl rfl q9 sz_134 rfl rfl rfl rfl ?_;intro w10 hq10 hg10;replace q1 := q1.gr hg10 n1_9;replace hR := hR.box q9 rfl hg10;replace hop := own_type hop q9 rfl hg10;replace hov := own_type hov q9 rfl hg10;replace hbw := below_store hbw hg10 bhbw_9;replace q9 := hq10;clear hg10 hq10;refine EL.nil (EX.seq (EC.seq (EC.region (EL.mv rfl rfl (EL.mv rfl rfl (EL.valg rfl rfl (ld_134 rfl (q9.at (j := 0) rfl) (q9.at (j := 1) rfl) (q9.at (j := 2) rfl)) rfl (EL.valg rfl rfl (ld_134 rfl (q1.at (j := 0) rfl) (q1.at (j := 1) rfl) (q1.at (j := 2) rfl)) rfl ?_)))))));refine EL.callg rfl rfl (cl_99 rfl rfl) rfl (compare_any y.2 p _ _ w10 _ (Rd.of_own hov) (Rd.of_own hop) (Nat.le_refl _) (by rw [hyo.len]; exact hj) (by have h : p.steps.length = j := (hR.front.ok (sp, p) (hR.sub (sp, p) (List.mem_append.2 (.inl hsp)))).2.len; omega)) ?_
   rintro e w11 ⟨rfl, hc11⟩
   refine ⟨_, rfl, ?_⟩;replace q1 := q1.bl hc11;replace q9 := q9.bl hc11;replace hR := hR.below hc11;replace hop := own_below hop hc11 (Nat.le_refl _);replace hov := own_below hov hc11 (Nat.le_refl _);replace hbw := bo_ hbw hc11;clear hc11
   by_cases hlt : cmpP y.2 p < 0
   ·
    refine EL.valg rfl rfl (x_lss (r := true) rfl rfl (decide_eq_true hlt)) rfl (EL.val (x_pick_f rfl rfl) rfl (EL.nil (EX.seq (EC.yes rfl (EC.region (EL.val (ld_134 rfl (q9.at (j := 0) rfl) (q9.at (j := 1) rfl) (q9.at (j := 2) rfl)) rfl (EL.store rfl rfl q1 sz_134 rfl rfl rfl rfl ?_)))))));intro w12 hq12 hg12;replace q9 := q9.gr hg12 n1_9.symm;replace hR := hR.box q1 rfl hg12;replace hop := own_type hop q1 rfl hg12;replace hov := own_type hov q1 rfl hg12;replace hbw := below_store hbw hg12 bhbw_1;replace q1 := hq12;clear hg12 hq12;refine EL.as rfl rfl (EL.nil (EX.blk ?_));refine EX.roundD (false, D ++ [y], c2) ⟨rfl, trivial⟩ (by repeat first | with_reducible exact Sub.refl _ | refine sub_past rfl ?_ | exact Sub.refl _ | refine sub_del rfl ?_ | refine sub_insL_nil ?_) ⟨hR, .inr ⟨rfl, y.2, Av, cv, q1, hov, ⟨y.1, List.mem_append.2 (.inr (List.mem_singleton.2 rfl))⟩, best_new hlt hpl⟩, hbw⟩ hcnt
   ·
    refine EL.valg rfl rfl (x_lss (r := false) rfl rfl (decide_eq_false hlt)) rfl (EL.val (x_pick_f rfl rfl) rfl (EL.nil (EX.seq (EC.no rfl (EC.skip (EX.blk ?_))))));refine EX.roundD (false, D ++ [y], c2) ⟨rfl, trivial⟩ (by repeat first | with_reducible exact Sub.refl _ | refine sub_past rfl ?_ | exact Sub.refl _ | refine sub_del rfl ?_ | refine sub_insL_nil ?_) ⟨hR, .inr ⟨rfl, p, Ap, cp, q1, hop, ⟨sp, List.mem_append.2 (.inl hsp)⟩, best_old hlt hpl⟩, hbw⟩ hcnt
def IterAt2 (U : List Nat) (P : Program) (gf : Nat) (caps : Array Value) (ok : It → World → Prop) (n0 : Nat) (S : List Nat) (all : List (List Int)) (w : World) : Prop :=
 ∀ (l : Nat) (J Jx : List It → World → Prop) (W : World), Kp n0 S w W → l < W.heap.size → SoftI n0 (l + 1) U J → SoftI n0 (l + 1) U Jx →
  (∀ pre x W1, ok x W1 → J pre W1 → (pre ++ [x]).map (·.1) <+: all → YieldW P l #[.int .i64 (x.1.getD 0 0), x.2] W1 (RoundAnsK n0 S l J Jx (pre ++ [x]) W1)) →
  J [] W → Calls P gf (#[.func (.yield l) #[] #[]] ++ caps) W fun e W' => (∃ v, e = .returned v) ∧ Kp n0 S W W' ∧ ((∃ xs : List It, xs.map (·.1) = all ∧ J xs W') ∨ (∃ pre : List It, pre ≠ [] ∧ pre.map (·.1) <+: all ∧ Jx pre W'))
theorem env_arg2 {n : Nat} {ds : List Deferred} {σ : Sg} {d1 d2 : Nat} {a : Act} {v1 v2 : Value} (h : EnvG n ds σ a) (hd1 : Nat.blt d1 n = true) (hd2 : Nat.blt d2 n = true) : EnvG n [] (ins (ins σ d1 v1) d2 v2) ⟨(#[d1, d2].zip #[v1, v2]).foldl (fun t (p, v) => t.setIfInBounds p v) a.tmps, []⟩ := by
 have h1 := (Env.put (Env.put (a := ⟨a.tmps, []⟩) h.env hd1 v1) hd2 v2).g
 simpa [Act.put] using h1
section
variable {ro : Option Nat} {k : Nat} {P : Program} {n : Nat} {ds : List Deferred} {σ : Sg} {w : World} {Q : Exit → Act → World → Prop} {L : List Oper} {rest : List Oper}
theorem ELI.yield2 {d ty l : Nat} {x y z : Operand} {at' : Array TypeId} {pos : String} {af : Array Edge} {v u : Value} {R : Ending → World → Prop} {fn : FuncId} {tmps : Array Value} {assign body : Code} (hx : evS σ x = some (.func (.yield l) #[] #[])) (hy : evS σ y = some v) (hz : evS σ z = some u) (hd : Nat.blt d n = true) (hi : (Instr.yield l #[v, u]).run P w = .ok (.round l fn tmps assign body) w) (hR : RoundIn Fence.wide 0 P l fn tmps assign body w R)
  (next : ∀ e w', R e w' → ∃ v, e = .returned v ∧ ELI ro k P n ds L Q rest (ins σ d v) w') : ELI ro k P n ds L Q (⟨some d, .call { callee := .value x, args := #[y, z], argTypes := at' }, ty, pos, af, none⟩ :: rest) σ w := fun a ha => by
 have hr' : (execOp a.eval ⟨some d, .call { callee := .value x, args := #[y, z], argTypes := at' }, ty, pos, af, none⟩).run P w = .ok (.round l fn tmps assign body) w := by
  simp only [execOp, resolve, List.map_toArray, List.map_cons, List.map_nil, ha.eval hx, ha.eval hy, ha.eval hz]
  simp [go_sem, Deferred.ofValue, hi]
 unfold wpListIn
 rw [if_pos (wanted_none rfl _)];refine ⟨fun _ _ => trivial, ?_⟩
 rw [semAt_fr (nodefer hr' (fun d h => by cases h)), hr']
 refine ⟨fr_depth _ _, RoundIn.mono (roundIn_fr hR) fun e w' he => ?_⟩
 obtain ⟨v, rfl, hv⟩ := next e w' he
 exact hv _ (ha.put hd v)
end
section
variable {P : Program} {n : Nat} {ds : List Deferred} {σ : Sg} {w : World} {Q : Exit → Act → World → Prop}
theorem rangeF2 {MT : TypeId} {cs : It → Array Value} {U : List Nat} {k : Nat} {g : Operand} {d1 d2 : Nat} {assign body : Code} {gf : Nat} {caps : Array Value} (hg : evS σ g = some (.func (.func gf) #[] caps)) (eg : ∀ args w, (callFunc gf args).run P w = .ok (.enter gf args) w) (hd1 : Nat.blt d1 n = true) (hd2 : Nat.blt d2 n = true)
  {ok : It → World → Prop} {n0 : Nat} {S : List Nat} {all : List (List Int)} (hit : IterAt2 U P gf caps ok n0 S all w) (hn0 : n0 ≤ w.heap.size)
  (I Ix : List It → World → Prop) (hIS : SoftI n0 w.heap.size U I) (hIxS : SoftI n0 w.heap.size U Ix) (h0 : I [] w) (hok : OwnFrom w.heap.size ok) (hokB : ∀ x A B, ok x A → Below A.heap.size A B → ok x B) (σ1 : It → Nat → Sg)
  (hassign : ∀ l x W K, ok x W → (∀ g a' W', EnvG n [] (σ1 x g) a' → Blk W' g MT (cs x) → Below W.heap.size W W' → W.heap.size ≤ g → K a' W') → ECI (some l) 0 P n [] assign (Exit.then K (fun _ _ _ => False)) (ins (ins σ d1 (.int .i64 (x.1.getD 0 0))) d2 x.2) W)
  (hbody : ∀ l pre x g W, (pre ++ [x]).map (·.1) <+: all → ok x W → I pre W → Blk W g MT (cs x) → w.heap.size ≤ g → w.heap.size ≤ W.heap.size → ECI (some l) 0 P n [] body (fun e _ W' => KeepsFrom w.heap.size W W' ∧ Kp n0 S W W' ∧ ((e = .normal ∧ I (pre ++ [x]) W') ∨ (e = .ret ∧ Ix (pre ++ [x]) W'))) (σ1 x g) W)
  (hdone : ∀ D xs W, w.heap.size ≤ D → xs.map (·.1) = all → I xs W → Kp n0 S w W → W.heap[D]? = some (.deferred (some [])) → EXI n ({ target := .collected D, args := #[] } :: ds) Q .normal σ W)
  (hstop : ∀ D pre W, w.heap.size ≤ D → pre ≠ [] → pre.map (·.1) <+: all → Ix pre W → Kp n0 S w W → W.heap[D]? = some (.deferred (some [])) → EXI n ({ target := .collected D, args := #[] } :: ds) Q .ret σ W) :
  ECI none k P n ds (.rangeFunc g #[d1, d2] assign body) Q σ w := fun a ha => by
 have hI := hIS.own;have hIx := hIxS.own;refine wpIn_rangeFunc fun fn hfn => ?_
 obtain ⟨rec, hrec⟩ : ∃ rec : LoopState → Option Code → Loop, rec = fun st pe => { state := st, pending := pe, fn, tmps := a.tmps, params := #[d1, d2], assign, body, defers := w.heap.size } := ⟨_, rfl⟩
 obtain ⟨W1, eW1⟩ : ∃ W1, W1 = (w.alloc (.deferred (some []))).alloc (.loop (rec .ready none)) := ⟨_, rfl⟩;have hL := World.alloc_heap_new (w.alloc (.deferred (some []))) (.loop (rec .ready none));rw [World.size_alloc, ← eW1] at hL;have hD : W1.heap[w.heap.size]? = some (.deferred (some [])) := by rw [eW1]; exact (Below.heap_alloc _ _ _ (by simp)).trans (World.alloc_heap_new w _)
 have hs1 : W1.heap.size = w.heap.size + 2 := by rw [eW1]; simp
 have hI1 : I [] W1 := by rw [eW1]; exact hI.alloc _ (hI.alloc _ h0)
 have hK1 : Kp n0 S w W1 := by rw [eW1]; exact (Kp.alloc w hn0 _).trans (Kp.alloc _ (by simp; omega) _)
 refine ⟨w.heap.size + 1, [{ target := .collected w.heap.size, args := #[] }], W1, { target := .fn (.func gf) caps, args := #[.func (.yield (w.heap.size + 1)) #[] #[]] }, W1, gf, #[.func (.yield (w.heap.size + 1)) #[] #[]] ++ caps, W1, ?_, ?_, ?_, ?_, fr_depth _ _, ?_⟩
 ·rw [eW1, hrec]; exact run_enterLoop_outer _ _ _ _ _
 ·simp only [resolve, ha.eval hg]
  simp [go_sem]
 ·intro f' hf'; trivial
 ·simp [invoke, go_sem, eg]
 ·refine CallsIn.mono (callsIn_fr (hit (w.heap.size + 1) (fun pre W => I pre W ∧ w.heap.size + 2 ≤ W.heap.size ∧ W.heap[w.heap.size + 1]? = some (.loop (rec .ready none)) ∧ W.heap[w.heap.size]? = some (.deferred (some [])))
   (fun pre W => Ix pre W ∧ w.heap.size + 2 ≤ W.heap.size ∧ W.heap[w.heap.size + 1]? = some (.loop (rec .done (some .ret))) ∧ W.heap[w.heap.size]? = some (.deferred (some [])))
   W1 hK1 (by omega) ?_ ?_ ?_ ⟨hI1, by omega, hL, hD⟩)) ?_
  ·rintro s A B ⟨h1, h2, h3, h4⟩ hb
   exact ⟨hIS s A B h1 (hb.mono (by omega)), Nat.le_trans h2 hb.size, hb.other h3 rfl (by omega), hb.other h4 rfl (by omega)⟩
  ·rintro s A B ⟨h1, h2, h3, h4⟩ hb
   exact ⟨hIxS s A B h1 (hb.mono (by omega)), Nat.le_trans h2 hb.size, hb.other h3 rfl (by omega), hb.other h4 rfl (by omega)⟩
  ·rintro pre x W hokx ⟨hi, hsz, hl, hk⟩ hpf
   have hlt : w.heap.size + 1 < W.heap.size := by omega
   have hy := run_yield (P := P) (args := #[.int .i64 (x.1.getD 0 0), x.2]) hl (by rw [hrec]; rfl)
   rw [hrec] at hy;refine ⟨fn, _, assign, body, hy, roundIn_of_wpIn hfn (hassign (w.heap.size + 1) x W _ hokx (fun g a' W' ha' hq hbel hgW => ?_) _ (env_arg2 ha hd1 hd2))⟩
   have hl' : W'.heap[w.heap.size + 1]? = some (.loop (rec .ready none)) := (hbel.block _ hlt).trans hl;have hk' : W'.heap[w.heap.size]? = some (.deferred (some [])) := (hbel.block _ (by omega)).trans hk
   have hsz' := hbel.size;refine ⟨_, run_beginRound hl' (by rw [hrec]), ?_⟩
   obtain ⟨W2, eW2⟩ : ∃ W2, W2 = W'.putObj (w.heap.size + 1) (.loop { rec .ready none with state := .busy }) := ⟨_, rfl⟩;have hl2 : W2.heap[w.heap.size + 1]? = some (.loop { rec .ready none with state := .busy }) := by rw [eW2]; exact World.putObj_heap_same (by omega)
   have hk2 : W2.heap[w.heap.size]? = some (.deferred (some [])) := by rw [eW2]; exact (World.putObj_heap_other (by omega)).trans hk'
   have hw2 : Kp n0 S W W2 := by rw [eW2]; exact (Kp.of_below hbel (by omega)).trans (Kp.putObj _ (by omega) hl' rfl)
   have hkw2 : KeepsFrom (w.heap.size + 1 + 1) W W2 := (KeepsFrom.below hbel).trans fun j o hj ho _ => by rw [eW2]; exact (World.putObj_heap_other (by omega)).trans ho
   have hi2 : I pre W2 := by rw [eW2]; exact hI.putObj _ (hIS _ _ _ hi (Soft.of_below hbel)) (by omega) hl' rfl
   have hok2 : ok x W2 := by rw [eW2]; exact hok.putObj _ (hokB _ _ _ hokx hbel) (by omega) hl' rfl
   have hq2 : Blk W2 g MT (cs x) := by
    rw [eW2];refine (World.putObj_heap_other fun e => ?_).trans hq
    subst e
    unfold Blk at hq
    rw [hq] at hl'
    cases hl'
   have hsz2 : w.heap.size + 2 ≤ W2.heap.size := Nat.le_trans hsz hw2.size;rw [← eW2];refine wpIn_mono (hbody (w.heap.size + 1) pre x g W2 hpf hok2 hi2 hq2 (by omega) (by omega) a' ha') ?_
   rintro e a3 W3 ⟨hk3, hp3, h3⟩
   have hl3 := hk3 _ _ (by omega) hl2 rfl
   have hd3 := hk3 _ _ (by omega) hk2 rfl
   have fin : ∀ jump : Option Code, ∃ W4, (Instr.endRound (w.heap.size + 1) jump).run P W3 = .ok (.bool jump.isNone) W4 ∧ W4 = W3.putObj (w.heap.size + 1) (.loop (rec (if jump.isNone then .ready else .done) jump)) ∧ (Kp n0 S W W4 ∧ KeepsFrom (w.heap.size + 1 + 1) W W4) ∧ w.heap.size + 2 ≤ W4.heap.size ∧ W4.heap[w.heap.size + 1]? = some (.loop (rec (if jump.isNone then .ready else .done) jump)) ∧ W4.heap[w.heap.size]? = some (.deferred (some [])) := fun jump => by
    have hr := run_endRound (P := P) jump hl3;rw [hrec] at hr ⊢;have hk4 : Kp n0 S W3 (W3.putObj (w.heap.size + 1) (.loop (rec (if jump.isNone then .ready else .done) jump))) := Kp.putObj _ (by omega) hl3 rfl
    rw [hrec] at hk4
    exact ⟨_, hr, rfl, ⟨hw2.trans (hp3.trans hk4), (hkw2.trans (hk3.mono (by omega))).trans fun j o hj ho _ => (World.putObj_heap_other (by omega)).trans ho⟩, Nat.le_trans hsz2 (Nat.le_trans hp3.size hk4.size), World.putObj_heap_same (Array.getElem?_eq_some_iff.1 hl3).1, (World.putObj_heap_other (by omega)).trans hd3⟩
   rcases h3 with ⟨rfl, hi3⟩ | ⟨rfl, hi3⟩
   ·obtain ⟨W4, hr, e4, k4, s4, l4, d4⟩ := fin none
    exact ⟨_, W4, hr, k4.1, k4.2, .inl ⟨rfl, by rw [e4]; exact hI.putObj _ hi3 (by omega) hl3 rfl, s4, l4, d4⟩⟩
   ·obtain ⟨W4, hr, e4, k4, s4, l4, d4⟩ := fin (some .ret)
    exact ⟨_, W4, hr, k4.1, k4.2, .inr ⟨rfl, by rw [e4]; exact hIx.putObj _ hi3 (by omega) hl3 rfl, s4, l4, d4⟩⟩
  ·rintro e W2 ⟨⟨v, rfl⟩, hkk, ⟨xs, hS, hi, hsz, hl, hk⟩ | ⟨pre, hne, hS, hi, hsz, hl, hk⟩⟩
   ·refine ⟨none, _, by have := run_endLoop (P := P) hl (by rw [hrec]; simp); rw [hrec] at this; exact this, ?_⟩
    exact hdone w.heap.size xs _ (Nat.le_refl _) hS (hI.putObj _ hi (by omega) hl rfl) (hK1.trans (hkk.trans (Kp.putObj _ (by omega) hl rfl))) ((World.putObj_heap_other (by omega)).trans hk) _ ⟨ha.env, by rw [List.singleton_append, ha.ds]⟩
   ·refine ⟨some .ret, _, by have := run_endLoop (P := P) hl (by rw [hrec]; simp); rw [hrec] at this; exact this, wpIn_ret ?_⟩
    exact hstop w.heap.size pre _ (Nat.le_refl _) hne hS (hIx.putObj _ hi (by omega) hl rfl) (hK1.trans (hkk.trans (Kp.putObj _ (by omega) hl rfl))) ((World.putObj_heap_other (by omega)).trans hk) _ ⟨ha.env, by rw [List.singleton_append, ha.ds]⟩
end
section
variable {n : Nat} {σ : Sg} {w : World} {dst : Option Tmp} {ty : TypeId} {pos : String} {af : Array Edge} {g : Option (Nat × Bool)} {x y z : Operand} {at' : Array TypeId}
theorem mf_101_0_2 {x0 x1 : Operand} {v0 v1 : Value} (h0 : evS σ x0 = some v0) (h1 : evS σ x1 = some v1) : Gives Try.prog n σ w ⟨dst, .makeFunc (.func 101) #[] #[x0, x1], ty, pos, af, g⟩ (.func (.func 101) #[] #[v0, v1]) := fun a ha => by
 simp only [execOp, List.map_toArray, List.map_cons, List.map_nil, ha.eval h0, ha.eval h1]
 simp [go_sem]
end
theorem ways_fn {v0 v3 v4 v5 : Value} {z1 z2 : Value} {tk : List Tr} (h8 : tk.length = 8) (w : World) : Calls Try.prog 96 #[.agg #[v0, z1, z2, v3, v4, v5], .agg (tkC tk).toArray] w fun e w' => (∃ b1 b2, e = .returned (.func (.func 101) #[] #[.pointer (some ⟨b1, 0, none⟩), .pointer (some ⟨b2, 0, none⟩)]) ∧ Blk w' b1 120 (tkC tk).toArray ∧ Blk w' b2 116 #[v0, z1, z2, v3, v4, v5] ∧ w.heap.size ≤ b1 ∧ w.heap.size ≤ b2) ∧ Below w.heap.size w w' := by
 have hbw := Below.refl w.heap.size w;refine EC.enter 6 Try.func96 rfl rfl rfl (EC.seq (EC.region (EL.newP (bx_116 rfl) rfl ?_)));intro g1 w1 q1 hb1 hg1 hl1;have bhbw_1 := Nat.le_trans hbw.size hg1;replace hbw := bo_ hbw hb1;clear hb1 hg1 hl1;refine EL.newP (x_boxA rfl) rfl ?_;intro g2 w2 q2 hb2 hg2 hl2;have n1_2 := q1.na hg2;have bhbw_2 := Nat.le_trans hbw.size hg2;replace q1 := q1.bl hb2;replace hbw := bo_ hbw hb2;clear hb2 hg2 hl2;refine EL.as rfl rfl (EL.nil (EX.seq (EC.seq (EC.region (EL.val (mf_101_0_2 rfl rfl) rfl (EL.as rfl rfl (EL.nil (EX.seq (EC.ret ?_)))))))))
 exact EX.done (res1 rfl rfl) ⟨⟨_, _, rfl, q2, q1, bhbw_2, bhbw_1⟩, hbw⟩
/-- a tank behind a cleaning of kind k, or without one -/
def wayT (ru : Rules) (tk : List Tr) (k : Int) : List Tr := if k < 0 then tk else washT ru tk k.toNat
theorem wayT_ok {ru : Rules} {tk : List Tr} (hro : RulesOk ru) (ht : TkOk tk) (k : Int) : TkOk (wayT ru tk k) := by
 unfold wayT
 split
 ·exact ht
 ·exact washT_ok ht hro _
def allK (K : Nat) : List (List Int) := (kindsL K).map fun k => [k]
theorem kindsL_succ {K : Nat} : kindsL (K + 1) = kindsL K ++ [((K : Nat) : Int)] := by
 unfold kindsL
 rw [List.range_succ, List.map_append, List.cons_append]
 rfl
theorem allK_succ {K : Nat} : allK (K + 1) = allK K ++ [[((K : Nat) : Int)]] := by
 unfold allK
 rw [kindsL_succ, List.map_append]
 rfl
theorem allK_le {n : Nat} : ∀ k, allK n <+: allK (n + k)
 | 0 => List.prefix_refl _
 | k + 1 => (allK_le k).trans (by rw [← Nat.add_assoc, allK_succ]; exact List.prefix_append _ _)
theorem allK_pre {x K : Nat} (h : x < K) : allK x ++ [[((x : Nat) : Int)]] <+: allK K := by
 rw [← allK_succ];have h1 := allK_le (n := x + 1) (K - (x + 1))
 rwa [show x + 1 + (K - (x + 1)) = K by omega] at h1
theorem allK_one {K : Nat} : [([-1] : List Int)] <+: allK K := by
 have h := allK_le (n := 0) K
 rwa [Nat.zero_add] at h
def okW (ru : Rules) (tk : List Tr) (x : It) (_ : World) : Prop := ∃ k : Int, x.1 = [k] ∧ x.2 = .agg (tkC (wayT ru tk k)).toArray
set_option maxHeartbeats 1000000 in
theorem ways_iter {ru : Rules} {ua up : List Value} {vl va vp vk : Value} {w : World} {B : Nat} (hr : RdRules w B vl va vp vk ru ua up) (hro : RulesOk ru) {tk : List Tr} (ht : TkOk tk)
  {n0 : Nat} {S : List Nat} (hBn : B ≤ n0) (hn0 : n0 ≤ w.heap.size) (hS : memB S 116 = false ∧ memB S 120 = false) {b1 b2 : Nat} (hq1 : Blk w b1 120 (tkC tk).toArray) (hq2 : Blk w b2 116 #[vl, .int .i64 ru.fade.lo, .int .i64 ru.fade.hi, va, vp, vk]) :
  IterAt2 [] Try.prog 101 #[.pointer (some ⟨b1, 0, none⟩), .pointer (some ⟨b2, 0, none⟩)] (okW ru tk) n0 S (allK ru.kinds.length) w := by
 intro la J Jx W hkW hlt_ hJ hJx hY hJ0;have hn0W := Nat.le_trans hn0 hkW.size;have qc1 := hkW.blk _ _ _ hq1 hS.2;have qc2 := hkW.blk _ _ _ hq2 hS.1;have hkp := Kp.refl n0 S W;have hkw := hkW;have hk4 := hro.k4;obtain ⟨Al, cl, rfl, _⟩ := hr.levels.shape;obtain ⟨Aa, ca, rfl, _⟩ := hr.allow.rd.shape;obtain ⟨Ap, cp, rfl, _⟩ := hr.apart.rd.shape;obtain ⟨Ak, ck, rfl, _⟩ := hr.kinds.shape;change Calls Try.prog 101 #[.func (.yield la) #[] #[], .pointer (some ⟨b1, 0, none⟩), .pointer (some ⟨b2, 0, none⟩)] W _;refine EC.enter 25 Try.func101 rfl rfl rfl (EC.seq (EC.seq (EC.inn (k := 0) (ECI.region (ELI.val (x_move rfl) rfl (ELI.val (x_loadA rfl (qc1.range (PartAt.whole _)) Try.underlying120 rfl (sz_120.trans (congrArg some (tkC_8 ht.n8).symm))) rfl ?_))))));have hpf : (([] : List It) ++ [(([-1] : List Int), Value.agg (tkC (wayT ru tk (-1))).toArray)]).map (·.1) <+: allK ru.kinds.length := allK_one;obtain ⟨fn_, tmps_, assign_, body_, hi_, hR_⟩ := hY [] ([-1], .agg (tkC (wayT ru tk (-1))).toArray) _ ⟨-1, rfl, rfl⟩ hJ0 hpf;refine ELI.yield2 rfl rfl rfl rfl hi_ hR_ ?_
 rintro e wy ⟨hky, hkf, ⟨rfl, hJy⟩ | ⟨rfl, hJy⟩⟩
 ·
  refine ⟨_, rfl, ?_⟩;refine ELI.val (x_not rfl) rfl (ELI.nil (EXI.of ?_));replace hkp := hkp.trans hky;replace hkw := hkw.trans hky;replace qc1 := hky.blk _ _ _ qc1 hS.2;replace qc2 := hky.blk _ _ _ qc2 hS.1;have hJ0 := hJy;refine EX.seq (EC.no rfl (EC.skip (EX.seq (EC.seq (EC.region (EL.val (fa_116_0 rfl) rfl (EL.val (fa_28_4 rfl) rfl (EL.val (ld_26 rfl (qc2.at (j := 5) rfl)) rfl (EL.val (ln_26 rfl) rfl ?_)))))))));refine EL.mv rfl rfl (EL.nil (EX.seq (EC.block ?_)));refine EC.loopD [4, 13, 14, 15, 16, 17, 18, 19, 20, 21, 22, 23, 24] (fun x : List It × Nat => [(13, .int .i64 (x.2 : Nat))]) (fun x W1 => x.2 ≤ ru.kinds.length ∧ x.1.map (·.1) = allK x.2 ∧ Blk W1 b1 120 (tkC tk).toArray ∧ Blk W1 b2 116 #[.slice Al ru.levels.length cl, .int .i64 ru.fade.lo, .int .i64 ru.fade.hi, .slice Aa ru.allow.length ca, .slice Ap ru.apart.length cp, .slice Ak ru.kinds.length ck] ∧ Kp n0 S W W1 ∧ Kp n0 S w W1 ∧ J x.1 W1) (fun x => ru.kinds.length - x.2) (_, 0) ⟨Nat.zero_le _, rfl, qc1, qc2, hkp, hkw, hJ0⟩ ⟨rfl, trivial⟩ ?_
  clear qc1 qc2 hkp hkw hJ0 hJy
  rintro ⟨pre, x⟩ wx ⟨hx, hall, qc1, qc2, hkp, hkw, hJ0⟩
  dsimp only at hx hall hJ0
  by_cases hlt : x < ru.kinds.length
  ·
   refine EC.seq (EC.region ?_);refine EL.val (x_lss rfl rfl (decide_eq_true (show (((x : Nat) : Int) < ((ru.kinds.length : Nat) : Int)) by omega))) rfl ?_
   refine EL.nil (EX.seq (EC.seq (EC.yes rfl (EC.skip (EX.seq (EC.seq (EC.block (EC.seq (EC.region ?_)))))))));refine EL.mv rfl rfl (EL.as rfl rfl (EL.nil (EX.seq (EC.seq (EC.inn (k := 0) (ECI.region (ELI.val (x_move rfl) rfl (ELI.val (x_move rfl) rfl (ELI.val (ld_116 rfl (qc2.at (j := 0) rfl) (qc2.at (j := 1) rfl) (qc2.at (j := 2) rfl) (qc2.at (j := 3) rfl) (qc2.at (j := 4) rfl) (qc2.at (j := 5) rfl)) rfl ?_)))))))));refine ELI.val (x_loadA rfl (qc1.range (PartAt.whole _)) Try.underlying120 rfl (sz_120.trans (congrArg some (tkC_8 ht.n8).symm))) rfl (ELI.val (x_move rfl) rfl (ELI.call (cl_72 rfl rfl rfl) rfl (wash_any (hr.below (hkw.below.mono hBn)) hro ht hlt) ?_))
   rintro e w5 ⟨rfl, hc5⟩
   refine ⟨_, rfl, ?_⟩;replace hkp := hkp.trans (Kp.of_below hc5 (Nat.le_trans hn0W hkp.size));replace hkw := hkw.trans (Kp.of_below hc5 (Nat.le_trans hn0 hkw.size));replace hJ0 := hJ _ _ _ hJ0 (Soft.of_below hc5);replace qc1 := qc1.bl hc5;replace qc2 := qc2.bl hc5;have hpf : (pre ++ [(([((x : Nat) : Int)] : List Int), Value.agg (tkC (wayT ru tk ((x : Nat) : Int))).toArray)]).map (·.1) <+: allK ru.kinds.length := by rw [List.map_append, hall]; exact allK_pre hlt
   have hwy : wayT ru tk ((x : Nat) : Int) = washT ru tk x := by unfold wayT; rw [if_neg (by omega), Int.toNat_natCast]
   obtain ⟨fn_, tmps_, assign_, body_, hi_, hR_⟩ := hY pre ([((x : Nat) : Int)], .agg (tkC (wayT ru tk ((x : Nat) : Int))).toArray) _ ⟨_, rfl, rfl⟩ hJ0 hpf;rw [hwy] at hi_;refine ELI.yield2 rfl rfl rfl rfl hi_ hR_ ?_
   rintro e wy ⟨hky, hkf, ⟨rfl, hJy⟩ | ⟨rfl, hJy⟩⟩
   ·
    refine ⟨_, rfl, ?_⟩;refine ELI.val (x_not rfl) rfl (ELI.nil (EXI.of ?_));replace hkp := hkp.trans hky;replace hkw := hkw.trans hky;replace qc1 := hky.blk _ _ _ qc1 hS.2;replace qc2 := hky.blk _ _ _ qc2 hS.1;have hJ0 := hJy;refine EX.seq (EC.no rfl (EC.skip (EX.blk (EX.seq (EC.region ?_)))));refine EL.val (x_add rfl rfl (c := ((x + 1 : Nat) : Int)) ((IntWalk.i64_in _ ⟨by first | omega | (simp only; omega), by first | omega | (simp only; omega)⟩).trans (by first | omega | (simp only; omega)))) rfl ?_
    refine EL.mv rfl rfl (EL.nil ?_);refine EX.roundD (pre ++ [([((x : Nat) : Int)], .agg (tkC (wayT ru tk ((x : Nat) : Int))).toArray)], x + 1) ⟨rfl, trivial⟩ (by repeat first | with_reducible exact Sub.refl _ | refine sub_past rfl ?_ | exact Sub.refl _ | refine sub_del rfl ?_ | refine sub_insL_nil ?_) ⟨hlt, by rw [List.map_append, hall]; exact allK_succ.symm, qc1, qc2, hkp, hkw, hJ0⟩ (by simp only; omega)
   ·
    refine ⟨_, rfl, ?_⟩;refine ELI.val (x_not rfl) rfl (ELI.nil (EXI.of ?_));replace hkp := hkp.trans hky;replace hkw := hkw.trans hky;replace qc1 := hky.blk _ _ _ qc1 hS.2;replace qc2 := hky.blk _ _ _ qc2 hS.1;refine EX.seq (EC.yes rfl (EC.ret (EX.blk_ret (EX.seq_ret (EX.seq_ret (EX.blk_ret ?_))))))
    exact EX.done (res0 rfl) ⟨⟨_, rfl⟩, hkp, .inr ⟨_, by simp, hpf, hJy⟩⟩
  ·
   have hxe : x = ru.kinds.length := by omega
   subst hxe;refine EC.seq (EC.region ?_);refine EL.val (x_lss rfl rfl (decide_eq_false (show ¬(((ru.kinds.length : Nat) : Int) < ((ru.kinds.length : Nat) : Int)) by omega))) rfl ?_
   refine EL.nil (EX.seq (EC.seq (EC.no rfl (EC.exit (EX.seq_exit (EX.seq_exit (EX.blk_here ?_)))))))
   exact EX.done' (res0 rfl) ⟨⟨_, rfl⟩, hkp, .inl ⟨pre, hall, hJ0⟩⟩
 ·
  refine ⟨_, rfl, ?_⟩;refine ELI.val (x_not rfl) rfl (ELI.nil (EXI.of ?_));replace hkp := hkp.trans hky;replace hkw := hkw.trans hky;replace qc1 := hky.blk _ _ _ qc1 hS.2;replace qc2 := hky.blk _ _ _ qc2 hS.1;refine EX.seq (EC.yes rfl (EC.ret (EX.seq_ret ?_)))
  exact EX.done (res0 rfl) ⟨⟨_, rfl⟩, hkp, .inr ⟨_, by simp, hpf, hJy⟩⟩
theorem x_clip {n : Nat} {σ : Sg} {w : World} {dst : Option Tmp} {ty : TypeId} {pos : String} {af : Array Edge} {g : Option (Nat × Bool)} {x y z : Operand} {W : World} {A : Option Addr} {m c base e size : Nat} {xs : List Value} (ho : W.ownsRow base e size (.slice A m c) m xs) (hx : evS σ x = some (.slice A m c)) (hy : evS σ y = some (.int .i64 (m : Int))) (hz : evS σ z = some (.int .i64 (m : Int))) : Gives Try.prog n σ w ⟨dst, .slice 65 x none (some y) (some z), ty, pos, af, g⟩ (.slice A m m) := fun a ha => by
 have k0 : (0 : Int) ≤ (m : Int) := Int.natCast_nonneg _
 simp only [execOp, Option.map_some, Option.map_none, ha.eval hx, ha.eval hy, ha.eval hz]
 obtain ⟨_, ⟨h, hm⟩ | ⟨b, cap, cur, h, _, _, hc, _⟩⟩ := ho
 ·simp only [Value.slice.injEq] at h
  obtain ⟨rfl, rfl, rfl⟩ := h
  simp [go_sem]
 ·simp only [Value.slice.injEq] at h
  obtain ⟨rfl, _, rfl⟩ := h;have k3 : (m : Int) ≤ (c : Int) := by omega
  by_cases e : m = 0
  ·subst e; simp [go_sem]
  ·simp [go_sem, k0, k3, hc, e]
theorem Clip_any {W : World} {A : Option Addr} {m c base e size : Nat} {xs : List Value} (w : World) (ho : W.ownsRow base e size (.slice A m c) m xs) : Calls Try.prog 97 #[.slice A m c] w fun e w' => e = .returned (.slice A m m) ∧ Below w.heap.size w w' := by
 have hbw := Below.refl w.heap.size w;refine EC.enter 9 Try.func97 rfl rfl rfl (EC.seq (EC.region (EL.as rfl rfl (EL.nil (EX.seq (EC.seq (EC.region (EL.mv rfl rfl (EL.mv rfl rfl ?_)))))))));refine EL.val (ln_65 rfl) rfl (EL.mv rfl rfl (EL.val (ln_65 rfl) rfl (EL.val (x_clip ho rfl rfl rfl) rfl (EL.as rfl rfl (EL.nil (EX.seq (EC.ret ?_)))))))
 exact EX.done (res1 rfl rfl) ⟨rfl, hbw⟩
/-- what taking the marks does, to all that is no mark -/
structure TookO (n0 : Nat) (w w' : World) : Prop where
 took : Took n0 w w'
 keep : ∀ (j : Nat) (o : Obj), w.heap[j]? = some o → (∀ x, o ≠ .deferred x) → w'.heap[j]? = some o
theorem leaves_marksO {P : Program} {fn : Func} {tmps : Array Value} {R : Ending → World → Prop} {n0 k : Nat} : ∀ (ds : List Deferred) (w : World), Marks n0 ds w → ds.Nodup → (∀ w', TookO n0 w w' → ∃ v, (results fn tmps).run P w' = .ok v w' ∧ R (.returned v) w') → LeavesInM Fence.wide k P fn tmps R ds .returning w
 | [], w, _, _, h => h w ⟨⟨Below.refl _ _, rfl, fun _ _ _ h => h⟩, fun _ _ h _ => h⟩
 | d :: ds, w, hm, hd, h => by
  obtain ⟨D, hD, rfl, hw⟩ := hm d (List.mem_cons_self ..);have ho : ∀ j, j ≠ D → (w.putObj D (.deferred none)).heap[j]? = w.heap[j]? := fun j hj => World.putObj_heap_other hj
  refine ⟨by simp, .inl ⟨D, _, rfl, run_takeDeferred hw, leaves_marksO (n0 := n0) ds _ (fun d' hd' => ?_) (List.nodup_cons.1 hd).2 fun w' ht => h w' ?_⟩⟩
  ·obtain ⟨D', h1, rfl, h3⟩ := hm d' (List.mem_cons_of_mem _ hd')
   refine ⟨D', h1, rfl, (ho D' fun e => ?_).trans h3⟩
   subst e
   exact (List.nodup_cons.1 hd).1 hd'
  ·have hk : Kp n0 [] w (w.putObj D (.deferred none)) := Kp.putObj _ hD hw rfl
   refine ⟨⟨hk.below.trans ht.took.below, ht.took.size.trans (by simp), fun g T cs hg => ht.took.blk g T cs (hk.blk g T cs hg rfl)⟩, fun j o hj hn => ht.keep j o ((ho j fun e => ?_).trans hj) hn⟩
   subst e;rw [hw] at hj
   injection hj with hj
   exact hn _ hj.symm
section
variable {P : Program} {n : Nat} {ds : List Deferred} {σ : Sg} {w : World}
theorem EXI.doneO {fn : Func} {R : Ending → World → Prop} {n0 : Nat} {v : Value} (hm : Marks n0 ds w) (hd : ds.Nodup) (hr : ∀ w', TookO n0 w w' → ∀ a, Env n σ a → (results fn a.tmps).run P w' = .ok v w') (h : ∀ w', TookO n0 w w' → R (.returned v) w') : EXI n ds (bodyPostM Fence.wide 0 P fn R) .ret σ w := fun a ha => by
 show LeavesInM Fence.wide 0 P fn a.tmps R a.defers .returning w
 rw [ha.ds]
 exact leaves_marksO ds w hm hd fun w' ht => ⟨v, hr w' ht ⟨a.tmps, []⟩ ha.env, h w' ht⟩
end
section
variable {A B : World} {n0 g : Nat} {S : List Nat} {o : Obj}
theorem Kp.other (hn : n0 ≤ g) (ho : A.heap[g]? = some o) (hc : o.isCells = false) (hg : A.grownBy B (some g)) : Kp n0 S A B :=
 ⟨hg.os, hg.tape, hg.output, hg.size, fun k hk => hg.block k (by have := (Array.getElem?_eq_some_iff.1 ho).1; omega) (fun e => by injection e; omega),
  fun k T cs hq _ => hq.grown hg fun e => by
   injection e with e
   subst e
   unfold Blk at hq
   rw [ho] at hq
   injection hq with hq
   subst hq
   cases hc⟩
theorem KeepsFrom.low {b : Nat} (hg : A.grownBy B (some g)) (h : g < b) : KeepsFrom b A B := fun j o hb hj _ => (hg.block j (Array.getElem?_eq_some_iff.1 hj).1 fun e => by injection e; omega).trans hj
theorem Marks.other {ds : List Deferred} (h : Marks n0 ds A) (ho : A.heap[g]? = some o) (hn : ∀ x, o ≠ .deferred x) (hg : A.grownBy B (some g)) : Marks n0 ds B := fun d hd => by
 obtain ⟨D, h1, h2, h3⟩ := h d hd;refine ⟨D, h1, h2, (hg.block D (Array.getElem?_eq_some_iff.1 h3).1 fun e => ?_).trans h3⟩
 injection e with e
 subst e;rw [h3] at ho
 injection ho with ho
 exact hn _ ho.symm
theorem MarksIn.other {ds : List Deferred} {W0 : World} (h : MarksIn n0 ds W0 A) (ho : A.heap[g]? = some o) (hn : ∀ x, o ≠ .deferred x) (hg : A.grownBy B (some g)) : MarksIn n0 ds W0 B := ⟨h.marks.other ho hn hg, h.old⟩
theorem MarksIn.soft {ds : List Deferred} {W0 : World} {b m : Nat} {U : List Nat} (h : MarksIn n0 ds W0 A) (hm : W0.heap.size ≤ m) (hs : Soft b m U A B) : MarksIn n0 ds W0 B := by
 obtain ⟨row, hg, hr⟩ := hs;refine ⟨fun d hd => ?_, h.old⟩
 obtain ⟨D, k1, k2, k3⟩ := h.marks d hd;obtain ⟨D', _, k5, k6⟩ := h.old d hd;have e : D' = D := by rw [k2] at k5; injection k5 with k5 _; injection k5 with k5; exact k5.symm
 subst e;have hlt := (Array.getElem?_eq_some_iff.1 k6).1;refine ⟨D', k1, k2, (hg.block D' (Array.getElem?_eq_some_iff.1 k3).1 (fun e => ?_)).trans k3⟩
 rcases hr D' e.symm with ⟨_, T, cs, _, h2⟩ | ⟨h1, _⟩
 ·unfold Blk at h2
  rw [k3] at h2
  cases h2
 ·omega
end
theorem MapV.at_ {P : Program} {k : TypeId} {w w' : World} {b n : Nat} {l : List (Value × Value)} (h : MapV P k w b n l) (hk : ∀ o, w.heap[b]? = some o → (∀ x, o ≠ .deferred x) → w'.heap[b]? = some o) : MapV P k w' b n l := by
 obtain ⟨es, clock, h1, h2⟩ := h
 exact ⟨es, clock, hk _ h1 (fun x e => by cases e), h2⟩
def kcost (ru : Rules) (k : Int) : Int := if k < 0 then 0 else (ru.kinds.getD k.toNat kd0).cost
def goT (ru : Rules) (c : Nat) (s : List (List Tr)) (i : Nat) (k : Int) : Option (List (List Tr)) :=
 if (mayT ru (wayT ru (s.getD i []) k) c ru.levels.length).1 = true then some (s.set i (loadT ru (wayT ru (s.getD i []) k) c)) else none
def yardOf (ru : Rules) (many : Nat) : Yard (List (List Tr)) := ⟨many, ru.kinds.length, kcost ru, goT ru⟩
theorem kcost_bd {ru : Rules} (hro : RulesOk ru) (k : Int) : 0 ≤ kcost ru k ∧ kcost ru k ≤ 100000000 := by
 unfold kcost
 split
 ·omega
 ·exact (kd_bd hro _).2.2
theorem goT_ok {ru : Rules} (hro : RulesOk ru) {c : Nat} {s s' : List (List Tr)} {i : Nat} {k : Int} (hs : FlOk s) (hi : i < 3) (h : goT ru c s i k = some s') : FlOk s' := by
 unfold goT at h
 split at h
 ·injection h with h
  subst h
  exact hs.set (loadT_ok (wayT_ok hro (hs.get hi) k) hro c)
 ·cases h
theorem addS_ok {ru : Rules} (hro : RulesOk ru) {p : Pl} {j : Nat} (hp : PlOk p j) (i : Nat) (k : Int) : PlOk (addS p ⟨i, k⟩ (numK k) (kcost ru k)) (j + 1) := by
 obtain ⟨h1, h2, h3, h4, h5⟩ := hp;have hk := kcost_bd hro k;have hn : 0 ≤ numK k ∧ numK k ≤ 1 := by unfold numK; split <;> omega
 unfold addS
 refine ⟨by rw [List.length_append, h1]; rfl, ?_, ?_, ?_, ?_⟩ <;> dsimp only <;> omega
theorem kindsL_len {K : Nat} : (kindsL K).length = K + 1 := by simp [kindsL]
theorem allK_len {K : Nat} : (allK K).length = K + 1 := by simp [allK, kindsL_len]
/-- what is handed, of a beginning of all kinds -/
theorem pre_k {K : Nat} {pre : List It} {x : It} (h : (pre ++ [x]).map (·.1) <+: allK K) : pre.length < K + 1 ∧ x.1 = [(kindsL K).getD pre.length 0] ∧ (kindsL K).take (pre.length + 1) = (kindsL K).take pre.length ++ [(kindsL K).getD pre.length 0] := by
 have hl := h.length_le;rw [allK_len, List.length_map, List.length_append, List.length_singleton] at hl;have hl2 : pre.length < (kindsL K).length := by rw [kindsL_len]; omega
 refine ⟨by omega, ?_, by rw [List.take_succ_eq_append_getElem hl2, getD_in hl2]⟩
 obtain ⟨t, ht⟩ := h;have e : (allK K)[pre.length]? = some x.1 := by
  rw [← ht, List.map_append, List.append_assoc, List.getElem?_append_right (by simp)]
  simp
 unfold allK at e
 rw [List.getElem?_map, List.getElem?_eq_getElem hl2] at e;rw [getD_in hl2]
 exact (Option.some.inj e).symm
theorem kinds_val {K : Nat} {i : Nat} (h : i < K + 1) : (i = 0 ∧ (kindsL K).getD i 0 = -1) ∨ ∃ k : Nat, k < K ∧ (kindsL K).getD i 0 = ((k : Nat) : Int) := by
 rcases i with _ | i
 ·exact .inl ⟨rfl, rfl⟩
 ·refine .inr ⟨i, by omega, ?_⟩
  unfold kindsL
  rw [List.getD_cons_succ, getD_in (by rw [List.length_map, List.length_range]; omega)]
  simp
theorem flatK_succ {β : Type} {K : Nat} {pre : List It} {x : It} (h : (pre ++ [x]).map (·.1) <+: allK K) {k : Int} (hx : x.1 = [k]) (f : Int → List β) : ((kindsL K).take (pre ++ [x]).length).flatMap f = ((kindsL K).take pre.length).flatMap f ++ f k := by
 obtain ⟨_, h2, h3⟩ := pre_k h;rw [hx] at h2
 injection h2 with h2 _
 rw [List.length_append, List.length_singleton, h3, List.flatMap_append, ← h2]
 simp
/-- one more that must not be -/
theorem frontK_no {L M : List Sx} {Y : Yard (List (List Tr))} {c : Nat} {x : Sx} {i : Nat} {k : Int} {F : List Sx} (h : FrontOf (L ++ M) F) (hg : Y.go c x.1 i k = none) : FrontOf (L ++ (M ++ ext1 Y c x i k)) F := by
 unfold ext1
 rw [hg]
 simpa using h
theorem frontK_yes {L M : List Sx} {Y : Yard (List (List Tr))} {c : Nat} {x : Sx} {i : Nat} {k : Int} {F : List Sx} {s : List (List Tr)} (hg : Y.go c x.1 i k = some s) (h : FrontOf ((L ++ M) ++ [(s, addS x.2 ⟨i, k⟩ (numK k) (Y.cost k))]) F) : FrontOf (L ++ (M ++ ext1 Y c x i k)) F := by
 unfold ext1
 rw [hg, ← List.append_assoc]
 exact h
theorem flatI_succ {β : Type} {i : Nat} (f : Nat → List β) : (List.range (i + 1)).flatMap f = (List.range i).flatMap f ++ f i := by
 rw [List.range_succ, List.flatMap_append]
 simp
section
variable {W W' : World} {base mb n j r c n0 : Nat} {F D : List Sx}
theorem Front.tookO (h : Front W base mb n j F) (ht : TookO n0 W W') : Front W' base mb n j F := by
 obtain ⟨l, h1, h2⟩ := h
 exact ⟨l, h1.at_ (fun o ho hn => ht.keep _ _ ho hn), h2.keep fun _ _ _ ho => own_took ho ht.took⟩
theorem Front.soft {b m : Nat} (h : Front W base mb n j F) (hm : mb < m) (hs : Soft b m [] W W') : Front W' base mb n j F := by
 obtain ⟨es, clock, hmap⟩ := h.map
 exact h.mild (.soft hs (fun T hT => by simp [memB] at hT) hmap rfl hm)
theorem RFront.soft {b m : Nat} (h : RFront W base mb r n j F D c) (hm : mb < m) (hr : r < m) (hs : Soft b m [] W W') : RFront W' base mb r n j F D c := by
 obtain ⟨es, clock, hmap⟩ := h.front.map;obtain ⟨mi, si, sei, ci, hit⟩ := h.iter
 exact h.mild (.soft hs (fun T hT => by simp [memB] at hT) hmap rfl hm) (.soft hs (fun T hT => by simp [memB] at hT) hit rfl hr)
theorem own_soft {b m k : Nat} {u : Value} {xs : List Value} (ho : W.ownsRow base 70 2 u k xs) (hs : Soft b m [] W W') : W'.ownsRow base 70 2 u k xs := by
 obtain ⟨row, hg, hr⟩ := hs;refine own_keep ho hg fun g e => ?_
 rcases hr g e with ⟨_, T, cs, h1, _⟩ | ⟨_, h⟩
 ·simp [memB] at h1
 ·exact h
/-- another map turns -/
theorem Front.other {ob m j2 : Nat} {G : List Sx} (h : Front W base mb n j F) (ho : Front W base ob m j2 G) (hg : W.grownBy W' (some ob)) (hne : ob ≠ mb) : Front W' base mb n j F := by
 obtain ⟨es, clock, hmap⟩ := ho.map
 exact h.mild (.other hg hmap rfl hne)
theorem RFront.other {ob m j2 : Nat} {G : List Sx} (h : RFront W base mb r n j F D c) (ho : Front W base ob m j2 G) (hg : W.grownBy W' (some ob)) (hne : ob ≠ mb) (hr : ob ≠ r) : RFront W' base mb r n j F D c := by
 obtain ⟨es, clock, hmap⟩ := ho.map
 exact h.mild (.other hg hmap rfl hne) (.other hg hmap rfl hr)
theorem own_map {k ob m j2 : Nat} {G : List Sx} {u : Value} {xs : List Value} (hu : W.ownsRow base 70 2 u k xs) (ho : Front W base ob m j2 G) (hg : W.grownBy W' (some ob)) : W'.ownsRow base 70 2 u k xs := by
 obtain ⟨es, clock, hmap⟩ := ho.map
 exact (Mild.other (k := ob + 1) hg hmap rfl (by omega)).row hu
end
section
variable {n : Nat} {σ : Sg} {w : World} {dst : Option Tmp} {ty : TypeId} {pos : String} {af : Array Edge} {g : Option (Nat × Bool)} {x y : Operand}
theorem x_slfl {b h : Nat} (hx : evS σ x = some (.pointer (some ⟨b, 0, none⟩))) (hh : evS σ y = some (.int .i64 (h : Int))) (h8 : h ≤ 3) : Gives Try.prog n σ w ⟨dst, .slice 150 x none (some y) none, ty, pos, af, g⟩ (.slice (some ⟨b, 0, none⟩) h 3) := fun a ha => by
 have k1 : (0 : Int) ≤ (h : Int) := Int.natCast_nonneg _;have k3 : (h : Int) ≤ (3 : Int) := by omega
 simp only [execOp, Option.map_some, Option.map_none, ha.eval hx, ha.eval hh]
 simp [go_sem, k1, k3, h8]
end
section
variable {n : Nat} {σ : Sg} {w : World} {dst : Option Tmp} {ty : TypeId} {pos : String} {af : Array Edge} {g : Option (Nat × Bool)} {x y z : Operand} {at' : Array TypeId}
theorem al_171 (a : Act) (_ : Env n σ a) : (execOp a.eval ⟨dst, .alloc 171, ty, pos, af, g⟩).run Try.prog w = .ok (.value (.pointer (some ⟨w.heap.size, 0, none⟩))) (w.alloc (.cells #[.map none] 171)) := by
 simp only [execOp]
 simp [go_sem]
theorem sz_171 : (Try.prog.info? 171).map (·.size) = some 1 := by kernel_rfl
theorem ld_171 {b o : Nat} {v0 : Value} (hx : evS σ x = some (.pointer (some ⟨b, o, none⟩))) (c0 : w.cell? ⟨b, o, none⟩ = some v0) : Gives Try.prog n σ w ⟨dst, .load 171 x, ty, pos, af, g⟩ (v0) := fun a ha => by
 simp only [execOp, ha.eval hx]
 simp [go_sem, c0]
theorem ln_180 {A : Option Addr} {m c : Nat} (hx : evS σ x = some (.slice A m c)) : Gives Try.prog n σ w ⟨dst, .call { callee := .builtin .len, args := #[x], argTypes := #[180] }, ty, pos, af, g⟩ (.int .i64 (m : Int)) := fun a ha => by
 simp only [execOp, resolve, List.map_toArray, List.map_cons, List.map_nil, ha.eval hx]
 simp [go_sem]
theorem ix_180 {b o m c k : Nat} (hx : evS σ x = some (.slice (some ⟨b, o, none⟩) m c)) (hy : evS σ y = some (.int .i64 (k : Int))) (hk : k < m) : Gives Try.prog n σ w ⟨dst, .indexAddr 180 x y, ty, pos, af, g⟩ (.pointer (some ⟨b, o + k * 32, none⟩)) := fun a ha => by
 have k0 : (0 : Int) ≤ (k : Int) := Int.natCast_nonneg _;have k1 : (k : Int) < (m : Int) := by omega
 simp only [execOp, ha.eval hx, ha.eval hy]
 simp [go_sem, k0, k1]
theorem cl_96 {x0 x1 : Operand} {v0 v1 : Value} (h0 : evS σ x0 = some v0) (h1 : evS σ x1 = some v1) (a : Act) (ha : Env n σ a) : (execOp a.eval ⟨dst, .call { callee := .value (.func 96), args := #[x0, x1], argTypes := at' }, ty, pos, af, g⟩).run Try.prog w = .ok (.enter 96 #[v0, v1]) w := by
 simp only [execOp, resolve, List.map_toArray, List.map_cons, List.map_nil, ha.eval h0, ha.eval h1]
 simp [go_sem, Act.eval]
theorem ixa_150 {b o k : Nat} (hx : evS σ x = some (.pointer (some ⟨b, o, none⟩))) (hy : evS σ y = some (.int .i64 (k : Int))) (hk : k < 3) : Gives Try.prog n σ w ⟨dst, .indexAddr 150 x y, ty, pos, af, g⟩ (.pointer (some ⟨b, o + k * 32, none⟩)) := fun a ha => by
 have k0 : (0 : Int) ≤ (k : Int) := Int.natCast_nonneg _;have k1 : (k : Int) < 3 := by omega
 simp only [execOp, ha.eval hx, ha.eval hy]
 simp [go_sem, k0, k1]
theorem bs_65_1 {x0 : Operand} {v0_0 v0_1 : Value} (h0 : evS σ x0 = some (.agg #[v0_0, v0_1]))  (a : Act) (ha : Env n σ a) : (execOp a.eval ⟨dst, .buildSlice 65 1 #[(0, x0)], ty, pos, af, g⟩).run Try.prog w = .ok (.value (.slice (some ⟨w.heap.size, 0, none⟩) 1 1)) (w.alloc (.cells #[v0_0, v0_1] 70)) := by
 simp only [execOp, List.map_toArray, List.map_cons, List.map_nil, ha.eval h0]
 go_simp
theorem cl_97 {x0 : Operand} {v0 : Value} (h0 : evS σ x0 = some v0) (a : Act) (ha : Env n σ a) : (execOp a.eval ⟨dst, .call { callee := .value (.func 97), args := #[x0], argTypes := at' }, ty, pos, af, g⟩).run Try.prog w = .ok (.enter 97 #[v0]) w := by
 simp only [execOp, resolve, List.map_toArray, List.map_cons, List.map_nil, ha.eval h0]
 simp [go_sem, Act.eval]
theorem bd_70_0_1 {x0 x1 : Operand} {z0 : Int} {z1 : Int} (h0 : evS σ x0 = some (.int .i64 z0)) (h1 : evS σ x1 = some (.int .i64 z1)) : Gives Try.prog n σ w ⟨dst, .build 70 #[(0, x0), (1, x1)], ty, pos, af, g⟩ (.agg #[.int .i64 z0, .int .i64 z1]) := fun a ha => by
 simp only [execOp, List.map_toArray, List.map_cons, List.map_nil, ha.eval h0, ha.eval h1]
 go_simp
theorem bd_134_0_1_2 {x0 x1 x2 : Operand} {A0 : Option Addr} {m0 : Nat} {c0 : Nat} {z1 : Int} {z2 : Int} (h0 : evS σ x0 = some (.slice A0 m0 c0)) (h1 : evS σ x1 = some (.int .i64 z1)) (h2 : evS σ x2 = some (.int .i64 z2)) : Gives Try.prog n σ w ⟨dst, .build 134 #[(0, x0), (1, x1), (2, x2)], ty, pos, af, g⟩ (.agg #[.slice A0 m0 c0, .int .i64 z1, .int .i64 z2]) := fun a ha => by
 simp only [execOp, List.map_toArray, List.map_cons, List.map_nil, ha.eval h0, ha.eval h1, ha.eval h2]
 go_simp
theorem cl_98 {x0 x1 x2 : Operand} {v0 v1 v2 : Value} (h0 : evS σ x0 = some v0) (h1 : evS σ x1 = some v1) (h2 : evS σ x2 = some v2) (a : Act) (ha : Env n σ a) : (execOp a.eval ⟨dst, .call { callee := .value (.func 98), args := #[x0, x1, x2], argTypes := at' }, ty, pos, af, g⟩).run Try.prog w = .ok (.enter 98 #[v0, v1, v2]) w := by
 simp only [execOp, resolve, List.map_toArray, List.map_cons, List.map_nil, ha.eval h0, ha.eval h1, ha.eval h2]
 simp [go_sem, Act.eval]
end
theorem fl0_len : (flC [tank0, tank0, tank0]).length = 96 := flC_len (f := [tank0, tank0, tank0]) (by intro t ht; simp only [List.mem_cons, List.not_mem_nil, or_false, or_self] at ht; subst ht; rfl)
theorem plv_add {W : World} {base : Nat} {A : Option Addr} {c i : Nat} {k : Int} {p : Pl} {n cst a b : Int} (ho : W.ownsRow base 70 2 (.slice A (p.steps.length + 1) c) (p.steps.length + 1) (stsC p.steps ++ [.int .i64 (i : Nat), .int .i64 k])) (ha : a = p.washes + n) (hb : b = p.cost + cst) : PlV W base (.agg #[.slice A (p.steps.length + 1) c, .int .i64 a, .int .i64 b]) (addS p ⟨i, k⟩ n cst) := by
 subst ha hb;have e : (p.steps ++ [(⟨i, k⟩ : St)]).length = p.steps.length + 1 := by rw [List.length_append, List.length_singleton]
 refine ⟨A, c, ?_, ?_⟩
 ·unfold addS; dsimp only; rw [e]
 ·unfold addS; dsimp only; rw [e, stsC_app]; exact ho
/-- the assign code of a range over ways: a number, and a box -/
theorem assignW {ru : Rules} {tk : List Tr} (hro : RulesOk ru) (ht : TkOk tk) {n d1 d2 e1 e2 id1 id2 ty1 ty2 ty3 : Nat} {pos1 pos2 pos3 : String} {af1 af2 af3 : Array Edge} {σ : Sg} (he1 : Nat.blt e1 n = true) (he2 : Nat.blt e2 n = true) (h12 : Nat.beq d1 d2 = false) (h21 : Nat.beq d2 e1 = false) (h22 : Nat.beq d2 e2 = false) : ∀ (la : Nat) (x : It) (W : World) (K : Act → World → Prop), okW ru tk x W →
  (∀ g a' W', EnvG n [] (ins (ins (ins (ins σ d1 (.int .i64 (x.1.getD 0 0))) d2 x.2) e1 (.int .i64 (x.1.getD 0 0))) e2 (.pointer (some ⟨g, 0, none⟩))) a' → Blk W' g 120 (tkC (wayT ru tk (x.1.getD 0 0))).toArray → Below W.heap.size W W' → W.heap.size ≤ g → K a' W') →
  ECI (some la) 0 Try.prog n [] (.seq (.region id1 [⟨some e1, .assign (.tmp d1), ty1, pos1, af1, none⟩].toArray false) (.region id2 [⟨some e2, .alloc 120, ty2, pos2, af2, none⟩, ⟨none, .store 120 (.tmp e2) (.tmp d2), ty3, pos3, af3, none⟩].toArray false)) (Exit.then K (fun _ _ _ => False)) (ins (ins σ d1 (.int .i64 (x.1.getD 0 0))) d2 x.2) W := by
 intro la x W K hok hK;obtain ⟨k, ek, ev_⟩ := hok;have ek2 : x.1.getD 0 0 = k := by rw [ek]; rfl
 rw [ek2] at hK ⊢;have htw := wayT_ok hro ht k;refine ECI.seq ?_;refine ECI.regionL (by repeat (first | exact lets_body | exact lets_no | refine lets_then ?_ | refine lets_blk ?_)) (by simp [noDefer]) ?_
 refine EL.val (x_assign (v := .int .i64 k) (by simp [evS, ins, h12])) he1 ?_
 refine EL.nil (EX.toI (EXI.seq ?_));refine ECI.regionL (by repeat (first | exact lets_body | exact lets_no | refine lets_then ?_ | refine lets_blk ?_)) (by simp [noDefer]) ?_
 refine EL.newP al_tank he2 ?_;intro g W1 q hb1 hg1 hl1;refine EL.store (l' := tkC (wayT ru tk k)) (v := .agg (tkC (wayT ru tk k)).toArray) (g := g) (o := 0) (by simp [evS, ins]) (by simp [evS, ins, h21, h22, ev_]) q sz_120 rfl ((lenV_eq _).trans (tkC_8 htw.n8)) (by rw [lenV_eq, Nat.ble_eq]; exact Nat.le_of_eq (tkC_8 tank0_ok.n8).symm) (tkC_one _) ?_
 intro W2 q2_ hg2;rw [spl_whole ((tkC_8 htw.n8).trans (tkC_8 tank0_ok.n8).symm)] at q2_;refine EL.nil ?_
 exact fun a ha => hK g a W2 ha.g q2_ (below_store hb1 hg2 hg1) hg1
set_option maxHeartbeats 4000000 in
theorem next_any {ru : Rules} {ua up : List Value} {vl va vp vk : Value} {w : World} {B : Nat} (hr : RdRules w B vl va vp vk ru ua up) (hB : B ≤ w.heap.size) (hro : RulesOk ru) {base mb n j : Nat} {F : List Sx} (hf : Front w base mb n j F) (hbs : base ≤ w.heap.size) (hj : j ≤ 100) (hn : n ≤ 1000000000000) {many cg : Nat} (hm : many ≤ 3) (hcg : cg < ru.levels.length) :
  Calls Try.prog 87 #[rulesV vl va vp vk ru, .map (some mb), .int .i64 (many : Nat), .int .i64 (cg : Nat)] w fun e w' => (∃ ob F2 n2, e = .returned (.map (some ob)) ∧ Front w' base ob n2 (j + 1) F2 ∧ n2 ≤ n * 15 ∧ FrontOf (F.flatMap (extY (yardOf ru many) cg)) F2 ∧ w.heap.size ≤ ob) ∧ Below w.heap.size w w' := by
 obtain ⟨Al, cl, rfl, _⟩ := hr.levels.shape;obtain ⟨Aa, ca, rfl, _⟩ := hr.allow.rd.shape;obtain ⟨Ap, cp, rfl, _⟩ := hr.apart.rd.shape;obtain ⟨Ak, ck, rfl, _⟩ := hr.kinds.shape;have hmbl := hf.lt;have hk4 := hro.k4;have hbw := Below.refl w.heap.size w
 unfold rulesV
 refine EC.marks 93 Try.func87 rfl rfl rfl (ECI.seq (ECI.regionLD (EL.newP (bx_116 rfl) rfl ?_)));intro g1 w1 q1 hb1 hg1 hl1;have bhbw_1 := Nat.le_trans hbw.size hg1;replace hf := hf.below hb1;replace hbw := bo_ hbw hb1;clear hb1 hg1 hl1;refine EL.newP (bx_3 rfl rfl) rfl ?_;intro g2 w2 q2 hb2 hg2 hl2;have n1_2 := q1.na hg2;have bhbw_2 := Nat.le_trans hbw.size hg2;replace q1 := q1.bl hb2;replace hf := hf.below hb2;replace hbw := bo_ hbw hb2;clear hb2 hg2 hl2;refine EL.as rfl rfl (EL.nil (EX.ofD (EXI.seq (ECI.seq (ECI.regionLD (EL.newFront (base := base) (j := j + 1) rfl ?_))))));intro ob w3 hF2 hb3 hob;replace hob := Nat.le_trans hbw.size hob;have hne1 : ob ≠ mb := by omega
 replace q1 := q1.bl hb3;replace q2 := q2.bl hb3;replace hf := hf.below hb3;replace hbw := bo_ hbw hb3;clear hb3;refine EL.newP al_171 rfl ?_;intro g4 w4 q4 hb4 hg4 hl4;have n1_4 := q1.na hg4;have n2_4 := q2.na hg4;have bhbw_4 := Nat.le_trans hbw.size hg4;replace q1 := q1.bl hb4;replace q2 := q2.bl hb4;replace hf := hf.below hb4;replace hF2 := hF2.below hb4;replace hbw := bo_ hbw hb4;clear hb4 hg4 hl4;refine EL.store rfl rfl q4 sz_171 rfl rfl rfl rfl ?_;intro w5 hq5 hg5;replace q1 := q1.gr hg5 n1_4;replace q2 := q2.gr hg5 n2_4;replace hf := hf.box q4 rfl hg5;replace hF2 := hF2.box q4 rfl hg5;replace hbw := below_store hbw hg5 bhbw_4;replace q4 := hq5;clear hg5 hq5;refine EL.nil (EX.ofD (EXI.seq (ECI.seq (ECI.seq (ECI.regionLD (EL.mv rfl rfl ?_))))));obtain ⟨w6, c0, hrun, hR, hcn, hb6⟩ := hf.range;obtain ⟨rr, err⟩ : ∃ z, z = w5.heap.size := ⟨_, rfl⟩;rw [← err] at hrun hR;have hrw : w.heap.size ≤ rr := by rw [err]; exact hbw.size
 have hor : ob < rr := by rw [err]; exact hF2.lt
 refine EL.rangeM rfl rfl hrun ?_;clear hf;replace q1 := q1.bl hb6;replace q2 := q2.bl hb6;replace q4 := q4.bl hb6;replace hF2 := hF2.below hb6;replace hbw := bo_ hbw hb6;clear hb6 hrun;refine EL.nil (EX.ofD (EXI.seq (ECI.block ?_)));refine ECI.loopD [10, 11, 12, 13, 14, 15, 16, 17, 18, 19, 23, 24, 25, 26, 27, 28, 29, 30, 31, 32, 33, 34, 35, 36, 37, 38, 41, 42, 43, 44, 45, 46, 47, 48, 49, 50, 51, 52, 53, 54, 55, 56, 57, 58, 59, 60, 61, 62, 63, 64, 65, 66, 67, 68, 69, 70, 71, 72, 73, 74, 75, 76, 77, 78, 79, 80, 81, 82, 83, 84, 85, 86, 87, 88, 89, 90, 91] (fun x : List Sx × Nat × List Deferred => []) (fun x => x.2.2) (fun x W => RFront W base mb rr n j F x.1 x.2.1 ∧ (∃ F2 n2, Front W base ob n2 (j + 1) F2 ∧ n2 ≤ x.1.length * 15 ∧ FrontOf (x.1.flatMap (extY (yardOf ru many) cg)) F2) ∧ x.1.length + x.2.1 ≤ n ∧ Blk W g1 116 #[.slice Al ru.levels.length cl, .int .i64 ru.fade.lo, .int .i64 ru.fade.hi, .slice Aa ru.allow.length ca, .slice Ap ru.apart.length cp, .slice Ak ru.kinds.length ck] ∧ Blk W g2 3 #[.int .i64 (cg : Nat)] ∧ Blk W g4 171 #[.map (some ob)] ∧ Marks w.heap.size x.2.2 W ∧ x.2.2.Nodup ∧ Below w.heap.size w W) (fun x => x.2.1) ([], c0, []) ⟨hR, ⟨_, _, hF2, Nat.le_refl _, FrontOf.none⟩, by simpa using hcn, q1, q2, q4, (fun d hd => by cases hd), List.nodup_nil, hbw⟩ trivial rfl ?_
 clear q1 q2 q4 hR hF2 hbw
 rintro ⟨D, c, dl⟩ wx ⟨hR, ⟨F2, n2, hF2, hn2, hfo⟩, hDc, q1, q2, q4, hM, hnd, hbw⟩
 dsimp only at hR hn2 hfo hDc hM hnd
 refine ECI.seq (ECI.regionLD ?_)
 rcases hR.next _ with ⟨hall, hrun⟩ | ⟨y, v, w7, c2, hyF, hpv, hrun, hR2, hcnt, hg7, hsz7, hen⟩
 ·
  refine EL.nextM rfl rfl hrun (EL.val (x_extract rfl rfl) rfl (EL.nil (EX.ofD (EXI.seq (ECI.seq (ECI.no rfl (ECI.exit (EXI.seq_exit (EXI.seq_exit ?_)))))))));refine EXI.blk_here (EXI.seq (ECI.seq (ECI.regionLD (EL.val (ld_171 rfl (q4.at (j := 0) rfl)) rfl (EL.as rfl rfl (EL.nil (EX.ofD (EXI.seq (ECI.ret ?_)))))))));have hR0 := hR.sub
  exact EXI.doneO hM hnd (v := .map (some ob)) (fun w' ht => res1 rfl rfl) (fun w' ht => ⟨⟨ob, F2, n2, rfl, hF2.tookO ht, by omega, hfo.same (fun x => by simp only [List.mem_flatMap]; exact ⟨fun ⟨u, h1, h2⟩ => ⟨u, hR0 u h1, h2⟩, fun ⟨u, h1, h2⟩ => ⟨u, hall u h1, h2⟩⟩), hob⟩, hbw.trans ht.took.below⟩)
 ·
  refine EL.nextM rfl rfl hrun ?_;obtain ⟨Av, cv, rfl, hop⟩ := hpv;obtain ⟨mi, si, sei, ci, hit⟩ := hR.iter;replace q1 := blk_iter2 q1 hR hg7;replace q2 := blk_iter2 q2 hR hg7;replace q4 := blk_iter2 q4 hR hg7;replace hF2 := hF2.mild (.other hg7 hit rfl (by omega))
  replace hM := hM.other hit (fun x e => by cases e) hg7
  replace hbw := hbw.trans (below_blk hg7 hrw hbw.size);clear hR hrun hit hg7 hsz7;have hR := hR2;clear hR2;obtain ⟨hys, hyl, hyw0, hyw1, hyc0, hyc1⟩ := hR.front.ok _ hyF;refine EL.val (x_extract rfl rfl) rfl (EL.nil (EX.ofD (EXI.seq (ECI.seq (ECI.yes rfl (ECI.skip (EXI.seq (ECI.block (ECI.seq ?_)))))))));refine ECI.regionLD (EL.val (x_entry2 rfl hen) rfl (EL.val (x_extract rfl rfl) rfl (EL.val (x_extract rfl rfl) rfl (EL.newP al_fleet rfl ?_))));intro g8 w8 q8 hb8 hg8 hl8;have n1_8 := q1.na hg8;have n2_8 := q2.na hg8;have n4_8 := q4.na hg8;have bhbw_8 := Nat.le_trans hbw.size hg8;replace q1 := q1.bl hb8;replace q2 := q2.bl hb8;replace q4 := q4.bl hb8;replace hR := hR.below hb8;replace hF2 := hF2.below hb8;replace hM := hM.below hb8;replace hop := own_below hop hb8 (Nat.le_refl _);replace hbw := bo_ hbw hb8;clear hb8 hg8 hl8;refine EL.newP al_134 rfl ?_;intro g9 w9 q9 hb9 hg9 hl9;have n1_9 := q1.na hg9;have n2_9 := q2.na hg9;have n4_9 := q4.na hg9;have n8_9 := q8.na hg9;have bhbw_9 := Nat.le_trans hbw.size hg9;replace q1 := q1.bl hb9;replace q2 := q2.bl hb9;replace q4 := q4.bl hb9;replace q8 := q8.bl hb9;replace hR := hR.below hb9;replace hF2 := hF2.below hb9;replace hM := hM.below hb9;replace hop := own_below hop hb9 (Nat.le_refl _);replace hbw := bo_ hbw hb9;clear hb9 hg9 hl9;refine EL.store (l' := (flC y.1)) rfl rfl q8 sz_150 rfl ((lenV_eq _).trans hys.fl.len) (by rw [lenV_eq, Nat.ble_eq]; exact Nat.le_of_eq (fl0_len.symm)) (flC_one _) ?_
  intro w10 hq10 hg10;rw [spl_whole (hys.fl.len.trans fl0_len.symm)] at hq10;replace q1 := q1.gr hg10 n1_8;replace q2 := q2.gr hg10 n2_8;replace q4 := q4.gr hg10 n4_8;replace q9 := q9.gr hg10 n8_9.symm;replace hR := hR.box q8 rfl hg10;replace hF2 := hF2.box q8 rfl hg10;replace hM := hM.keeps (keeps_blk q8 hg10);replace hop := own_type hop q8 rfl hg10;replace hbw := below_store hbw hg10 bhbw_8;replace q8 := hq10;clear hg10 hq10;refine EL.store rfl rfl q9 sz_134 rfl rfl rfl rfl ?_;intro w11 hq11 hg11;replace q1 := q1.gr hg11 n1_9;replace q2 := q2.gr hg11 n2_9;replace q4 := q4.gr hg11 n4_9;replace q8 := q8.gr hg11 n8_9;replace hR := hR.box q9 rfl hg11;replace hF2 := hF2.box q9 rfl hg11;replace hM := hM.keeps (keeps_blk q9 hg11);replace hop := own_type hop q9 rfl hg11;replace hbw := below_store hbw hg11 bhbw_9;replace q9 := hq11;clear hg11 hq11;refine EL.nil (EX.ofD (EXI.seq (ECI.seq (ECI.regionLD (EL.mv rfl rfl (EL.val (x_slfl rfl rfl hm) rfl (EL.val (ln_180 rfl) rfl (EL.mv rfl rfl (EL.nil ?_)))))))));refine EX.ofD (EXI.seq (ECI.block ?_));refine ECI.loopD [12, 13, 14, 15, 16, 17, 18, 19, 31, 32, 33, 34, 35, 36, 37, 38, 41, 42, 43, 44, 45, 46, 47, 48, 49, 50, 51, 52, 53, 54, 55, 56, 57, 58, 59, 60, 61, 62, 63, 64, 65, 66, 67, 68, 69, 70, 71, 72, 73, 74, 75, 76, 77, 78, 79, 80, 81, 82, 83, 84, 85, 86, 87, 88, 89, 90, 91] (fun x : Nat × List Deferred => [(31, .int .i64 (x.1 : Nat))]) (fun x => x.2) (fun x W => x.1 ≤ many ∧ RFront W base mb rr n j F (D ++ [y]) c2 ∧ (∃ F2 n2, Front W base ob n2 (j + 1) F2 ∧ n2 ≤ D.length * 15 + x.1 * 5 ∧ FrontOf (D.flatMap (extY (yardOf ru many) cg) ++ (List.range x.1).flatMap fun i => (kindsL ru.kinds.length).flatMap (ext1 (yardOf ru many) cg y i)) F2) ∧ Blk W g1 116 #[.slice Al ru.levels.length cl, .int .i64 ru.fade.lo, .int .i64 ru.fade.hi, .slice Aa ru.allow.length ca, .slice Ap ru.apart.length cp, .slice Ak ru.kinds.length ck] ∧ Blk W g2 3 #[.int .i64 (cg : Nat)] ∧ Blk W g4 171 #[.map (some ob)] ∧ Blk W g8 150 (flC y.1).toArray ∧ Blk W g9 134 #[.slice Av y.2.steps.length cv, .int .i64 y.2.washes, .int .i64 y.2.cost] ∧ W.ownsRow base 70 2 (.slice Av y.2.steps.length cv) y.2.steps.length (stsC y.2.steps) ∧ Marks w.heap.size x.2 W ∧ x.2.Nodup ∧ Below w.heap.size w W) (fun x => many - x.1) (0, dl) ⟨Nat.zero_le _, hR, ⟨_, _, hF2, by simpa using hn2, by simpa using hfo⟩, q1, q2, q4, q8, q9, hop, hM, hnd, hbw⟩ ⟨rfl, trivial⟩ rfl ?_
  clear q1 q2 q4 q8 q9 hR hF2 hn2 hfo hop hM hnd hbw
  rintro ⟨i, dm⟩ wi ⟨hi, hR, ⟨F3, n3, hF2, hn2, hfo⟩, q1, q2, q4, q8, q9, hop, hM, hnd, hbw⟩
  dsimp only at hi hn2 hfo hM hnd
  by_cases hlt : i < many
  ·
   have hi3 : i < 3 := by omega
   obtain ⟨tk, etk⟩ : ∃ z, z = y.1.getD i [] := ⟨_, rfl⟩;have htk := hys.get hi3;have hpt := tk_at hys.fl hi3;rw [← etk] at htk hpt;refine ECI.seq (ECI.regionLD ?_);refine EL.val (x_lss rfl rfl (decide_eq_true (show (((i : Nat) : Int) < ((many : Nat) : Int)) by omega))) rfl ?_
   refine EL.nil (EX.ofD (EXI.seq (ECI.seq (ECI.yes rfl (ECI.skip (EXI.seq (ECI.seq (ECI.block (ECI.seq ?_)))))))));refine ECI.regionLD (EL.mv rfl rfl (EL.val (ix_180 rfl rfl hlt) rfl ?_));refine EL.val (x_loadA rfl (q8.range (by rw [Nat.zero_add]; exact hpt)) Try.underlying120 rfl (sz_120.trans (congrArg some (tkC_8 htk.n8).symm))) rfl ?_
   refine EL.newP al_3 rfl ?_;intro g12 w12 q12 hb12 hg12 hl12;have n1_12 := q1.na hg12;have n2_12 := q2.na hg12;have n4_12 := q4.na hg12;have n8_12 := q8.na hg12;have n9_12 := q9.na hg12;have bhbw_12 := Nat.le_trans hbw.size hg12;replace q1 := q1.bl hb12;replace q2 := q2.bl hb12;replace q4 := q4.bl hb12;replace q8 := q8.bl hb12;replace q9 := q9.bl hb12;replace hR := hR.below hb12;replace hF2 := hF2.below hb12;replace hM := hM.below hb12;replace hop := own_below hop hb12 (Nat.le_refl _);replace hbw := bo_ hbw hb12;clear hb12 hg12 hl12;refine EL.newP al_tank rfl ?_;intro g13 w13 q13 hb13 hg13 hl13;have n1_13 := q1.na hg13;have n2_13 := q2.na hg13;have n4_13 := q4.na hg13;have n8_13 := q8.na hg13;have n9_13 := q9.na hg13;have n12_13 := q12.na hg13;have bhbw_13 := Nat.le_trans hbw.size hg13;replace q1 := q1.bl hb13;replace q2 := q2.bl hb13;replace q4 := q4.bl hb13;replace q8 := q8.bl hb13;replace q9 := q9.bl hb13;replace q12 := q12.bl hb13;replace hR := hR.below hb13;replace hF2 := hF2.below hb13;replace hM := hM.below hb13;replace hop := own_below hop hb13 (Nat.le_refl _);replace hbw := bo_ hbw hb13;clear hb13 hg13 hl13;refine EL.store rfl rfl q12 sz_3 rfl rfl rfl rfl ?_;intro w14 hq14 hg14;replace q1 := q1.gr hg14 n1_12;replace q2 := q2.gr hg14 n2_12;replace q4 := q4.gr hg14 n4_12;replace q8 := q8.gr hg14 n8_12;replace q9 := q9.gr hg14 n9_12;replace q13 := q13.gr hg14 n12_13.symm;replace hR := hR.box q12 rfl hg14;replace hF2 := hF2.box q12 rfl hg14;replace hM := hM.keeps (keeps_blk q12 hg14);replace hop := own_type hop q12 rfl hg14;replace hbw := below_store hbw hg14 bhbw_12;replace q12 := hq14;clear hg14 hq14;refine EL.store (l' := (tkC tk)) rfl rfl q13 sz_120 rfl ((lenV_eq _).trans (tkC_8 htk.n8)) (by rw [lenV_eq, Nat.ble_eq]; exact Nat.le_of_eq ((tkC_8 tank0_ok.n8).symm)) (tkC_one _) ?_
   intro w15 hq15 hg15;rw [spl_whole ((tkC_8 htk.n8).trans (tkC_8 tank0_ok.n8).symm)] at hq15;replace q1 := q1.gr hg15 n1_13;replace q2 := q2.gr hg15 n2_13;replace q4 := q4.gr hg15 n4_13;replace q8 := q8.gr hg15 n8_13;replace q9 := q9.gr hg15 n9_13;replace q12 := q12.gr hg15 n12_13;replace hR := hR.box q13 rfl hg15;replace hF2 := hF2.box q13 rfl hg15;replace hM := hM.keeps (keeps_blk q13 hg15);replace hop := own_type hop q13 rfl hg15;replace hbw := below_store hbw hg15 bhbw_13;replace q13 := hq15;clear hg15 hq15;refine EL.nil (EX.ofD (EXI.seq (ECI.seq (ECI.regionLD (EL.val (ld_116 rfl (q1.at (j := 0) rfl) (q1.at (j := 1) rfl) (q1.at (j := 2) rfl) (q1.at (j := 3) rfl) (q1.at (j := 4) rfl) (q1.at (j := 5) rfl)) rfl (EL.val (x_loadA rfl (q13.range (PartAt.whole _)) Try.underlying120 rfl (sz_120.trans (congrArg some (tkC_8 htk.n8).symm))) rfl (EL.call (cl_96 rfl rfl) rfl (ways_fn htk.n8 _) ?_)))))))
   rintro e w16 ⟨⟨b1, b2, rfl, qb1, qb2, hb1, hb2⟩, hc16⟩
   refine ⟨_, rfl, ?_⟩;replace q1 := q1.bl hc16;replace q2 := q2.bl hc16;replace q4 := q4.bl hc16;replace q8 := q8.bl hc16;replace q9 := q9.bl hc16;replace q12 := q12.bl hc16;replace q13 := q13.bl hc16;replace hR := hR.below hc16;replace hF2 := hF2.below hc16;replace hM := hM.below hc16;replace hop := own_below hop hc16 (Nat.le_refl _);replace hbw := bo_ hbw hc16;clear hc16;refine EL.nil (EX.ofD (EXI.seq (ECI.block ?_)));have ls_1 := q1.lt;have ls_2 := q2.lt;have ls_4 := q4.lt;have ls_8 := q8.lt;have ls_9 := q9.lt;have ls_12 := q12.lt;have hsz := hbw.size;have hl1 := hF2.lt;have hl2 := hR.front.lt;have hl3 := hR.lt;have hsoft : SoftI w.heap.size w16.heap.size [] (fun pre W => (∃ F2 n2, Front W base ob n2 (j + 1) F2 ∧ n2 ≤ D.length * 15 + i * 5 + pre.length ∧ FrontOf ((D.flatMap (extY (yardOf ru many) cg) ++ (List.range i).flatMap fun i => (kindsL ru.kinds.length).flatMap (ext1 (yardOf ru many) cg y i)) ++ ((kindsL ru.kinds.length).take pre.length).flatMap (ext1 (yardOf ru many) cg y i)) F2) ∧ RFront W base mb rr n j F (D ++ [y]) c2 ∧ Blk W g1 116 #[.slice Al ru.levels.length cl, .int .i64 ru.fade.lo, .int .i64 ru.fade.hi, .slice Aa ru.allow.length ca, .slice Ap ru.apart.length cp, .slice Ak ru.kinds.length ck] ∧ Blk W g2 3 #[.int .i64 (cg : Nat)] ∧ Blk W g4 171 #[.map (some ob)] ∧ Blk W g8 150 (flC y.1).toArray ∧ Blk W g9 134 #[.slice Av y.2.steps.length cv, .int .i64 y.2.washes, .int .i64 y.2.cost] ∧ Blk W g12 3 #[.int .i64 (i : Nat)] ∧ W.ownsRow base 70 2 (.slice Av y.2.steps.length cv) y.2.steps.length (stsC y.2.steps) ∧ MarksIn w.heap.size dm w16 W ∧ Below w.heap.size w W) := fun s A B' ⟨⟨F2, n2, h1, h2, h3⟩, h4, h5, h6, h7, h8, h9, h10, h11, h12, h13⟩ hs => ⟨⟨F2, n2, h1.soft hl1 hs, h2, h3⟩, h4.soft hl2 hl3 hs, hs.blk h5 rfl, hs.blk h6 rfl, hs.blk h7 rfl, hs.blk h8 rfl, hs.blk h9 rfl, hs.blk h10 rfl, own_soft h11 hs, h12.soft (Nat.le_refl _) hs, hs.below h13 h13.size hsz⟩
   refine rangeF2 (MT := 120) (cs := fun x => (tkC (wayT ru tk (x.1.getD 0 0))).toArray) (σ1 := fun x g => _) (ok := okW ru tk) (n0 := w.heap.size) (S := [150, 134]) rfl (fun args w => by kernel_rfl) rfl rfl (ways_iter (hr.below (hbw.mono hB)) hro htk hB hbw.size ⟨rfl, rfl⟩ qb1 qb2) hbw.size (fun pre W => (∃ F2 n2, Front W base ob n2 (j + 1) F2 ∧ n2 ≤ D.length * 15 + i * 5 + pre.length ∧ FrontOf ((D.flatMap (extY (yardOf ru many) cg) ++ (List.range i).flatMap fun i => (kindsL ru.kinds.length).flatMap (ext1 (yardOf ru many) cg y i)) ++ ((kindsL ru.kinds.length).take pre.length).flatMap (ext1 (yardOf ru many) cg y i)) F2) ∧ RFront W base mb rr n j F (D ++ [y]) c2 ∧ Blk W g1 116 #[.slice Al ru.levels.length cl, .int .i64 ru.fade.lo, .int .i64 ru.fade.hi, .slice Aa ru.allow.length ca, .slice Ap ru.apart.length cp, .slice Ak ru.kinds.length ck] ∧ Blk W g2 3 #[.int .i64 (cg : Nat)] ∧ Blk W g4 171 #[.map (some ob)] ∧ Blk W g8 150 (flC y.1).toArray ∧ Blk W g9 134 #[.slice Av y.2.steps.length cv, .int .i64 y.2.washes, .int .i64 y.2.cost] ∧ Blk W g12 3 #[.int .i64 (i : Nat)] ∧ W.ownsRow base 70 2 (.slice Av y.2.steps.length cv) y.2.steps.length (stsC y.2.steps) ∧ MarksIn w.heap.size dm w16 W ∧ Below w.heap.size w W) (fun _ _ => False) hsoft soft_false ⟨⟨_, _, hF2, hn2, by simpa using hfo⟩, hR, q1, q2, q4, q8, q9, q12, hop, hM.refl, hbw⟩ (fun _ _ _ _ h _ _ => h) (fun _ _ _ h _ => h) (assignW hro htk rfl rfl rfl rfl rfl) ?_ ?_ ?_
   ·
    clear q1 q2 q4 q8 q9 q12 hF2 hn2 hfo hR hop hM qb1 qb2;clear hbw
    rintro la pre ⟨x1, x2⟩ g15 W hpf ⟨k, ek, ev_⟩ ⟨⟨F4, n4, hF2, hn2, hfo⟩, hR, q1, q2, q4, q8, q9, q12, hop, hM, hbw⟩ q15 hg15 hWs
    dsimp only at ek ev_
    subst ek ev_;change Blk W g15 120 (tkC (wayT ru tk k)).toArray at q15;obtain ⟨hpl, hpk, _⟩ := pre_k hpf
    injection hpk with hpk _
    have hkv := kinds_val hpl;rw [← hpk] at hkv;have htw := wayT_ok hro htk k;have hkp := Kp.refl w.heap.size [150, 134] W;have hkf := KeepsFrom.refl w16.heap.size W;have nm_1 : g1 ≠ g15 := Nat.ne_of_lt (Nat.lt_of_lt_of_le ls_1 hg15);have nm_2 : g2 ≠ g15 := Nat.ne_of_lt (Nat.lt_of_lt_of_le ls_2 hg15);have nm_4 : g4 ≠ g15 := Nat.ne_of_lt (Nat.lt_of_lt_of_le ls_4 hg15);have nm_8 : g8 ≠ g15 := Nat.ne_of_lt (Nat.lt_of_lt_of_le ls_8 hg15);have nm_9 : g9 ≠ g15 := Nat.ne_of_lt (Nat.lt_of_lt_of_le ls_9 hg15);have nm_12 : g12 ≠ g15 := Nat.ne_of_lt (Nat.lt_of_lt_of_le ls_12 hg15);have bhbw_m := Nat.le_trans hsz hg15
    cases hmay : (mayT ru (wayT ru tk k) cg ru.levels.length).1
    ·
     have hgo : goT ru cg y.1 i k = none := by unfold goT; rw [← etk, hmay]; rfl
     refine ECI.block (ECI.seq (ECI.seq ?_));refine ECI.regionL (by repeat (first | exact lets_body | exact lets_no | refine lets_then ?_ | refine lets_blk ?_)) (by kernel_rfl) ?_
     refine EL.val (ld_116 rfl (q1.at (j := 0) rfl) (q1.at (j := 1) rfl) (q1.at (j := 2) rfl) (q1.at (j := 3) rfl) (q1.at (j := 4) rfl) (q1.at (j := 5) rfl)) rfl (EL.val (x_loadA rfl (q15.range (PartAt.whole _)) Try.underlying120 rfl (sz_120.trans (congrArg some (tkC_8 htw.n8).symm))) rfl (EL.val (ld_3 rfl (q2.at (j := 0) rfl)) rfl ?_));have hcall := may_any (hr.below (hbw.mono hB)) (Nat.le_trans hB hbw.size) hro htw hcg;rw [hmay] at hcall;refine EL.call (cl_65 rfl rfl rfl) rfl (hcall) ?_
     rintro e w17 ⟨rfl, hc17⟩
     refine ⟨_, rfl, ?_⟩;replace q1 := q1.bl hc17;replace q2 := q2.bl hc17;replace q4 := q4.bl hc17;replace q8 := q8.bl hc17;replace q9 := q9.bl hc17;replace q12 := q12.bl hc17;replace q15 := q15.bl hc17;replace hkp := hkp.trans (Kp.of_below hc17 hbw.size);replace hkf := hkf.trans (KeepsFrom.below hc17);replace hR := hR.below hc17;replace hF2 := hF2.below hc17;replace hM := hM.below hc17;replace hop := own_below hop hc17 (Nat.le_refl _);replace hbw := bo_ hbw hc17;clear hc17;clear hcall;refine EL.mv rfl rfl (EL.val (x_extract rfl rfl) rfl (EL.val (x_extract rfl rfl) rfl (EL.as rfl rfl (EL.as rfl rfl (EL.nil (EX.toI (EXI.seq (ECI.seq ?_))))))));refine ECI.regionL (by repeat (first | exact lets_body | exact lets_no | refine lets_then ?_ | refine lets_blk ?_)) (by kernel_rfl) ?_
     refine EL.mv rfl rfl (EL.val (x_not rfl) rfl (EL.nil (EX.toI (EXI.seq (ECI.yes rfl (ECI.exit (EXI.seq_exit (EXI.blk_here ?_))))))))
     exact fun a0 ha0 => ⟨hkf, hkp, .inl ⟨rfl, ⟨_, _, hF2, by simp only [List.length_append, List.length_singleton]; omega, by rw [flatK_succ hpf rfl]; exact frontK_no hfo hgo⟩, hR, q1, q2, q4, q8, q9, q12, hop, hM, hbw⟩⟩
    ·
     have hgo : goT ru cg y.1 i k = some (y.1.set i (loadT ru (wayT ru tk k) cg)) := by unfold goT; rw [← etk, hmay]; rfl
     have hsf : FlOk (y.1.set i (loadT ru (wayT ru tk k) cg)) := goT_ok hro hys hi3 hgo;have htl := loadT_ok htw hro cg;refine ECI.block (ECI.seq (ECI.seq ?_));refine ECI.regionL (by repeat (first | exact lets_body | exact lets_no | refine lets_then ?_ | refine lets_blk ?_)) (by kernel_rfl) ?_
     refine EL.val (ld_116 rfl (q1.at (j := 0) rfl) (q1.at (j := 1) rfl) (q1.at (j := 2) rfl) (q1.at (j := 3) rfl) (q1.at (j := 4) rfl) (q1.at (j := 5) rfl)) rfl (EL.val (x_loadA rfl (q15.range (PartAt.whole _)) Try.underlying120 rfl (sz_120.trans (congrArg some (tkC_8 htw.n8).symm))) rfl (EL.val (ld_3 rfl (q2.at (j := 0) rfl)) rfl ?_));have hcall := may_any (hr.below (hbw.mono hB)) (Nat.le_trans hB hbw.size) hro htw hcg;rw [hmay] at hcall;refine EL.call (cl_65 rfl rfl rfl) rfl (hcall) ?_
     rintro e w18 ⟨rfl, hc18⟩
     refine ⟨_, rfl, ?_⟩;replace q1 := q1.bl hc18;replace q2 := q2.bl hc18;replace q4 := q4.bl hc18;replace q8 := q8.bl hc18;replace q9 := q9.bl hc18;replace q12 := q12.bl hc18;replace q15 := q15.bl hc18;replace hkp := hkp.trans (Kp.of_below hc18 hbw.size);replace hkf := hkf.trans (KeepsFrom.below hc18);replace hR := hR.below hc18;replace hF2 := hF2.below hc18;replace hM := hM.below hc18;replace hop := own_below hop hc18 (Nat.le_refl _);replace hbw := bo_ hbw hc18;clear hc18;clear hcall;refine EL.mv rfl rfl (EL.val (x_extract rfl rfl) rfl (EL.val (x_extract rfl rfl) rfl (EL.as rfl rfl (EL.as rfl rfl (EL.nil (EX.toI (EXI.seq (ECI.seq ?_))))))));refine ECI.regionL (by repeat (first | exact lets_body | exact lets_no | refine lets_then ?_ | refine lets_blk ?_)) (by kernel_rfl) ?_
     refine EL.mv rfl rfl (EL.val (x_not rfl) rfl (EL.nil (EX.toI (EXI.seq (ECI.no rfl (ECI.skip (EXI.seq (ECI.seq ?_))))))));refine ECI.regionL (by repeat (first | exact lets_body | exact lets_no | refine lets_then ?_ | refine lets_blk ?_)) (by kernel_rfl) ?_
     refine EL.val (x_loadA rfl (q8.range (PartAt.whole _)) Try.underlying150 rfl (sz_150.trans (congrArg some hys.fl.len.symm))) rfl (EL.newP al_fleet rfl ?_);intro g19 w19 q19 hb19 hg19 hl19;have n1_19 := q1.na hg19;have n2_19 := q2.na hg19;have n4_19 := q4.na hg19;have n8_19 := q8.na hg19;have n9_19 := q9.na hg19;have n12_19 := q12.na hg19;have nm_19 := q15.na hg19;have bhbw_19 := Nat.le_trans hbw.size hg19;replace q1 := q1.bl hb19;replace q2 := q2.bl hb19;replace q4 := q4.bl hb19;replace q8 := q8.bl hb19;replace q9 := q9.bl hb19;replace q12 := q12.bl hb19;replace q15 := q15.bl hb19;replace hkp := hkp.trans (Kp.of_below hb19 hbw.size);replace hkf := hkf.trans (KeepsFrom.below hb19);replace hR := hR.below hb19;replace hF2 := hF2.below hb19;replace hM := hM.below hb19;replace hop := own_below hop hb19 (Nat.le_refl _);replace hbw := bo_ hbw hb19;clear hb19 hg19 hl19;refine EL.store (l' := (flC y.1)) rfl rfl q19 sz_150 rfl ((lenV_eq _).trans hys.fl.len) (by rw [lenV_eq, Nat.ble_eq]; exact Nat.le_of_eq (fl0_len.symm)) (flC_one _) ?_
     intro w20 hq20 hg20;rw [spl_whole (hys.fl.len.trans fl0_len.symm)] at hq20;replace q1 := q1.gr hg20 n1_19;replace q2 := q2.gr hg20 n2_19;replace q4 := q4.gr hg20 n4_19;replace q8 := q8.gr hg20 n8_19;replace q9 := q9.gr hg20 n9_19;replace q12 := q12.gr hg20 n12_19;replace q15 := q15.gr hg20 nm_19;replace hkp := hkp.trans (Kp.grown q19 rfl bhbw_19 hg20);replace hkf := hkf.trans (.of (keeps_blk q19 hg20));replace hR := hR.box q19 rfl hg20;replace hF2 := hF2.box q19 rfl hg20;replace hM := hM.keeps (keeps_blk q19 hg20);replace hop := own_type hop q19 rfl hg20;replace hbw := below_store hbw hg20 bhbw_19;replace q19 := hq20;clear hg20 hq20;refine EL.nil (EX.toI (EXI.seq (ECI.seq ?_)));have lt_1 := q1.lt;have lt_2 := q2.lt;have lt_4 := q4.lt;have lt_8 := q8.lt;have lt_9 := q9.lt;have lt_12 := q12.lt;have lt_m := q15.lt;have lt_19 := q19.lt;refine ECI.regionO (by repeat (first | exact lets_body | exact lets_no | refine lets_then ?_ | refine lets_blk ?_)) (by kernel_rfl) (EO.regionP [[], [], [], [], [1, 2, 3], [0, 1, 2, 3, 4], [0, 1, 2, 3, 4, 5]] 5 [] (phi (fun i_ r => match i_ with | 0 => r 0 = .int .i64 (i : Nat) | 1 => r 1 = .agg #[.slice Al ru.levels.length cl, .int .i64 ru.fade.lo, .int .i64 ru.fade.hi, .slice Aa ru.allow.length ca, .slice Ap ru.apart.length cp, .slice Ak ru.kinds.length ck] | 2 => r 2 = .agg (tkC (wayT ru tk k)).toArray | 3 => r 3 = .int .i64 (cg : Nat) | 4 => r 4 = .agg (tkC (loadT ru (wayT ru tk k) cg)).toArray | _ => True) []) (by kernel_rfl) rfl rfl (phi_nil) (fun i_ hi_ => ?_) ?_)
     ·match i_, hi_ with
      | 0, _ =>
       intro val w1 a hb ha hd;have ha := ha.s0 (d := 12) rfl
       exact hs_val ha rfl rfl (ld_3 rfl ((q12.below hb q12.lt).at (j := 0) rfl)) rfl rfl
      | 1, _ =>
       intro val w1 a hb ha hd;have ha := ha.s0 (d := 4) rfl
       exact hs_val ha rfl rfl (ld_116 rfl ((q1.below hb q1.lt).at (j := 0) rfl) ((q1.below hb q1.lt).at (j := 1) rfl) ((q1.below hb q1.lt).at (j := 2) rfl) ((q1.below hb q1.lt).at (j := 3) rfl) ((q1.below hb q1.lt).at (j := 4) rfl) ((q1.below hb q1.lt).at (j := 5) rfl)) rfl rfl
      | 2, _ =>
       intro val w1 a hb ha hd;have ha := ha.s0 (d := 15) rfl
       exact hs_val ha rfl rfl (x_loadA rfl ((q15.below hb q15.lt).range (PartAt.whole _)) Try.underlying120 rfl (sz_120.trans (congrArg some (tkC_8 htw.n8).symm))) rfl rfl
      | 3, _ =>
       intro val w1 a hb ha hd;have ha := ha.s0 (d := 7) rfl
       exact hs_val ha rfl rfl (ld_3 rfl ((q2.below hb q2.lt).at (j := 0) rfl)) rfl rfl
      | 4, _ =>
       intro val w1 a hb ha hd;have e1 : val 1 = .agg #[.slice Al ru.levels.length cl, .int .i64 ru.fade.lo, .int .i64 ru.fade.hi, .slice Aa ru.allow.length ca, .slice Ap ru.apart.length cp, .slice Ak ru.kinds.length ck] := hd 1 (memB_mem.1 rfl);have e2 : val 2 = .agg (tkC (wayT ru tk k)).toArray := hd 2 (memB_mem.1 rfl);have e3 : val 3 = .int .i64 (cg : Nat) := hd 3 (memB_mem.1 rfl);have ha := ha.sub (Sub.ins (d := 54) (Sub.ins (d := 53) (Sub.ins (d := 52) (Sub.nil _) (dep_get rfl e1)) (dep_get rfl e2)) (dep_get rfl e3));refine hs_call ha rfl rfl (cl_73 rfl rfl rfl) (load_any (hr.below ((hbw.trans (hb.mono hbw.size)).mono hB)) hro htw hcg) rfl ?_
       rintro e w' ⟨rfl, hb'⟩
       exact ⟨_, rfl, hb', rfl⟩
      | k + 5, h => exact absurd h (by omega)
     ·intro val wR14 hb halc hd
      have e0 : val 0 = .int .i64 (i : Nat) := hd 0 (by omega)
      have e1 : val 1 = .agg #[.slice Al ru.levels.length cl, .int .i64 ru.fade.lo, .int .i64 ru.fade.hi, .slice Aa ru.allow.length ca, .slice Ap ru.apart.length cp, .slice Ak ru.kinds.length ck] := hd 1 (by omega)
      have e2 : val 2 = .agg (tkC (wayT ru tk k)).toArray := hd 2 (by omega)
      have e3 : val 3 = .int .i64 (cg : Nat) := hd 3 (by omega)
      have e4 : val 4 = .agg (tkC (loadT ru (wayT ru tk k) cg)).toArray := hd 4 (by omega)
      refine EL.ends (cs := [.int .i64 (i : Nat), .agg #[.slice Al ru.levels.length cl, .int .i64 ru.fade.lo, .int .i64 ru.fade.hi, .slice Aa ru.allow.length ca, .slice Ap ru.apart.length cp, .slice Ak ru.kinds.length ck], .agg (tkC (wayT ru tk k)).toArray, .int .i64 (cg : Nat), .agg (tkC (loadT ru (wayT ru tk k) cg)).toArray]) ⟨e0, e1, e2, e3, e4, trivial⟩ rfl ?_;replace q1 := q1.bl hb;replace q2 := q2.bl hb;replace q4 := q4.bl hb;replace q8 := q8.bl hb;replace q9 := q9.bl hb;replace q12 := q12.bl hb;replace q15 := q15.bl hb;replace q19 := q19.bl hb;replace hkp := hkp.trans (Kp.of_below hb hbw.size);replace hkf := hkf.trans (KeepsFrom.below hb);replace hR := hR.below hb;replace hF2 := hF2.below hb;replace hM := hM.below hb;replace hop := own_below hop hb (Nat.le_refl _);replace hbw := bo_ hbw hb;clear hb;refine EL.val (ixa_150 rfl rfl hi3) rfl ?_;refine EL.store (l' := tkC (loadT ru (wayT ru tk k) cg)) rfl rfl q19 sz_120 rfl ((lenV_eq _).trans (tkC_8 htl.n8)) (by rw [lenV_eq, Nat.ble_eq, hys.fl.len]; omega) (tkC_one _) ?_
      intro w21 hq21 hg21;rw [Nat.zero_add, tk_set hys.fl hi3 htl.n8] at hq21;replace q1 := q1.gr hg21 n1_19;replace q2 := q2.gr hg21 n2_19;replace q4 := q4.gr hg21 n4_19;replace q8 := q8.gr hg21 n8_19;replace q9 := q9.gr hg21 n9_19;replace q12 := q12.gr hg21 n12_19;replace q15 := q15.gr hg21 nm_19;replace hkp := hkp.trans (Kp.grown q19 rfl bhbw_19 hg21);replace hkf := hkf.trans (.of (keeps_blk q19 hg21));replace hR := hR.box q19 rfl hg21;replace hF2 := hF2.box q19 rfl hg21;replace hM := hM.keeps (keeps_blk q19 hg21);replace hop := own_type hop q19 rfl hg21;replace hbw := below_store hbw hg21 bhbw_19;replace q19 := hq21;clear hg21 hq21;refine EL.nil (EX.toI (EXI.seq (ECI.seq ?_)));have lt_1 := q1.lt;have lt_2 := q2.lt;have lt_4 := q4.lt;have lt_8 := q8.lt;have lt_9 := q9.lt;have lt_12 := q12.lt;have lt_m := q15.lt;have lt_19 := q19.lt;refine ECI.regionO (by repeat (first | exact lets_body | exact lets_no | refine lets_then ?_ | refine lets_blk ?_)) (by kernel_rfl) (EO.regionP [[], [0], [0, 1], [], [], [3, 4], [3, 4, 5], [0, 1, 2, 3, 4, 5, 6], [], [8], [], [10], [0, 1, 2, 3, 4, 5, 6, 7, 8, 9, 10, 11], [], [0, 1, 2, 3, 4, 5, 6, 7, 8, 9, 10, 11, 12, 13]] 14 [13] (phi (fun i_ r => match i_ with | 0 => r 0 = .pointer (some ⟨g9, 0, none⟩) | 1 => r 1 = .slice Av y.2.steps.length cv | 2 => r 2 = .slice Av y.2.steps.length y.2.steps.length | 3 => r 3 = .int .i64 (i : Nat) | 4 => r 4 = .int .i64 k | 5 => r 5 = .agg #[.int .i64 (i : Nat), .int .i64 k] | 8 => r 8 = .pointer (some ⟨g9, 1, none⟩) | 9 => r 9 = .int .i64 y.2.washes | 10 => r 10 = .pointer (some ⟨g9, 2, none⟩) | 11 => r 11 = .int .i64 y.2.cost | _ => True) [(6, fun r w_ => ∃ g_, r 6 = .slice (some ⟨g_, 0, none⟩) 1 1 ∧ Blk w_ g_ 70 #[.int .i64 (i : Nat), .int .i64 k] ∧ w21.heap.size ≤ g_), (7, fun r w_ => ∃ A c, r 7 = .slice A (y.2.steps.length + 1) c ∧ w_.ownsRow base 70 2 (.slice A (y.2.steps.length + 1) c) (y.2.steps.length + 1) (stsC y.2.steps ++ [.int .i64 (i : Nat), .int .i64 k])), (12, fun r w_ => ∃ A c, r 12 = .agg #[.slice A (y.2.steps.length + 1) c, .int .i64 y.2.washes, .int .i64 y.2.cost] ∧ w_.ownsRow base 70 2 (.slice A (y.2.steps.length + 1) c) (y.2.steps.length + 1) (stsC y.2.steps ++ [.int .i64 (i : Nat), .int .i64 k])), (13, fun r w_ => ∃ g_, r 13 = .pointer (some ⟨g_, 0, none⟩) ∧ Blk w_ g_ 134 #[.slice none 0 0, .int .i64 0, .int .i64 0])]) (by kernel_rfl) rfl rfl (phi_cons mono_bs (phi_cons (mono_cp (f := fun A c => .slice A (y.2.steps.length + 1) c)) (phi_cons (mono_cp (f := fun A c => .agg #[.slice A (y.2.steps.length + 1) c, .int .i64 y.2.washes, .int .i64 y.2.cost])) (phi_cons mono_alloc (phi_nil))))) (fun i_ hi_ => ?_) ?_)
      ·match i_, hi_ with
       | 0, _ =>
        intro val w1 a hb ha hd;have ha := ha.s0 (d := 11) rfl
        exact hs_val ha rfl rfl (fa_134_0 rfl) rfl rfl
       | 1, _ =>
        intro val w1 a hb ha hd;have e0 : val 0 = .pointer (some ⟨g9, 0, none⟩) := hd 0 (memB_mem.1 rfl);have ha := ha.s1 (d := 57) rfl e0
        exact hs_val ha rfl rfl (ld_65 rfl ((q9.below hb q9.lt).at (j := 0) rfl)) rfl rfl
       | 2, _ =>
        intro val w1 a hb ha hd;have e1 : val 1 = .slice Av y.2.steps.length cv := hd 1 (memB_mem.1 rfl);have ha := ha.s1 (d := 58) rfl e1;refine hs_call ha rfl rfl (cl_97 rfl) (Clip_any _ (own_below hop hb (Nat.le_refl _))) rfl ?_
        rintro e w' ⟨rfl, hb'⟩
        exact ⟨_, rfl, hb', rfl⟩
       | 3, _ =>
        intro val w1 a hb ha hd;have ha := ha.s0 (d := 12) rfl
        exact hs_val ha rfl rfl (ld_3 rfl ((q12.below hb q12.lt).at (j := 0) rfl)) rfl rfl
       | 4, _ =>
        intro val w1 a hb ha hd;have ha := ha.s0 (d := 14) rfl
        exact hs_val ha rfl rfl (x_move rfl) rfl rfl
       | 5, _ =>
        intro val w1 a hb ha hd;have e3 : val 3 = .int .i64 (i : Nat) := hd 3 (memB_mem.1 rfl);have e4 : val 4 = .int .i64 k := hd 4 (memB_mem.1 rfl);have ha := ha.s2 (d := 61) (e := 60) rfl e4 rfl e3
        exact hs_val ha rfl rfl (bd_70_0_1 rfl rfl) rfl rfl
       | 6, _ =>
        intro val w1 a hb ha hd;have e5 : val 5 = .agg #[.int .i64 (i : Nat), .int .i64 k] := hd 5 (memB_mem.1 rfl);have ha := ha.s1 (d := 62) rfl e5
        exact hs_newS ha rfl rfl (bs_65_1 rfl) rfl (fun g w' hq _ hge => ⟨g, rfl, hq, Nat.le_trans hb.size hge⟩)
       | 7, _ =>
        intro val w1 a hb ha hd;have e2 : val 2 = .slice Av y.2.steps.length y.2.steps.length := hd 2 (memB_mem.1 rfl);obtain ⟨g6_, e6, q6_, h6_⟩ := hd 6 (memB_mem.1 rfl);change val 6 = _ at e6;have ha := ha.s2 (d := 63) (e := 59) rfl e6 rfl e2;refine hs_grow (base := base) st_elem ha rfl rfl rfl (rd_clip (Rd.of_own (own_below hop hb (Nat.le_refl _)))) (rd_one (l := [.int .i64 (i : Nat), .int .i64 k]) q6_ rfl) (by omega) (by omega) rfl (by have := hb.size; have := hbw.size; omega) rfl ?_
        intro v' w' ho' _;obtain ⟨A', c', rfl, _⟩ := (Rd.of_own ho').shape
        exact ⟨A', c', rfl, ho'⟩
       | 8, _ =>
        intro val w1 a hb ha hd;have ha := ha.s0 (d := 11) rfl
        exact hs_val ha rfl rfl (fa_134_1 rfl) rfl rfl
       | 9, _ =>
        intro val w1 a hb ha hd;have e8 : val 8 = .pointer (some ⟨g9, 1, none⟩) := hd 8 (memB_mem.1 rfl);have ha := ha.s1 (d := 65) rfl e8
        exact hs_val ha rfl rfl (ld_3 rfl ((q9.below hb q9.lt).at (j := 1) rfl)) rfl rfl
       | 10, _ =>
        intro val w1 a hb ha hd;have ha := ha.s0 (d := 11) rfl
        exact hs_val ha rfl rfl (fa_134_2 rfl) rfl rfl
       | 11, _ =>
        intro val w1 a hb ha hd;have e10 : val 10 = .pointer (some ⟨g9, 2, none⟩) := hd 10 (memB_mem.1 rfl);have ha := ha.s1 (d := 67) rfl e10
        exact hs_val ha rfl rfl (ld_3 rfl ((q9.below hb q9.lt).at (j := 2) rfl)) rfl rfl
       | 12, _ =>
        intro val w1 a hb ha hd;obtain ⟨A7_, c7_, e7, ho7_⟩ := hd 7 (memB_mem.1 rfl);have e9 : val 9 = .int .i64 y.2.washes := hd 9 (memB_mem.1 rfl);have e11 : val 11 = .int .i64 y.2.cost := hd 11 (memB_mem.1 rfl);have ha := ha.sub (Sub.ins (d := 68) (Sub.ins (d := 66) (Sub.ins (d := 64) (Sub.nil _) (dep_get rfl e7)) (dep_get rfl e9)) (dep_get rfl e11))
        exact hs_val ha rfl rfl (bd_134_0_1_2 rfl rfl rfl) ⟨A7_, c7_, rfl, ho7_⟩ rfl
       | 13, _ =>
        intro val w1 a hb ha hd;have ha := ha.sub (Sub.nil _)
        exact hs_newP ha rfl rfl al_134 (fun g w' hq _ _ => ⟨g, rfl, hq⟩)
       | k + 14, h => exact absurd h (by omega)
      ·intro val wR15 hb halc hd
       have e0 : val 0 = .pointer (some ⟨g9, 0, none⟩) := hd 0 (by omega)
       have e1 : val 1 = .slice Av y.2.steps.length cv := hd 1 (by omega)
       have e2 : val 2 = .slice Av y.2.steps.length y.2.steps.length := hd 2 (by omega)
       have e3 : val 3 = .int .i64 (i : Nat) := hd 3 (by omega)
       have e4 : val 4 = .int .i64 k := hd 4 (by omega)
       have e5 : val 5 = .agg #[.int .i64 (i : Nat), .int .i64 k] := hd 5 (by omega)
       obtain ⟨ga6_15, e6, qa6_15, hga6_15⟩ := hd 6 (by omega)
       change val 6 = _ at e6;change Blk wR15 ga6_15 70 #[.int .i64 (i : Nat), .int .i64 k] at qa6_15;obtain ⟨A7_, c7_, e7, ho7_⟩ := hd 7 (by omega)
       have e8 : val 8 = .pointer (some ⟨g9, 1, none⟩) := hd 8 (by omega)
       have e9 : val 9 = .int .i64 y.2.washes := hd 9 (by omega)
       have e10 : val 10 = .pointer (some ⟨g9, 2, none⟩) := hd 10 (by omega)
       have e11 : val 11 = .int .i64 y.2.cost := hd 11 (by omega)
       obtain ⟨An, cn, e12, hon⟩ := hd 12 (by omega)
       obtain ⟨ga13_15, e13, qa13_15⟩ := hd 13 (by omega)
       refine EL.ends (cs := [.pointer (some ⟨g9, 0, none⟩), .slice Av y.2.steps.length cv, .slice Av y.2.steps.length y.2.steps.length, .int .i64 (i : Nat), .int .i64 k, .agg #[.int .i64 (i : Nat), .int .i64 k], .slice (some ⟨ga6_15, 0, none⟩) 1 1, .slice A7_ (y.2.steps.length + 1) c7_, .pointer (some ⟨g9, 1, none⟩), .int .i64 y.2.washes, .pointer (some ⟨g9, 2, none⟩), .int .i64 y.2.cost, .agg #[.slice An (y.2.steps.length + 1) cn, .int .i64 y.2.washes, .int .i64 y.2.cost], .pointer (some ⟨ga13_15, 0, none⟩)]) ⟨e0, e1, e2, e3, e4, e5, e6, e7, e8, e9, e10, e11, e12, e13, trivial⟩ rfl ?_;replace q1 := q1.bl hb;replace q2 := q2.bl hb;replace q4 := q4.bl hb;replace q8 := q8.bl hb;replace q9 := q9.bl hb;replace q12 := q12.bl hb;replace q15 := q15.bl hb;replace q19 := q19.bl hb;replace hkp := hkp.trans (Kp.of_below hb hbw.size);replace hkf := hkf.trans (KeepsFrom.below hb);replace hR := hR.below hb;replace hF2 := hF2.below hb;replace hM := hM.below hb;replace hop := own_below hop hb (Nat.le_refl _);have bge22 := alc_ge halc (i := 13) rfl rfl e13;have n1_22 : g1 ≠ ga13_15 := Nat.ne_of_lt (Nat.lt_of_lt_of_le lt_1 bge22);have n2_22 : g2 ≠ ga13_15 := Nat.ne_of_lt (Nat.lt_of_lt_of_le lt_2 bge22);have n4_22 : g4 ≠ ga13_15 := Nat.ne_of_lt (Nat.lt_of_lt_of_le lt_4 bge22);have n8_22 : g8 ≠ ga13_15 := Nat.ne_of_lt (Nat.lt_of_lt_of_le lt_8 bge22);have n9_22 : g9 ≠ ga13_15 := Nat.ne_of_lt (Nat.lt_of_lt_of_le lt_9 bge22);have n12_22 : g12 ≠ ga13_15 := Nat.ne_of_lt (Nat.lt_of_lt_of_le lt_12 bge22);have nm_22 : g15 ≠ ga13_15 := Nat.ne_of_lt (Nat.lt_of_lt_of_le lt_m bge22);have n19_22 : g19 ≠ ga13_15 := Nat.ne_of_lt (Nat.lt_of_lt_of_le lt_19 bge22);have bhbw_22 := Nat.le_trans hbw.size bge22;have n1_23 : g1 ≠ ga6_15 := Nat.ne_of_lt (Nat.lt_of_lt_of_le lt_1 hga6_15);have n2_23 : g2 ≠ ga6_15 := Nat.ne_of_lt (Nat.lt_of_lt_of_le lt_2 hga6_15);have n4_23 : g4 ≠ ga6_15 := Nat.ne_of_lt (Nat.lt_of_lt_of_le lt_4 hga6_15);have n8_23 : g8 ≠ ga6_15 := Nat.ne_of_lt (Nat.lt_of_lt_of_le lt_8 hga6_15);have n9_23 : g9 ≠ ga6_15 := Nat.ne_of_lt (Nat.lt_of_lt_of_le lt_9 hga6_15);have n12_23 : g12 ≠ ga6_15 := Nat.ne_of_lt (Nat.lt_of_lt_of_le lt_12 hga6_15);have nm_23 : g15 ≠ ga6_15 := Nat.ne_of_lt (Nat.lt_of_lt_of_le lt_m hga6_15);have n19_23 : g19 ≠ ga6_15 := Nat.ne_of_lt (Nat.lt_of_lt_of_le lt_19 hga6_15);have bhbw_23 := Nat.le_trans hbw.size hga6_15;replace hbw := bo_ hbw hb;clear hb;clear ho7_;change wR15.ownsRow base 70 2 (.slice An (y.2.steps.length + 1) cn) (y.2.steps.length + 1) (stsC y.2.steps ++ [.int .i64 (i : Nat), .int .i64 k]) at hon;refine EL.store rfl rfl qa13_15 sz_134 rfl rfl rfl rfl ?_;intro w24 hq24 hg24;replace q1 := q1.gr hg24 n1_22;replace q2 := q2.gr hg24 n2_22;replace q4 := q4.gr hg24 n4_22;replace q8 := q8.gr hg24 n8_22;replace q9 := q9.gr hg24 n9_22;replace q12 := q12.gr hg24 n12_22;replace q15 := q15.gr hg24 nm_22;replace q19 := q19.gr hg24 n19_22;replace hkp := hkp.trans (Kp.grown qa13_15 rfl bhbw_22 hg24);replace hkf := hkf.trans (.of (keeps_blk qa13_15 hg24));replace hR := hR.box qa13_15 rfl hg24;replace hF2 := hF2.box qa13_15 rfl hg24;replace hM := hM.keeps (keeps_blk qa13_15 hg24);replace hop := own_type hop qa13_15 rfl hg24;replace hon := own_type hon qa13_15 rfl hg24;replace hbw := below_store hbw hg24 bhbw_22;replace qa13_15 := hq24;clear hg24 hq24;refine EL.nil (EX.toI (EXI.seq (ECI.seq (ECI.seq ?_))));refine ECI.regionL (by repeat (first | exact lets_body | exact lets_no | refine lets_then ?_ | refine lets_blk ?_)) (by kernel_rfl) ?_
       refine EL.mv rfl rfl ?_
       rcases hkv with ⟨_, ekn⟩ | ⟨kn, hkn, ekn⟩
       ·
        have hnk : numK k = 0 := by unfold numK; rw [if_pos (by omega)]
        have hck : kcost ru k = 0 := by unfold kcost; rw [if_pos (by omega)]
        refine EL.val (x_geq (r := false) rfl rfl (decide_eq_false (show ¬(0 : Int) ≤ k by omega))) rfl ?_
        refine EL.nil (EX.toI (EXI.seq (ECI.no rfl (ECI.skip (EXI.seq ?_)))));refine ECI.regionL (by repeat (first | exact lets_body | exact lets_no | refine lets_then ?_ | refine lets_blk ?_)) (by kernel_rfl) ?_
        refine EL.val (ld_171 rfl (q4.at (j := 0) rfl)) rfl (EL.val (x_loadA rfl (q19.range (PartAt.whole _)) Try.underlying150 rfl (sz_150.trans (congrArg some hsf.fl.len.symm))) rfl (EL.val (ld_134 rfl (qa13_15.at (j := 0) rfl) (qa13_15.at (j := 1) rfl) (qa13_15.at (j := 2) rfl)) rfl ?_));have hpn := addS_ok hro (p := y.2) (j := j) ⟨hyl, hyw0, hyw1, hyc0, hyc1⟩ i k;have hpv := plv_add (i := i) (k := k) hon (a := y.2.washes) (b := y.2.cost) (n := numK k) (cst := kcost ru k) (by omega) (by omega)
        refine EL.call (cl_98 rfl rfl rfl) rfl (note_any hF2 (by simp only [maxLen]; omega) hsf hpv hpn (by omega)) ?_
        rintro e w25 ⟨rfl, hg25, F5, hf5, hall5⟩
        refine ⟨_, rfl, ?_⟩;obtain ⟨es_, ck_, hmap⟩ := hF2.map;replace q1 := blk_map2 q1 hF2 hg25;replace q2 := blk_map2 q2 hF2 hg25;replace q4 := blk_map2 q4 hF2 hg25;replace q8 := blk_map2 q8 hF2 hg25;replace q9 := blk_map2 q9 hF2 hg25;replace q12 := blk_map2 q12 hF2 hg25;replace q15 := blk_map2 q15 hF2 hg25;replace q19 := blk_map2 q19 hF2 hg25;replace qa13_15 := blk_map2 qa13_15 hF2 hg25;replace hR := hR.other hF2 hg25 hne1 (by omega)
        replace hop := own_map hop hF2 hg25;replace hM := hM.other hmap (fun x e => by cases e) hg25
        replace hkp := hkp.trans (Kp.other hob hmap rfl hg25);replace hkf := hkf.trans (KeepsFrom.low hg25 hl1);replace hbw := hbw.trans (below_blk hg25 hob hbw.size);clear hmap hF2 hon;have hF2 := hf5;clear hf5;refine EL.nil (EX.toI (EXI.blk ?_))
        exact fun a0 ha0 => ⟨hkf, hkp, .inl ⟨rfl, ⟨_, _, hF2, by simp only [List.length_append, List.length_singleton]; omega, by rw [flatK_succ hpf rfl]; exact frontK_yes hgo (hall5 _ hfo)⟩, hR, q1, q2, q4, q8, q9, q12, hop, hM, hbw⟩⟩
       ·
        have hnk : numK k = 1 := by unfold numK; rw [if_neg (by omega)]
        have hck : kcost ru k = (ru.kinds.getD kn kd0).cost := by unfold kcost; rw [if_neg (by omega), ekn, Int.toNat_natCast]
        obtain ⟨bk, ok, e1_, _, hkd⟩ := kds_cells ru.kinds kn hkn w B _ _ _ hr.kinds;have hkb := (kd_bd hro kn).2.2;refine EL.val (x_geq (r := true) rfl rfl (decide_eq_true (show (0 : Int) ≤ k by omega))) rfl ?_
        refine EL.nil (EX.toI (EXI.seq (ECI.yes rfl ?_)));refine ECI.regionO (by repeat (first | exact lets_body | exact lets_no | refine lets_then ?_ | refine lets_blk ?_)) (by kernel_rfl) (EO.regionS [[], [0], [0, 1], [], [3], [], [5], [5, 6], [], [5, 6, 7, 8], [5, 6, 7, 8, 9], [5, 6, 7, 8, 9, 10], [3, 4, 5, 6, 7, 8, 9, 10, 11], [0, 1, 2, 3, 4], [0, 1, 2, 3, 4, 13], [0, 1, 2, 3, 4, 5, 6, 7, 8, 9, 10, 11, 12, 13, 14], [0, 1, 2, 3, 4, 5, 6, 7, 8, 9, 10, 11, 12, 13, 14, 15]] 15 [] [14] (fun fl w_ => w24.grownBy w_ (some ga13_15) ∧ (fl 14 = false → Blk w_ ga13_15 134 [.slice An (y.2.steps.length + 1) cn, .int .i64 y.2.washes, .int .i64 y.2.cost].toArray)) (phiS (fun i_ r => match i_ with | 0 => r 0 = .pointer (some ⟨ga13_15, 1, none⟩) | 1 => r 1 = .int .i64 y.2.washes | 2 => r 2 = .int .i64 (y.2.washes + 1) | 3 => r 3 = .pointer (some ⟨ga13_15, 2, none⟩) | 4 => r 4 = .int .i64 y.2.cost | 5 => r 5 = .pointer (some ⟨g1, 0, none⟩) | 6 => r 6 = .pointer (some ⟨g1, 5, none⟩) | 7 => r 7 = .slice Ak ru.kinds.length ck | 8 => r 8 = .int .i64 k | 9 => r 9 = .pointer (some ⟨bk, ok + kn * 5, none⟩) | 10 => r 10 = .pointer (some ⟨bk, ok + kn * 5 + 4, none⟩) | 11 => r 11 = .int .i64 (ru.kinds.getD kn kd0).cost | 12 => r 12 = .int .i64 (y.2.cost + (ru.kinds.getD kn kd0).cost) | 13 => r 13 = .pointer (some ⟨ga13_15, 1, none⟩) | _ => True) [(14, fun _ r w_ => Blk w_ ga13_15 134 [.slice An (y.2.steps.length + 1) cn, .int .i64 (y.2.washes + 1), .int .i64 y.2.cost].toArray)]) (by kernel_rfl) rfl rfl (by intro i hi; simp at hi; subst hi; exact ⟨by simp, by omega⟩) (base_own qa13_15) (phiS_cons monoS_own phiS_nil) (fun i_ hi_ hs_ => ?_) (fun i_ hi_ => ?_) ?_)
        ·match i_, hi_ with
         | 0, _ =>
          intro val fl w1 a hb ha hd hfl;obtain ⟨hgb, hg0⟩ := hb;have ha := ha.s0 (d := 19) rfl
          exact ss_val ha rfl rfl (fa_134_1 rfl) rfl rfl
         | 1, _ =>
          intro val fl w1 a hb ha hd hfl;obtain ⟨hgb, hg0⟩ := hb;have e0 : val 0 = .pointer (some ⟨ga13_15, 1, none⟩) := hd 0 (memB_mem.1 rfl);have ha := ha.s1 (d := 72) rfl e0;have hq0 := hg0 (hfl 14 (by simp) (memB_mem.1 rfl))
          exact ss_val ha rfl rfl (ld_3 rfl (hq0.at (j := 1) rfl)) rfl rfl
         | 2, _ =>
          intro val fl w1 a hb ha hd hfl;obtain ⟨hgb, hg0⟩ := hb;have e1 : val 1 = .int .i64 y.2.washes := hd 1 (memB_mem.1 rfl);have ha := ha.s1 (d := 73) rfl e1
          exact ss_val ha rfl rfl (x_add rfl rfl (by first | assumption | exact IntWalk.i64_in _ ⟨by omega, by omega⟩)) rfl rfl
         | 3, _ =>
          intro val fl w1 a hb ha hd hfl;obtain ⟨hgb, hg0⟩ := hb;have ha := ha.s0 (d := 19) rfl
          exact ss_val ha rfl rfl (fa_134_2 rfl) rfl rfl
         | 4, _ =>
          intro val fl w1 a hb ha hd hfl;obtain ⟨hgb, hg0⟩ := hb;have e3 : val 3 = .pointer (some ⟨ga13_15, 2, none⟩) := hd 3 (memB_mem.1 rfl);have ha := ha.s1 (d := 75) rfl e3;have hq0 := hg0 (hfl 14 (by simp) (memB_mem.1 rfl))
          exact ss_val ha rfl rfl (ld_3 rfl (hq0.at (j := 2) rfl)) rfl rfl
         | 5, _ =>
          intro val fl w1 a hb ha hd hfl;obtain ⟨hgb, hg0⟩ := hb;have ha := ha.s0 (d := 4) rfl
          exact ss_val ha rfl rfl (fa_116_0 rfl) rfl rfl
         | 6, _ =>
          intro val fl w1 a hb ha hd hfl;obtain ⟨hgb, hg0⟩ := hb;have e5 : val 5 = .pointer (some ⟨g1, 0, none⟩) := hd 5 (memB_mem.1 rfl);have ha := ha.s1 (d := 77) rfl e5
          exact ss_val ha rfl rfl (fa_28_4 rfl) rfl rfl
         | 7, _ =>
          intro val fl w1 a hb ha hd hfl;obtain ⟨hgb, hg0⟩ := hb;have e6 : val 6 = .pointer (some ⟨g1, 5, none⟩) := hd 6 (memB_mem.1 rfl);have ha := ha.s1 (d := 78) rfl e6
          exact ss_val ha rfl rfl (ld_26 rfl ((q1.grown hgb (fun h => n1_22 (Option.some.inj h))).at (j := 5) rfl)) rfl rfl
         | 8, _ =>
          intro val fl w1 a hb ha hd hfl;obtain ⟨hgb, hg0⟩ := hb;have ha := ha.s0 (d := 14) rfl
          exact ss_val ha rfl rfl (x_move rfl) rfl rfl
         | 9, _ =>
          intro val fl w1 a hb ha hd hfl;obtain ⟨hgb, hg0⟩ := hb;have e7 : val 7 = .slice Ak ru.kinds.length ck := hd 7 (memB_mem.1 rfl);have e8 : val 8 = .int .i64 k := hd 8 (memB_mem.1 rfl);have ha := ha.s2 (d := 80) (e := 79) rfl e8 rfl e7
          exact ss_val ha rfl rfl (ix_26 (by show some (Value.slice Ak _ _) = _; rw [e1_]) (by show some (Value.int .i64 k) = _; rw [ekn]) hkn) rfl rfl
         | 10, _ =>
          intro val fl w1 a hb ha hd hfl;obtain ⟨hgb, hg0⟩ := hb;have e9 : val 9 = .pointer (some ⟨bk, ok + kn * 5, none⟩) := hd 9 (memB_mem.1 rfl);have ha := ha.s1 (d := 81) rfl e9
          exact ss_val ha rfl rfl (fa_52_3 rfl) rfl rfl
         | 11, _ =>
          intro val fl w1 a hb ha hd hfl;obtain ⟨hgb, hg0⟩ := hb;have e10 : val 10 = .pointer (some ⟨bk, ok + kn * 5 + 4, none⟩) := hd 10 (memB_mem.1 rfl);have ha := ha.s1 (d := 82) rfl e10
          exact ss_val ha rfl rfl (ld_3 rfl (below_load (below_store hbw hgb bhbw_22) hkd.c4)) rfl rfl
         | 12, _ =>
          intro val fl w1 a hb ha hd hfl;obtain ⟨hgb, hg0⟩ := hb;have e4 : val 4 = .int .i64 y.2.cost := hd 4 (memB_mem.1 rfl);have e11 : val 11 = .int .i64 (ru.kinds.getD kn kd0).cost := hd 11 (memB_mem.1 rfl);have ha := ha.s2 (d := 83) (e := 76) rfl e11 rfl e4
          exact ss_val ha rfl rfl (x_add rfl rfl (by first | assumption | exact IntWalk.i64_in _ ⟨by omega, by omega⟩)) rfl rfl
         | 13, _ =>
          intro val fl w1 a hb ha hd hfl;obtain ⟨hgb, hg0⟩ := hb;have ha := ha.s0 (d := 19) rfl
          exact ss_val ha rfl rfl (fa_134_1 rfl) rfl rfl
         | 14, _ =>
          exact absurd (by simp) hs_
         | k + 15, h => exact absurd h (by omega)
        ·simp only [List.mem_singleton] at hi_; subst hi_
         intro val fl w1 a hb hfi ha hd hfl;obtain ⟨hgb, hg0⟩ := hb;have e13 : val 13 = .pointer (some ⟨ga13_15, 1, none⟩) := hd 13 (memB_mem.1 rfl);have e2 : val 2 = .int .i64 (y.2.washes + 1) := hd 2 (memB_mem.1 rfl);have ha := ha.s2 (d := 74) (e := 85) rfl e2 rfl e13;refine ts_store ha rfl rfl rfl (hg0 hfi) sz_3 rfl rfl rfl rfl ?_;intro w' hq2 hgr;refine ⟨undef, rfl, hgr.size, ⟨grown_three hgb hgr, fun h => by rw [fset_eq] at h; cases h⟩, hq2, fun j _ hj hn hA => ?_⟩
         exact phiS_cons_st (C := fun j => j ≠ 14 ∧ 14 ∉ clsAt [[], [0], [0, 1], [], [3], [], [5], [5, 6], [], [5, 6, 7, 8], [5, 6, 7, 8, 9], [5, 6, 7, 8, 9, 10], [3, 4, 5, 6, 7, 8, 9, 10, 11], [0, 1, 2, 3, 4], [0, 1, 2, 3, 4, 13], [0, 1, 2, 3, 4, 5, 6, 7, 8, 9, 10, 11, 12, 13, 14], [0, 1, 2, 3, 4, 5, 6, 7, 8, 9, 10, 11, 12, 13, 14, 15]] j) (fun hc => absurd rfl hc.1) (fun _ _ h => h) j ⟨hj, hn⟩
        ·intro val fl wR17 hfl hb halc hd
         obtain ⟨hgb, _⟩ := hb;have hq2 : Blk wR17 ga13_15 134 [.slice An (y.2.steps.length + 1) cn, .int .i64 (y.2.washes + 1), .int .i64 y.2.cost].toArray := hd 14 (by omega)
         have e0 : val 0 = .pointer (some ⟨ga13_15, 1, none⟩) := hd 0 (by omega)
         have e1 : val 1 = .int .i64 y.2.washes := hd 1 (by omega)
         have e2 : val 2 = .int .i64 (y.2.washes + 1) := hd 2 (by omega)
         have e3 : val 3 = .pointer (some ⟨ga13_15, 2, none⟩) := hd 3 (by omega)
         have e4 : val 4 = .int .i64 y.2.cost := hd 4 (by omega)
         have e5 : val 5 = .pointer (some ⟨g1, 0, none⟩) := hd 5 (by omega)
         have e6 : val 6 = .pointer (some ⟨g1, 5, none⟩) := hd 6 (by omega)
         have e7 : val 7 = .slice Ak ru.kinds.length ck := hd 7 (by omega)
         have e8 : val 8 = .int .i64 k := hd 8 (by omega)
         have e9 : val 9 = .pointer (some ⟨bk, ok + kn * 5, none⟩) := hd 9 (by omega)
         have e10 : val 10 = .pointer (some ⟨bk, ok + kn * 5 + 4, none⟩) := hd 10 (by omega)
         have e11 : val 11 = .int .i64 (ru.kinds.getD kn kd0).cost := hd 11 (by omega)
         have e12 : val 12 = .int .i64 (y.2.cost + (ru.kinds.getD kn kd0).cost) := hd 12 (by omega)
         have e13 : val 13 = .pointer (some ⟨ga13_15, 1, none⟩) := hd 13 (by omega)
         refine EL.ends (cs := [.pointer (some ⟨ga13_15, 1, none⟩), .int .i64 y.2.washes, .int .i64 (y.2.washes + 1), .pointer (some ⟨ga13_15, 2, none⟩), .int .i64 y.2.cost, .pointer (some ⟨g1, 0, none⟩), .pointer (some ⟨g1, 5, none⟩), .slice Ak ru.kinds.length ck, .int .i64 k, .pointer (some ⟨bk, ok + kn * 5, none⟩), .pointer (some ⟨bk, ok + kn * 5 + 4, none⟩), .int .i64 (ru.kinds.getD kn kd0).cost, .int .i64 (y.2.cost + (ru.kinds.getD kn kd0).cost), .pointer (some ⟨ga13_15, 1, none⟩), val 14]) ⟨e0, e1, e2, e3, e4, e5, e6, e7, e8, e9, e10, e11, e12, e13, rfl, trivial⟩ rfl ?_;replace q1 := q1.gr hgb n1_22;replace q2 := q2.gr hgb n2_22;replace q4 := q4.gr hgb n4_22;replace q8 := q8.gr hgb n8_22;replace q9 := q9.gr hgb n9_22;replace q12 := q12.gr hgb n12_22;replace q15 := q15.gr hgb nm_22;replace q19 := q19.gr hgb n19_22;replace hkp := hkp.trans (Kp.grown qa13_15 rfl bhbw_22 hgb);replace hkf := hkf.trans (.of (keeps_blk qa13_15 hgb));replace hR := hR.box qa13_15 rfl hgb;replace hF2 := hF2.box qa13_15 rfl hgb;replace hM := hM.keeps (keeps_blk qa13_15 hgb);replace hop := own_type hop qa13_15 rfl hgb;replace hon := own_type hon qa13_15 rfl hgb;replace hbw := below_store hbw hgb bhbw_22;replace qa13_15 := hq2;clear hgb hq2;refine EL.val (fa_134_2 rfl) rfl (EL.store rfl rfl qa13_15 sz_3 rfl rfl rfl rfl ?_);intro w26 hq26 hg26;replace q1 := q1.gr hg26 n1_22;replace q2 := q2.gr hg26 n2_22;replace q4 := q4.gr hg26 n4_22;replace q8 := q8.gr hg26 n8_22;replace q9 := q9.gr hg26 n9_22;replace q12 := q12.gr hg26 n12_22;replace q15 := q15.gr hg26 nm_22;replace q19 := q19.gr hg26 n19_22;replace hkp := hkp.trans (Kp.grown qa13_15 rfl bhbw_22 hg26);replace hkf := hkf.trans (.of (keeps_blk qa13_15 hg26));replace hR := hR.box qa13_15 rfl hg26;replace hF2 := hF2.box qa13_15 rfl hg26;replace hM := hM.keeps (keeps_blk qa13_15 hg26);replace hop := own_type hop qa13_15 rfl hg26;replace hon := own_type hon qa13_15 rfl hg26;replace hbw := below_store hbw hg26 bhbw_22;replace qa13_15 := hq26;clear hg26 hq26;refine EL.nil (EX.toI (EXI.seq ?_));refine ECI.regionL (by repeat (first | exact lets_body | exact lets_no | refine lets_then ?_ | refine lets_blk ?_)) (by kernel_rfl) ?_
         refine EL.val (ld_171 rfl (q4.at (j := 0) rfl)) rfl (EL.val (x_loadA rfl (q19.range (PartAt.whole _)) Try.underlying150 rfl (sz_150.trans (congrArg some hsf.fl.len.symm))) rfl (EL.val (ld_134 rfl (qa13_15.at (j := 0) rfl) (qa13_15.at (j := 1) rfl) (qa13_15.at (j := 2) rfl)) rfl ?_));have hpn := addS_ok hro (p := y.2) (j := j) ⟨hyl, hyw0, hyw1, hyc0, hyc1⟩ i k;have hpv := plv_add (i := i) (k := k) hon (a := y.2.washes + 1) (b := y.2.cost + (ru.kinds.getD kn kd0).cost) (n := numK k) (cst := kcost ru k) (by omega) (by omega)
         refine EL.call (cl_98 rfl rfl rfl) rfl (note_any hF2 (by simp only [maxLen]; omega) hsf hpv hpn (by omega)) ?_
         rintro e w27 ⟨rfl, hg27, F5, hf5, hall5⟩
         refine ⟨_, rfl, ?_⟩;obtain ⟨es_, ck_, hmap⟩ := hF2.map;replace q1 := blk_map2 q1 hF2 hg27;replace q2 := blk_map2 q2 hF2 hg27;replace q4 := blk_map2 q4 hF2 hg27;replace q8 := blk_map2 q8 hF2 hg27;replace q9 := blk_map2 q9 hF2 hg27;replace q12 := blk_map2 q12 hF2 hg27;replace q15 := blk_map2 q15 hF2 hg27;replace q19 := blk_map2 q19 hF2 hg27;replace qa13_15 := blk_map2 qa13_15 hF2 hg27;replace hR := hR.other hF2 hg27 hne1 (by omega)
         replace hop := own_map hop hF2 hg27;replace hM := hM.other hmap (fun x e => by cases e) hg27
         replace hkp := hkp.trans (Kp.other hob hmap rfl hg27);replace hkf := hkf.trans (KeepsFrom.low hg27 hl1);replace hbw := hbw.trans (below_blk hg27 hob hbw.size);clear hmap hF2 hon;have hF2 := hf5;clear hf5;refine EL.nil (EX.toI (EXI.blk ?_))
         exact fun a0 ha0 => ⟨hkf, hkp, .inl ⟨rfl, ⟨_, _, hF2, by simp only [List.length_append, List.length_singleton]; omega, by rw [flatK_succ hpf rfl]; exact frontK_yes hgo (hall5 _ hfo)⟩, hR, q1, q2, q4, q8, q9, q12, hop, hM, hbw⟩⟩
   ·
    clear q1 q2 q4 q8 q9 q12 hF2 hn2 hfo hR hop hM qb1 qb2;clear hbw
    rintro Dm xs W hDm hall ⟨⟨F4, n4, hF2, hn2, hfo⟩, hR, q1, q2, q4, q8, q9, q12, hop, hMI, hbw⟩ hkp hdef
    have hxl : xs.length = ru.kinds.length + 1 := by have := congrArg List.length hall; rwa [List.length_map, allK_len] at this
    replace hfo : FrontOf (D.flatMap (extY (yardOf ru many) cg) ++ (List.range (i + 1)).flatMap fun i => (kindsL ru.kinds.length).flatMap (ext1 (yardOf ru many) cg y i)) F4 := by rw [hxl, List.take_of_length_le (Nat.le_of_eq kindsL_len), List.append_assoc, ← flatI_succ (fun i => (kindsL ru.kinds.length).flatMap (ext1 (yardOf ru many) cg y i))] at hfo; exact hfo
    rw [hxl] at hn2;have hk4 := hro.k4;have hM := hMI.marks.cons (Nat.le_trans hsz hDm) hdef;have hnd2 := List.nodup_cons.2 ⟨fun hm => hMI.fresh hDm hm, hnd⟩
    clear hnd hMI hkp;have hnd := hnd2;clear hnd2;refine EXI.blk (EXI.blk (EXI.seq (ECI.regionLD ?_)));refine EL.val (x_add rfl rfl (c := ((i + 1 : Nat) : Int)) ((IntWalk.i64_in _ ⟨by first | omega | (simp only; omega), by first | omega | (simp only; omega)⟩).trans (by first | omega | (simp only; omega)))) rfl ?_
    refine EL.mv rfl rfl (EL.nil (EX.ofD ?_));refine EXI.roundD (i + 1, _ :: dm) ⟨rfl, trivial⟩ (by repeat first | with_reducible exact Sub.refl _ | refine sub_past rfl ?_ | exact Sub.refl _ | refine sub_del rfl ?_ | refine sub_insL_nil ?_) rfl ⟨hlt, hR, ⟨_, _, hF2, by simp only; omega, hfo⟩, q1, q2, q4, q8, q9, hop, hM, hnd, hbw⟩ (by simp only; omega)
   ·intro Dm pre W hD hne hall h
    exact absurd h id
  ·
   have hxe : i = many := by omega
   rw [hxe] at hn2 hfo;refine ECI.seq (ECI.regionLD ?_);refine EL.val (x_lss rfl rfl (decide_eq_false (show ¬(((i : Nat) : Int) < ((many : Nat) : Int)) by omega))) rfl ?_
   refine EL.nil (EX.ofD (EXI.seq (ECI.seq (ECI.no rfl (ECI.exit (EXI.seq_exit (EXI.seq_exit (EXI.blk_here (EXI.blk ?_)))))))));have he : (D ++ [y]).flatMap (extY (yardOf ru many) cg) = (D.flatMap (extY (yardOf ru many) cg) ++ (List.range many).flatMap fun i => (kindsL ru.kinds.length).flatMap (ext1 (yardOf ru many) cg y i)) := by rw [List.flatMap_append, List.flatMap_cons, List.flatMap_nil, List.append_nil]; rfl
   refine EXI.roundD (D ++ [y], c2, dm) trivial (by repeat first | with_reducible exact Sub.refl _ | refine sub_past rfl ?_ | exact Sub.refl _ | refine sub_del rfl ?_ | refine sub_insL_nil ?_) rfl ⟨hR, ⟨_, _, hF2, by simp only [List.length_append, List.length_singleton]; omega, by simp only; rw [he]; exact hfo⟩, by simp only [List.length_append, List.length_singleton]; omega, q1, q2, q4, hM, hnd, hbw⟩ hcnt
/-- a plan, and where its steps lie -/
abbrev Pr := Pl × Option Addr × Nat
def plC (x : Pr) : List Value := [.slice x.2.1 x.1.steps.length x.2.2, .int .i64 x.1.washes, .int .i64 x.1.cost]
def plsC (l : List Pr) : List Value := l.flatMap plC
theorem plC_len (x : Pr) : (plC x).length = 3 := rfl
theorem plsC_len (l : List Pr) : (plsC l).length = l.length * 3 := flat_len plC_len l
theorem plsC_app {l m : List Pr} : plsC (l ++ m) = plsC l ++ plsC m := List.flatMap_append
theorem pl_info : (Try.prog.info? 134).map (fun i => (i.zero, i.size, i.bytes)) = some (some (.agg #[.slice none 0 0, .int .i64 0, .int .i64 0]), 3, 40) := by kernel_rfl
theorem pl_elem : Elem Try.prog 130 134 3 40 := Elem.mk' Try.underlying130 pl_info rfl (by omega)
def pr0 : Pr := (pl0, none, 0)
theorem pls_cells (l : List Pr) (k : Nat) (hk : k < l.length) (w : World) (B : Nat) (A : Option Addr) (n c : Nat) (hr : Rd w B 3 (.slice A n c) n (plsC l)) :
  ∃ b off, A = some ⟨b, off, none⟩ ∧ b < B ∧ w.cell? ⟨b, off + k * 3, none⟩ = some (.slice (l.getD k pr0).2.1 (l.getD k pr0).1.steps.length (l.getD k pr0).2.2) ∧ w.cell? ⟨b, off + k * 3 + 1, none⟩ = some (.int .i64 (l.getD k pr0).1.washes) ∧ w.cell? ⟨b, off + k * 3 + 2, none⟩ = some (.int .i64 (l.getD k pr0).1.cost) := by
 have hl : n * 3 = l.length * 3 := by rw [← hr.len, plsC_len]
 obtain ⟨b, off, rfl, hb, hc⟩ := hr.at_ (by omega)
 have e : l.getD k pr0 = l[k] := by simp [hk]
 rw [e];have g := fun j hj => flat_get plC_len l k hk j hj
 exact ⟨b, off, rfl, hb, hc (k * 3) _ (g 0 (by omega)), hc (k * 3 + 1) _ (g 1 (by omega)), hc (k * 3 + 2) _ (g 2 (by omega))⟩
/-- a row of plans of one's own -/
structure OwnPls (W : World) (base : Nat) (v : Value) (l : List Pr) : Prop where
 own : W.ownsRow base 134 3 v l.length (plsC l)
 rows : ∀ x ∈ l, W.ownsRow base 70 2 (.slice x.2.1 x.1.steps.length x.2.2) x.1.steps.length (stsC x.1.steps)
section
variable {W W' : World} {base : Nat} {v : Value} {l : List Pr}
theorem OwnPls.nil : OwnPls W base (.slice none 0 0) [] := ⟨World.ownsRow_nil _ _ _ _, fun x hx => absurd hx List.not_mem_nil⟩
theorem OwnPls.keep (h : OwnPls W base v l) (hk : ∀ (e z n : Nat) (u : Value) (xs : List Value), (Nat.beq e 134 = true ∨ Nat.beq e 70 = true) → W.ownsRow base e z u n xs → W'.ownsRow base e z u n xs) : OwnPls W' base v l :=
 ⟨hk _ _ _ _ _ (.inl rfl) h.own, fun x hx => hk _ _ _ _ _ (.inr rfl) (h.rows x hx)⟩
theorem OwnPls.below (h : OwnPls W base v l) (hb : Below W.heap.size W W') : OwnPls W' base v l := h.keep fun _ _ _ _ _ _ ho => own_below ho hb (Nat.le_refl _)
theorem OwnPls.box {g T : Nat} {cs : Array Value} (h : OwnPls W base v l) (hq : Blk W g T cs) (h1 : Nat.beq T 134 = false) (h2 : Nat.beq T 70 = false) (hg : W.grownBy W' (some g)) : OwnPls W' base v l :=
 ⟨own_type h.own hq h1 hg, fun x hx => own_type (h.rows x hx) hq h2 hg⟩
theorem OwnPls.push {v' : Value} {x : Pr} (h : OwnPls W base v l) (ho : W'.ownsRow base 134 3 v' (l.length + 1) (plsC l ++ plC x)) (hg : W.grownBy W' v.ownBlock) (hx : W.ownsRow base 70 2 (.slice x.2.1 x.1.steps.length x.2.2) x.1.steps.length (stsC x.1.steps)) : OwnPls W' base v' (l ++ [x]) := by
 refine ⟨?_, fun y hy => ?_⟩
 ·rw [List.length_append, plsC_app]
  simpa [plsC] using ho
 ·rcases List.mem_append.1 hy with hy | hy
  ·exact own_grown (h.rows y hy) h.own rfl hg
  ·rw [List.mem_singleton.1 hy]
   exact own_grown hx h.own rfl hg
theorem OwnPls.rd (h : OwnPls W base v l) : Rd W W.heap.size 3 v l.length (plsC l) := Rd.of_own h.own
theorem OwnPls.less {base' : Nat} (h : OwnPls W base v l) (hb : base' ≤ base) : OwnPls W base' v l := ⟨own_less h.own hb, fun x hx => own_less (h.rows x hx) hb⟩
end
section
variable {W W' : World} {base mb n j : Nat} {F : List Sx}
/-- a row of plans that grows leaves a front as it is -/
theorem Front.push {base' k : Nat} {v : Value} {xs : List Value} (h : Front W base mb n j F) (ho : W.ownsRow base' 134 3 v k xs) (hg : W.grownBy W' v.ownBlock) : Front W' base mb n j F := by
 refine h.mild ⟨v.ownBlock, hg, fun g e => ?_⟩
 obtain ⟨_, ⟨rfl, _⟩ | ⟨b, cap, cur, rfl, _, hb, _⟩⟩ := ho
 ·cases e
 ·have e2 : b = g := by simpa [Value.ownBlock] using e
  subst e2;refine ⟨h.ne hb, fun T cs h2 => ?_⟩
  unfold Blk at h2
  rw [hb] at h2
  injection h2 with h2
  injection h2 with _ h3
  rw [← h3]
  rfl
theorem Front.count (h : Front W base mb n j F) : ∃ m : Nat, (Builtin.len_ #[171] 3 #[.map (some mb)]).run Try.prog W = .ok (.int .i64 (m : Nat)) W ∧ (m = 0 ↔ F = []) := by
 obtain ⟨l, ⟨es, clock, hb, _, _, hl⟩, h2⟩ := h;refine ⟨es.size, ?_, ?_⟩
 ·simp [Builtin.len_, run_underlying Try.underlying171, MapKept.run_getObj_map hb, goInt, Result.andThen]
 ·have e : es.size = l.length := by rw [← hl]; simp
  rw [e]
  constructor
  ·intro h0
   have h0 : l = [] := List.eq_nil_of_length_eq_zero h0;subst h0
   rcases F with _ | ⟨x, F⟩
   ·rfl
   ·obtain ⟨e1, he, _⟩ := h2.fro x (List.mem_cons_self ..)
    exact absurd he List.not_mem_nil
  ·rintro rfl
   rcases l with _ | ⟨x, l⟩
   ·rfl
   ·obtain ⟨y, hy, _⟩ := h2.to x (List.mem_cons_self ..)
    exact absurd hy List.not_mem_nil
end
section
variable {n : Nat} {σ : Sg} {w : World} {dst : Option Tmp} {ty : TypeId} {pos : String} {af : Array Edge} {g : Option (Nat × Bool)} {x y : Operand}
theorem x_lenM {mb m : Nat} (hx : evS σ x = some (.map (some mb))) (hr : (Builtin.len_ #[171] 3 #[.map (some mb)]).run Try.prog w = .ok (.int .i64 (m : Nat)) w) : Gives Try.prog n σ w ⟨dst, .call { callee := .builtin .len, args := #[x], argTypes := #[171] }, 3, pos, af, g⟩ (.int .i64 (m : Nat)) := fun a ha => by
 simp only [execOp, resolve, List.map_toArray, List.map_cons, List.map_nil, ha.eval hx]
 simp [go_sem, hr, Result.andThen]
theorem x_plan0 : Gives Try.prog n σ w ⟨dst, .build 134 #[], ty, pos, af, g⟩ (.agg #[.slice none 0 0, .int .i64 0, .int .i64 0]) := fun a _ => by
 simp only [execOp, List.map_toArray, List.map_nil]
 kernel_rfl
theorem x_fleet1 {t : List Tr} (hx : evS σ x = some (.agg (tkC t).toArray)) (h8 : t.length = 8) : Gives Try.prog n σ w ⟨dst, .build 150 #[(0, x)], ty, pos, af, g⟩ (flV [t, tank0, tank0]) := fun a ha => by
 obtain ⟨a0, a1, a2, a3, a4, a5, a6, a7, rfl⟩ := eight h8
 simp only [execOp, List.map_toArray, List.map_cons, List.map_nil, ha.eval hx]
 kernel_rfl
end
theorem fleet1_ok {t : List Tr} (h : TkOk t) : FlOk [t, tank0, tank0] := by
 have hm : ∀ u ∈ [t, tank0, tank0], TkOk u := fun u hu => by
  simp only [List.mem_cons, List.not_mem_nil, or_false] at hu
  rcases hu with rfl | rfl | rfl
  ·exact h
  ·exact tank0_ok
  ·exact tank0_ok
 exact ⟨⟨rfl, fun u hu => (hm u hu).n8⟩, hm⟩
/-- the first front -/
theorem front_one {F2 : List Sx} {s : List (List Tr)} (h1 : (s, pl0) ∈ F2) (h2 : ∀ y ∈ F2, y = (s, pl0) ∨ (y ∈ ([] : List Sx) ∧ y.1 ≠ s)) {ext : Nat → Sx → List Sx} : FrontOf (compl ext [] (s, pl0)) F2 := by
 refine ⟨fun y hy => ?_, fun y hy => ⟨pl0, ?_, ?_⟩⟩
 ·rcases h2 y hy with rfl | ⟨h3, _⟩
  ·exact List.mem_singleton.2 rfl
  ·exact absurd h3 List.not_mem_nil
 ·rw [List.mem_singleton.1 hy]; exact h1
 ·rw [List.mem_singleton.1 hy, cmp_pl.self]; decide
/-- the best plans for each beginning of the cargoes -/
def Bests (Y : Yard (List (List Tr))) (js : List Nat) (s : List (List Tr)) (ps : List Pl) : Prop :=
 ps.length = depthR (extY Y) js (s, pl0) ∧ ∀ i, i < ps.length → IsBest (compl (extY Y) (js.take (i + 1)) (s, pl0)) (ps.getD i pl0)
theorem depth_le {ext : Nat → Sx → List Sx} : ∀ (rem : List Nat) (x : Sx), depthR ext rem x ≤ rem.length := fun rem x => by
 rcases Nat.lt_or_ge rem.length (depthR ext rem x) with h | h
 ·exact absurd h (by have := depth_len (ext := ext) rem x; omega)
 ·exact h
theorem bests_end {Y : Yard (List (List Tr))} {js : List Nat} {s : List (List Tr)} {ps : List Pl} (h1 : ∀ i, i < ps.length → IsBest (compl (extY Y) (js.take (i + 1)) (s, pl0)) (ps.getD i pl0)) (hl : ps.length ≤ js.length) (h2 : ps.length < js.length → compl (extY Y) (js.take (ps.length + 1)) (s, pl0) = []) : Bests Y js s ps := by
 refine ⟨?_, h1⟩;have a := depth_le (ext := extY Y) js (s, pl0);have b : ps.length ≤ depthR (extY Y) js (s, pl0) := (depth_iff js (s, pl0) _ hl).2 (by
  rcases hp : ps.length with _ | k
  ·simp [compl]
  ·obtain ⟨⟨t, ht⟩, _⟩ := h1 k (by omega)
   exact fun e => by rw [e] at ht; exact absurd ht List.not_mem_nil)
 rcases Nat.lt_or_ge ps.length (depthR (extY Y) js (s, pl0)) with h | h
 ·exact absurd (h2 (by omega)) ((depth_iff js (s, pl0) (ps.length + 1) (by omega)).1 h)
 ·omega
section
variable {n : Nat} {σ : Sg} {w : World} {dst : Option Tmp} {ty : TypeId} {pos : String} {af : Array Edge} {g : Option (Nat × Bool)} {x y z : Operand} {at' : Array TypeId}
theorem cl_87 {x0 x1 x2 x3 : Operand} {v0 v1 v2 v3 : Value} (h0 : evS σ x0 = some v0) (h1 : evS σ x1 = some v1) (h2 : evS σ x2 = some v2) (h3 : evS σ x3 = some v3) (a : Act) (ha : Env n σ a) : (execOp a.eval ⟨dst, .call { callee := .value (.func 87), args := #[x0, x1, x2, x3], argTypes := at' }, ty, pos, af, g⟩).run Try.prog w = .ok (.enter 87 #[v0, v1, v2, v3]) w := by
 simp only [execOp, resolve, List.map_toArray, List.map_cons, List.map_nil, ha.eval h0, ha.eval h1, ha.eval h2, ha.eval h3]
 simp [go_sem, Act.eval]
theorem cl_88 {x0 : Operand} {v0 : Value} (h0 : evS σ x0 = some v0) (a : Act) (ha : Env n σ a) : (execOp a.eval ⟨dst, .call { callee := .value (.func 88), args := #[x0], argTypes := at' }, ty, pos, af, g⟩).run Try.prog w = .ok (.enter 88 #[v0]) w := by
 simp only [execOp, resolve, List.map_toArray, List.map_cons, List.map_nil, ha.eval h0]
 simp [go_sem, Act.eval]
theorem bs_130_1 {x0 : Operand} {v0_0 v0_1 v0_2 : Value} (h0 : evS σ x0 = some (.agg #[v0_0, v0_1, v0_2]))  (a : Act) (ha : Env n σ a) : (execOp a.eval ⟨dst, .buildSlice 130 1 #[(0, x0)], ty, pos, af, g⟩).run Try.prog w = .ok (.value (.slice (some ⟨w.heap.size, 0, none⟩) 1 1)) (w.alloc (.cells #[v0_0, v0_1, v0_2] 134)) := by
 simp only [execOp, List.map_toArray, List.map_cons, List.map_nil, ha.eval h0]
 go_simp
end
/-- cargoes as numbers -/
def jsI (js : List Nat) : List Int := js.map fun c => ((c : Nat) : Int)
theorem jsI_len {js : List Nat} : (jsI js).length = js.length := List.length_map _
theorem jsI_at {js : List Nat} {i : Nat} (h : i < js.length) : (jsI js).getD i 0 = ((js.getD i 0 : Nat) : Int) := map_getD h
theorem kcost_nn {ru : Rules} (hro : RulesOk ru) (many : Nat) : ∀ k, 0 ≤ (yardOf ru many).cost k := fun k => (kcost_bd hro k).1
theorem best_more {Y : Nat → List Sx} {i : Nat} {lp : List Pr} {pb : Pl} {A : Option Addr} {c : Nat} (hl : lp.length = i) (h : ∀ k, k < i → IsBest (Y k) ((lp.map (·.1)).getD k pl0)) (hb : IsBest (Y i) pb) : ∀ k, k < i + 1 → IsBest (Y k) (((lp ++ [(pb, A, c)]).map (·.1)).getD k pl0) := fun k hk => by
 rw [List.map_append];have hl2 : (lp.map (·.1)).length = i := by rw [List.length_map, hl]
 rcases Nat.lt_or_ge k i with h1 | h1
 ·rw [List.getD_eq_getElem?_getD, List.getElem?_append_left (by omega), ← List.getD_eq_getElem?_getD]
  exact h k h1
 ·obtain rfl : k = i := by omega
  rw [List.getD_eq_getElem?_getD, List.getElem?_append_right (by omega), hl2, Nat.sub_self]
  exact hb
set_option maxHeartbeats 2000000 in
theorem plans_any {ru : Rules} {ua up : List Value} {vl va vp vk : Value} {w : World} {B : Nat} (hr : RdRules w B vl va vp vk ru ua up) (hB : B ≤ w.heap.size) (hro : RulesOk ru) {sf : List (List Tr)} (hs : FlOk sf) {many : Nat} (hm : many ≤ 3) {js : List Nat} (hjs : ∀ i, i < js.length → js.getD i 0 < ru.levels.length) (hjl : js.length ≤ 10) {vj : Value} {C : Nat} (hv : Rd w C 1 vj js.length (ints (jsI js))) (hC : C ≤ w.heap.size) :
  Calls Try.prog 69 #[rulesV vl va vp vk ru, flV sf, .int .i64 (many : Nat), vj] w fun e w' => (∃ v lp, e = .returned v ∧ OwnPls w' w.heap.size v lp ∧ Bests (yardOf ru many) js sf (lp.map (·.1))) ∧ Below w.heap.size w w' := by
 obtain ⟨Al, cl, rfl, _⟩ := hr.levels.shape;obtain ⟨Aa, ca, rfl, _⟩ := hr.allow.rd.shape;obtain ⟨Ap, cp, rfl, _⟩ := hr.apart.rd.shape;obtain ⟨Ak, ck, rfl, _⟩ := hr.kinds.shape;obtain ⟨Aj, cj, rfl, _⟩ := hv.shape;have hbw := Below.refl w.heap.size w
 unfold rulesV
 refine EC.enter 37 Try.func69 rfl rfl rfl (EC.seq (EC.region (EL.newP (bx_116 rfl) rfl ?_)));intro g1 w1 q1 hb1 hg1 hl1;have bhbw_1 := Nat.le_trans hbw.size hg1;replace hbw := bo_ hbw hb1;clear hb1 hg1 hl1;refine EL.newP (x_boxA rfl) rfl ?_;intro g2 w2 q2 hb2 hg2 hl2;have n1_2 := q1.na hg2;have bhbw_2 := Nat.le_trans hbw.size hg2;replace q1 := q1.bl hb2;replace hbw := bo_ hbw hb2;clear hb2 hg2 hl2;refine EL.as rfl rfl (EL.nil (EX.seq (EC.seq (EC.region (EL.newFront (base := w.heap.size) (j := 0) rfl ?_)))));intro mb w3 hF hb3 hob;replace hob := Nat.le_trans hbw.size hob;replace q1 := q1.bl hb3;replace q2 := q2.bl hb3;replace hbw := bo_ hbw hb3;clear hb3;refine EL.val (x_loadA rfl (q2.range (PartAt.whole _)) Try.underlying150 rfl (sz_150.trans (congrArg some hs.fl.len.symm))) rfl (EL.val x_plan0 rfl ?_);obtain ⟨w4, F2, hrun, hg4, hf2, k1, k2, k3⟩ := hF.store (by decide) hs (p := pl0) ⟨rfl, Int.le_refl _, Int.le_refl _, Int.le_refl _, Int.le_refl _⟩ PlV.nil
 refine EL.mapIns rfl rfl rfl hrun ?_;replace q1 := blk_map2 q1 hF hg4;replace q2 := blk_map2 q2 hF hg4;replace hbw := hbw.trans (below_blk hg4 hob hbw.size);clear hF;have hF := hf2;clear hf2;have hfo : FrontOf (compl (extY (yardOf ru many)) [] (sf, pl0)) F2 := front_one k1 k2;clear hrun hg4 k1 k2 k3;refine EL.mv rfl rfl (EL.as rfl rfl (EL.nil (EX.seq (EC.seq (EC.seq (EC.region (EL.mv rfl rfl (EL.val (ln_22 rfl) rfl (EL.mv rfl rfl ?_)))))))));refine EL.nil (EX.seq (EC.block ?_));refine EC.loopD [8, 9, 11, 18, 19, 20, 21, 22, 23, 24, 25, 26, 27, 28, 29, 30, 31, 32, 33, 34, 35] (fun x : Nat × Nat × Value × List Pr => [(18, .int .i64 (x.1 : Nat)), (9, .map (some x.2.1)), (8, x.2.2.1)]) (fun x W => x.1 ≤ js.length ∧ x.2.2.2.length = x.1 ∧ (∃ F n, Front W w.heap.size x.2.1 n x.1 F ∧ n ≤ 15 ^ x.1 ∧ FrontOf (compl (extY (yardOf ru many)) (js.take x.1) (sf, pl0)) F) ∧ OwnPls W w.heap.size x.2.2.1 x.2.2.2 ∧ (∀ i, i < x.1 → IsBest (compl (extY (yardOf ru many)) (js.take (i + 1)) (sf, pl0)) ((x.2.2.2.map (·.1)).getD i pl0)) ∧ Blk W g1 116 #[.slice Al ru.levels.length cl, .int .i64 ru.fade.lo, .int .i64 ru.fade.hi, .slice Aa ru.allow.length ca, .slice Ap ru.apart.length cp, .slice Ak ru.kinds.length ck] ∧ Below w.heap.size w W) (fun x => js.length - x.1) (0, mb, .slice none 0 0, []) ⟨Nat.zero_le _, rfl, ⟨_, _, hF, by simp, hfo⟩, OwnPls.nil, fun i hi => absurd hi (by simp), q1, hbw⟩ ⟨rfl, rfl, rfl, trivial⟩ ?_
 clear hF hfo q1 hbw hob
 rintro ⟨i, mb1, v, lp⟩ wx ⟨hi, hlp, ⟨F, n, hF, hn, hfo⟩, hP, hB1, q1, hbw⟩
 dsimp only at hi hlp hF hn hfo hP hB1
 by_cases hlt : i < js.length
 ·
  obtain ⟨bj, oj, ej, _, hjc⟩ := ints_cells (jsI js) i (by rw [jsI_len]; exact hlt) wx C _ _ _ (hv.below (hbw.mono hC))
  rw [jsI_at hlt] at hjc
  cases ej
  have hn2 : n ≤ 15 ^ 10 := Nat.le_trans hn (Nat.pow_le_pow_right (by decide) (by omega))
  have hcg := hjs i hlt;have hts : js.take (i + 1) = js.take i ++ [js.getD i 0] := by rw [List.take_succ_eq_append_getElem hlt, getD_in hlt]
  refine EC.seq (EC.region ?_);refine EL.val (x_lss rfl rfl (decide_eq_true (show (((i : Nat) : Int) < ((js.length : Nat) : Int)) by omega))) rfl ?_
  refine EL.nil (EX.seq (EC.seq (EC.yes rfl (EC.skip (EX.seq (EC.seq (EC.block (EC.seq (EC.region ?_)))))))));refine EL.val (ix_22 rfl rfl hlt) rfl (EL.val (ld_3 rfl hjc) rfl (EL.as rfl rfl (EL.nil (EX.seq (EC.seq (EC.seq (EC.region (EL.val (ld_116 rfl (q1.at (j := 0) rfl) (q1.at (j := 1) rfl) (q1.at (j := 2) rfl) (q1.at (j := 3) rfl) (q1.at (j := 4) rfl) (q1.at (j := 5) rfl)) rfl (EL.mv rfl rfl ?_)))))))));refine EL.mv rfl rfl (EL.mv rfl rfl ?_);refine EL.call (cl_87 rfl rfl rfl rfl) rfl (next_any (hr.below (hbw.mono hB)) (Nat.le_trans hB hbw.size) hro hF hbw.size (by omega) (by omega) hm hcg) ?_
  rintro e w5 ⟨⟨ob, F2, n2, rfl, hF2, hn3, hfo2, hob⟩, hc5⟩
  refine ⟨_, rfl, ?_⟩;clear hF;replace q1 := q1.bl hc5;replace hP := hP.below hc5;replace hbw := bo_ hbw hc5;clear hc5;have hF := hF2;clear hF2;have hfo3 : FrontOf (compl (extY (yardOf ru many)) (js.take (i + 1)) (sf, pl0)) F2 := by rw [hts]; exact front_next (kcost_nn hro many) hfo hfo2
  refine EL.as rfl rfl (EL.nil (EX.seq (EC.seq (EC.region (EL.mv rfl rfl ?_)))));obtain ⟨m, hlen, hm0⟩ := hF.count;refine EL.val (x_lenM rfl hlen) rfl ?_
  by_cases hF0 : F2 = []
  ·
   refine EL.val (x_eql (r := true) rfl rfl (decide_eq_true (by rw [hm0.2 hF0]; rfl))) rfl ?_
   refine EL.nil (EX.seq (EC.yes rfl (EC.exit (EX.seq_exit (EX.blk_other rfl (EX.seq_exit (EX.seq_exit (EX.blk_here (EX.seq ?_)))))))));refine EC.seq (EC.region (EL.mv rfl rfl (EL.as rfl rfl (EL.nil (EX.seq (EC.ret ?_))))))
   exact EX.done (res1 rfl rfl) ⟨⟨_, lp, rfl, hP, bests_end (by rw [List.length_map, hlp]; exact hB1) (by rw [List.length_map, hlp]; exact hi) (fun _ => by rw [List.length_map, hlp]; exact hfo3.nil.1 hF0)⟩, hbw⟩
  ·
   refine EL.val (x_eql (r := false) rfl rfl (decide_eq_false (by have : m ≠ 0 := fun h => hF0 (hm0.1 h); omega))) rfl ?_
   refine EL.nil (EX.seq (EC.no rfl (EC.skip (EX.seq (EC.region (EL.mv rfl rfl (EL.mv rfl rfl ?_)))))));refine EL.call (cl_88 rfl) rfl (best_any hF hF0 (by omega)) ?_
   rintro e w6 ⟨⟨pb, spb, Ab, cb, rfl, hob2, hin, hle⟩, hc6⟩
   refine ⟨_, rfl, ?_⟩;replace q1 := q1.bl hc6;replace hP := hP.below hc6;replace hF := hF.below hc6;replace hbw := bo_ hbw hc6;clear hc6;have hbest : IsBest (compl (extY (yardOf ru many)) (js.take (i + 1)) (sf, pl0)) pb := hfo3.best.2 ⟨⟨spb, hin⟩, hle⟩;refine EL.newS (bs_130_1 rfl) rfl ?_;intro g7 w7 q7 hb7 hg7 hl7;have n1_7 := q1.na hg7;have bhbw_7 := Nat.le_trans hbw.size hg7;replace q1 := q1.bl hb7;replace hP := hP.below hb7;replace hF := hF.below hb7;replace hob2 := own_below hob2 hb7 (Nat.le_refl _);replace hbw := bo_ hbw hb7;clear hb7 hg7 hl7;refine EL.push pl_elem rfl rfl hP.own (rd_one (l := [.slice Ab pb.steps.length cb, .int .i64 pb.washes, .int .i64 pb.cost]) q7 rfl) (by intro u hu; simp only [List.mem_cons, List.not_mem_nil, or_false] at hu; rcases hu with rfl | rfl | rfl <;> rfl) (by omega) rfl hbw.size rfl ?_
   intro v8 w8 ho2_ hgr hb_ hat;replace q1 := blk_grown q1 hP.own rfl hgr;replace hF := hF.push hP.own hgr;replace hP := hP.push (x := (pb, Ab, cb)) ho2_ hgr hob2;replace hbw := hbw.trans hb_;clear ho2_ hgr hb_ hat hob2;refine EL.as rfl rfl (EL.nil (EX.blk (EX.seq (EC.region ?_))));refine EL.val (x_add rfl rfl (c := ((i + 1 : Nat) : Int)) ((IntWalk.i64_in _ ⟨by first | omega | (simp only; omega), by first | omega | (simp only; omega)⟩).trans (by first | omega | (simp only; omega)))) rfl ?_
   refine EL.mv rfl rfl (EL.nil ?_);refine EX.roundD (i + 1, ob, v8, lp ++ [(pb, Ab, cb)]) ⟨rfl, rfl, rfl, trivial⟩ (by repeat first | with_reducible exact Sub.refl _ | refine sub_past rfl ?_ | exact Sub.refl _ | refine sub_del rfl ?_ | refine sub_insL_nil ?_) ⟨hlt, by simp [hlp], ⟨_, _, hF, by rw [Nat.pow_succ]; exact Nat.le_trans hn3 (Nat.mul_le_mul_right _ hn), hfo3⟩, hP, best_more hlp hB1 hbest, q1, hbw⟩ (by simp only; omega)
 ·
  have hxe : i = js.length := by omega
  refine EC.seq (EC.region ?_);refine EL.val (x_lss rfl rfl (decide_eq_false (show ¬(((i : Nat) : Int) < ((js.length : Nat) : Int)) by omega))) rfl ?_
  refine EL.nil (EX.seq (EC.seq (EC.no rfl (EC.exit (EX.seq_exit (EX.seq_exit (EX.blk_here (EX.seq (EC.seq ?_)))))))));refine EC.region (EL.mv rfl rfl (EL.as rfl rfl (EL.nil (EX.seq (EC.ret ?_)))))
  exact EX.done (res1 rfl rfl) ⟨⟨_, lp, rfl, hP, bests_end (by rw [List.length_map, hlp]; exact hB1) (by rw [List.length_map, hlp]; exact hi) (fun h => absurd h (by rw [List.length_map, hlp, hxe]; exact Nat.lt_irrefl _))⟩, hbw⟩
def jobsE (ru : Rules) (jobs : List Int) (most : Nat) : Int := if most < jobs.length then 5 else if jobs.all (inB 0 ((ru.levels.length : Nat) - 1 : Int)) = true then 0 else 2
theorem checkJobs_any {ru : Rules} {ua up : List Value} {vl va vp vk : Value} {w : World} {B : Nat} (hr : RdRules w B vl va vp vk ru ua up) (hro : RulesOk ru) {jobs : List Int} {vj : Value} {C : Nat} (hv : Rd w C 1 vj jobs.length (ints jobs)) (hC : C ≤ w.heap.size) {most : Nat} (hmo : most ≤ 100) :
  Calls Try.prog 80 #[rulesV vl va vp vk ru, vj, .int .i64 (most : Nat)] w fun e w' => e = .returned (.int .i64 (jobsE ru jobs most)) ∧ Below w.heap.size w w' := by
 obtain ⟨Al, cl, rfl, _⟩ := hr.levels.shape;obtain ⟨Aa, ca, rfl, _⟩ := hr.allow.rd.shape;obtain ⟨Ap, cp, rfl, _⟩ := hr.apart.rd.shape;obtain ⟨Ak, ck, rfl, _⟩ := hr.kinds.shape;obtain ⟨Aj, cj, rfl, _⟩ := hv.shape;have hn8 := hro.n8;have hbw := Below.refl w.heap.size w
 unfold rulesV
 refine EC.enter 21 Try.func80 rfl rfl rfl (EC.seq (EC.region (EL.newP (bx_116 rfl) rfl ?_)));intro g1 w1 q1 hb1 hg1 hl1;have bhbw_1 := Nat.le_trans hbw.size hg1;replace hbw := bo_ hbw hb1;clear hb1 hg1 hl1;refine EL.as rfl rfl (EL.nil (EX.seq (EC.seq (EC.block (EC.seq (EC.region (EL.mv rfl rfl (EL.val (ln_22 rfl) rfl (EL.mv rfl rfl ?_)))))))))
 by_cases hml : most < jobs.length
 ·
  refine EL.val (x_gtr (r := true) rfl rfl (decide_eq_true (by omega))) rfl ?_
  refine EL.as rfl rfl (EL.nil (EX.seq (EC.yes rfl (EC.seq (EC.region (EL.as rfl rfl (EL.nil (EX.seq (EC.ret ?_)))))))));refine EX.blk_ret (EX.seq_ret ?_)
  exact EX.done (res1 rfl rfl) ⟨by unfold jobsE; rw [if_pos hml], hbw⟩
 ·
  refine EL.val (x_gtr (r := false) rfl rfl (decide_eq_false (by omega))) rfl ?_
  refine EL.as rfl rfl (EL.nil (EX.seq (EC.no rfl (EC.seq (EC.region (EL.val (fa_116_0 rfl) rfl (EL.val (fa_28_0 rfl) rfl (EL.val (ld_22 rfl (q1.at (j := 0) rfl)) rfl (EL.val (ln_22 rfl) rfl ?_)))))))));refine EL.val (x_sub rfl rfl (c := (ru.levels.length : Nat) - 1) (IntWalk.i64_in _ ⟨by omega, by omega⟩)) rfl ?_
  refine EL.mv rfl rfl ?_
  cases hk : jobs.all (inB 0 ((ru.levels.length : Nat) - 1 : Int))
  ·
   refine EL.call (cl_63 rfl rfl rfl) rfl (within_to hk _ _ C (hv.below (hbw.mono hC)) (Nat.le_trans hC hbw.size) (by omega)) ?_
   rintro e w2 ⟨rfl, hc2⟩
   refine ⟨_, rfl, ?_⟩;replace q1 := q1.bl hc2;replace hbw := bo_ hbw hc2;clear hc2;refine EL.val (x_not rfl) rfl (EL.as rfl rfl (EL.nil (EX.seq (EC.yes rfl (EC.seq (EC.region (EL.as rfl rfl (EL.nil (EX.seq ?_)))))))));refine EC.ret (EX.blk_ret (EX.seq_ret ?_))
   exact EX.done (res1 rfl rfl) ⟨by unfold jobsE; rw [if_neg hml, hk]; rfl, hbw⟩
  ·
   refine EL.call (cl_63 rfl rfl rfl) rfl (within_to hk _ _ C (hv.below (hbw.mono hC)) (Nat.le_trans hC hbw.size) (by omega)) ?_
   rintro e w3 ⟨rfl, hc3⟩
   refine ⟨_, rfl, ?_⟩;replace q1 := q1.bl hc3;replace hbw := bo_ hbw hc3;clear hc3;refine EL.val (x_not rfl) rfl (EL.as rfl rfl (EL.nil (EX.seq (EC.no rfl (EC.skip (EX.blk (EX.seq (EC.seq (EC.region ?_)))))))));refine EL.as rfl rfl (EL.nil (EX.seq (EC.ret ?_)))
   exact EX.done (res1 rfl rfl) ⟨by unfold jobsE; rw [if_neg hml, hk]; rfl, hbw⟩
section
variable {n : Nat} {σ : Sg} {w : World} {dst : Option Tmp} {ty : TypeId} {pos : String} {af : Array Edge} {g : Option (Nat × Bool)} {x y z : Operand} {at' : Array TypeId}
theorem cl_80 {x0 x1 x2 : Operand} {v0 v1 v2 : Value} (h0 : evS σ x0 = some v0) (h1 : evS σ x1 = some v1) (h2 : evS σ x2 = some v2) (a : Act) (ha : Env n σ a) : (execOp a.eval ⟨dst, .call { callee := .value (.func 80), args := #[x0, x1, x2], argTypes := at' }, ty, pos, af, g⟩).run Try.prog w = .ok (.enter 80 #[v0, v1, v2]) w := by
 simp only [execOp, resolve, List.map_toArray, List.map_cons, List.map_nil, ha.eval h0, ha.eval h1, ha.eval h2]
 simp [go_sem, Act.eval]
theorem cl_69 {x0 x1 x2 x3 : Operand} {v0 v1 v2 v3 : Value} (h0 : evS σ x0 = some v0) (h1 : evS σ x1 = some v1) (h2 : evS σ x2 = some v2) (h3 : evS σ x3 = some v3) (a : Act) (ha : Env n σ a) : (execOp a.eval ⟨dst, .call { callee := .value (.func 69), args := #[x0, x1, x2, x3], argTypes := at' }, ty, pos, af, g⟩).run Try.prog w = .ok (.enter 69 #[v0, v1, v2, v3]) w := by
 simp only [execOp, resolve, List.map_toArray, List.map_cons, List.map_nil, ha.eval h0, ha.eval h1, ha.eval h2, ha.eval h3]
 simp [go_sem, Act.eval]
theorem ln_130 {A : Option Addr} {m c : Nat} (hx : evS σ x = some (.slice A m c)) : Gives Try.prog n σ w ⟨dst, .call { callee := .builtin .len, args := #[x], argTypes := #[130] }, ty, pos, af, g⟩ (.int .i64 (m : Int)) := fun a ha => by
 simp only [execOp, resolve, List.map_toArray, List.map_cons, List.map_nil, ha.eval hx]
 simp [go_sem]
theorem cl_55 {x0 x1 x2 : Operand} {v0 v1 v2 : Value} (h0 : evS σ x0 = some v0) (h1 : evS σ x1 = some v1) (h2 : evS σ x2 = some v2) (a : Act) (ha : Env n σ a) : (execOp a.eval ⟨dst, .call { callee := .value (.func 55), args := #[x0, x1, x2], argTypes := at' }, ty, pos, af, g⟩).run Try.prog w = .ok (.enter 55 #[v0, v1, v2]) w := by
 simp only [execOp, resolve, List.map_toArray, List.map_cons, List.map_nil, ha.eval h0, ha.eval h1, ha.eval h2]
 simp [go_sem, Act.eval]
theorem ix_130 {b o m c k : Nat} (hx : evS σ x = some (.slice (some ⟨b, o, none⟩) m c)) (hy : evS σ y = some (.int .i64 (k : Int))) (hk : k < m) : Gives Try.prog n σ w ⟨dst, .indexAddr 130 x y, ty, pos, af, g⟩ (.pointer (some ⟨b, o + k * 3, none⟩)) := fun a ha => by
 have k0 : (0 : Int) ≤ (k : Int) := Int.natCast_nonneg _;have k1 : (k : Int) < (m : Int) := by omega
 simp only [execOp, ha.eval hx, ha.eval hy]
 simp [go_sem, k0, k1]
end
theorem jobs_ok {ru : Rules} {jobs : List Int} {most : Nat} (h : jobsE ru jobs most = 0) : jsI (jobs.map Int.toNat) = jobs ∧ (∀ i, i < (jobs.map Int.toNat).length → (jobs.map Int.toNat).getD i 0 < ru.levels.length) ∧ (jobs.map Int.toNat).length ≤ most := by
 unfold jobsE at h
 split at h
 ·omega
 ·rename_i hl
  split at h
  ·rename_i ha
   have hk : ∀ x ∈ jobs, 0 ≤ x ∧ x < ru.levels.length := fun x hx => by
    have := List.all_eq_true.1 ha x hx;rw [inB_iff] at this
    omega
   refine ⟨?_, fun i hi => ?_, by rw [List.length_map]; omega⟩
   ·unfold jsI
    rw [List.map_map]
    conv => rhs; rw [← List.map_id jobs]
    exact List.map_congr_left fun x hx => by have := hk x hx; simp only [Function.comp, id]; omega
   ·rw [List.length_map] at hi
    rw [map_getD (d := 0) hi, getD_in hi];have := hk jobs[i] (List.getElem_mem hi)
    omega
  ·omega
def depS (ru : Rules) (l : List Ev) (jobs : List Int) : Nat := depthR (extY (yardOf ru 1)) (jobs.map Int.toNat) ([tkE ru l, tank0, tank0], pl0)
def errS (ru : Rules) (l : List Ev) (jobs : List Int) : Int := if refE ru l = 0 then jobsE ru jobs 10 else refE ru l
def codeS (ru : Rules) (l : List Ev) (jobs : List Int) : Int := if errS ru l jobs = 0 then (if depS ru l jobs < jobs.length then 7 else 0) else errS ru l jobs
def atS (ru : Rules) (l : List Ev) (jobs : List Int) : Nat := if errS ru l jobs = 0 then (if depS ru l jobs < jobs.length then depS ru l jobs else 0) else 0
theorem single_e {ru : Rules} {l : List Ev} {jobs : List Int} {v : Value} {c : Int} {a : Nat} (hc : codeS ru l jobs = c) (ha : atS ru l jobs = a) : Ending.returned (.tuple #[v, .int .i64 (a : Nat), .int .i64 c]) = .returned (.tuple #[v, .int .i64 ((atS ru l jobs) : Nat), .int .i64 (codeS ru l jobs)]) := by rw [hc, ha]
set_option maxHeartbeats 1000000 in
theorem single_any {ru : Rules} {ua up : List Value} {vl va vp vk : Value} {w : World} {B : Nat} (hr : RdRules w B vl va vp vk ru ua up) (hB : B ≤ w.heap.size) (hs : Short ru) {l : List Ev} {v : Value} (hl : Rd w B 2 v l.length (evsC l)) (hn : l.length ≤ 1048576) {jobs : List Int} {vj : Value} (hv : Rd w B 1 vj jobs.length (ints jobs)) (hjn : jobs.length ≤ 9223372036854775807) :
  Calls Try.prog 55 #[rulesV vl va vp vk ru, v, vj] w fun e w' => (∃ v' lp, e = .returned (.tuple #[v', .int .i64 ((atS ru l jobs) : Nat), .int .i64 (codeS ru l jobs)]) ∧ OwnPls w' w.heap.size v' lp ∧
   (codeS ru l jobs = 0 → lp.length = jobs.length ∧ ∀ i, i < lp.length → IsBest (compl (extY (yardOf ru 1)) ((jobs.map Int.toNat).take (i + 1)) ([tkE ru l, tank0, tank0], pl0)) ((lp.map (·.1)).getD i pl0)) ∧ (codeS ru l jobs ≠ 0 → lp = []) ∧ lp.length ≤ 10) ∧ Below w.heap.size w w' := by
 obtain ⟨Al, cl, rfl, _⟩ := hr.levels.shape;obtain ⟨Aa, ca, rfl, _⟩ := hr.allow.rd.shape;obtain ⟨Ap, cp, rfl, _⟩ := hr.apart.rd.shape;obtain ⟨Ak, ck, rfl, _⟩ := hr.kinds.shape;obtain ⟨Ae, ce, rfl, _⟩ := hl.shape;obtain ⟨Aj, cj, rfl, _⟩ := hv.shape;have hbw := Below.refl w.heap.size w
 unfold rulesV
 refine EC.enter 39 Try.func55 rfl rfl rfl (EC.seq (EC.region (EL.newP (bx_28 rfl) rfl ?_)));intro g1 w1 q1 hb1 hg1 hl1;have bhbw_1 := Nat.le_trans hbw.size hg1;replace hbw := bo_ hbw hb1;clear hb1 hg1 hl1;refine EL.as rfl rfl (EL.as rfl rfl (EL.as rfl rfl (EL.nil (EX.seq (EC.seq (EC.region (EL.val (ld_28 rfl (q1.at (j := 0) rfl) (q1.at (j := 1) rfl) (q1.at (j := 2) rfl) (q1.at (j := 3) rfl) (q1.at (j := 4) rfl) (q1.at (j := 5) rfl)) rfl (EL.mv rfl rfl (EL.call (cl_48 rfl rfl) rfl (after_any (hr.below (hbw.mono hB)) (Nat.le_trans hB hbw.size) hs (hl.below (hbw.mono hB)) hn) ?_)))))))))
 rintro e w2 ⟨rfl, hc2⟩
 refine ⟨_, rfl, ?_⟩;replace q1 := q1.bl hc2;replace hbw := bo_ hbw hc2;clear hc2;refine EL.mv rfl rfl (EL.val (x_extract rfl rfl) rfl (EL.val (x_extract rfl rfl) rfl (EL.val (x_extract rfl rfl) rfl (EL.newP al_116 rfl ?_))));intro g3 w3 q3 hb3 hg3 hl3;have n1_3 := q1.na hg3;have bhbw_3 := Nat.le_trans hbw.size hg3;replace q1 := q1.bl hb3;replace hbw := bo_ hbw hb3;clear hb3 hg3 hl3;refine EL.newP al_tank rfl ?_;intro g4 w4 q4 hb4 hg4 hl4;have n1_4 := q1.na hg4;have n3_4 := q3.na hg4;have bhbw_4 := Nat.le_trans hbw.size hg4;replace q1 := q1.bl hb4;replace q3 := q3.bl hb4;replace hbw := bo_ hbw hb4;clear hb4 hg4 hl4;refine EL.store rfl rfl q3 sz_116 rfl rfl rfl rfl ?_;intro w5 hq5 hg5;replace q1 := q1.gr hg5 n1_3;replace q4 := q4.gr hg5 n3_4.symm;replace hbw := below_store hbw hg5 bhbw_3;replace q3 := hq5;clear hg5 hq5;refine EL.store (l' := (tkC (tkE ru l))) rfl rfl q4 sz_120 rfl ((lenV_eq _).trans (tkC_8 (tkE_ok ru l).n8)) (by rw [lenV_eq, Nat.ble_eq]; exact Nat.le_of_eq ((tkC_8 tank0_ok.n8).symm)) (tkC_one _) ?_
 intro w6 hq6 hg6;rw [spl_whole ((tkC_8 (tkE_ok ru l).n8).trans (tkC_8 tank0_ok.n8).symm)] at hq6;replace q1 := q1.gr hg6 n1_4;replace q3 := q3.gr hg6 n3_4;replace hbw := below_store hbw hg6 bhbw_4;replace q4 := hq6;clear hg6 hq6;refine EL.as rfl rfl (EL.nil (EX.seq (EC.seq (EC.seq (EC.region (EL.mv rfl rfl ?_))))))
 by_cases hz : refE ru l = 0
 ·
  refine EL.val (x_eql (r := true) rfl rfl (decide_eq_true hz)) rfl (EL.nil (EX.seq (EC.yes rfl (EC.region (EL.val (ld_116 rfl (q3.at (j := 0) rfl) (q3.at (j := 1) rfl) (q3.at (j := 2) rfl) (q3.at (j := 3) rfl) (q3.at (j := 4) rfl) (q3.at (j := 5) rfl)) rfl (EL.mv rfl rfl ?_))))));obtain ⟨hro, _, _⟩ := ref_ok hz;refine EL.call (cl_80 rfl rfl rfl) rfl (checkJobs_any (hr.below (hbw.mono hB)) hro (hv.below (hbw.mono hB)) (Nat.le_trans hB hbw.size) (most := 10) (by decide)) ?_
  rintro e w7 ⟨rfl, hc7⟩
  refine ⟨_, rfl, ?_⟩;replace q1 := q1.bl hc7;replace q3 := q3.bl hc7;replace q4 := q4.bl hc7;replace hbw := bo_ hbw hc7;clear hc7;refine EL.as rfl rfl (EL.nil (EX.seq (EC.seq (EC.seq (EC.region (EL.mv rfl rfl ?_))))))
  by_cases hj : jobsE ru jobs 10 = 0
  ·
   refine EL.val (x_neq (r := false) rfl rfl (decide_eq_false (fun h => h hj))) rfl ?_
   refine EL.nil (EX.seq (EC.no rfl (EC.skip (EX.seq (EC.seq (EC.seq (EC.region (EL.val (ld_116 rfl (q3.at (j := 0) rfl) (q3.at (j := 1) rfl) (q3.at (j := 2) rfl) (q3.at (j := 3) rfl) (q3.at (j := 4) rfl) (q3.at (j := 5) rfl)) rfl (EL.val (x_loadA rfl (q4.range (PartAt.whole _)) Try.underlying120 rfl (sz_120.trans (congrArg some (tkC_8 (tkE_ok ru l).n8).symm))) rfl ?_)))))))));refine EL.val (x_fleet1 rfl (tkE_ok ru l).n8) rfl (EL.mv rfl rfl ?_);obtain ⟨hj1, hj2, hj3⟩ := jobs_ok hj;refine EL.call (cl_69 rfl rfl rfl rfl) rfl (plans_any (hr.below (hbw.mono hB)) (Nat.le_trans hB hbw.size) hro (fleet1_ok (tkE_ok ru l)) (many := 1) (by decide) (js := jobs.map Int.toNat) hj2 hj3 (C := B) (by rw [List.length_map, hj1]; exact hv.below (hbw.mono hB)) (Nat.le_trans hB hbw.size)) ?_
   rintro e w8 ⟨⟨vp2, lp, rfl, hP, hbs⟩, hc8⟩
   refine ⟨_, rfl, ?_⟩;replace hP := hP.less hbw.size;replace q1 := q1.bl hc8;replace q3 := q3.bl hc8;replace q4 := q4.bl hc8;replace hbw := bo_ hbw hc8;clear hc8;obtain ⟨Aq, cq, rfl, _⟩ := hP.rd.shape;obtain ⟨hb1, hb2⟩ := hbs;rw [List.length_map] at hb1 hb2;refine EL.as rfl rfl (EL.nil (EX.seq (EC.seq (EC.region (EL.mv rfl rfl (EL.val (ln_130 rfl) rfl (EL.mv rfl rfl (EL.val (ln_22 rfl) rfl ?_))))))))
   by_cases hlt : lp.length < jobs.length
   ·
    refine EL.val (x_lss (r := true) rfl rfl (decide_eq_true (by omega))) rfl ?_
    refine EL.nil (EX.seq (EC.yes rfl (EC.seq (EC.region (EL.mv rfl rfl (EL.val (ln_130 rfl) rfl (EL.as rfl rfl (EL.as rfl rfl (EL.as rfl rfl ?_)))))))));refine EL.nil (EX.seq (EC.ret (EX.seq_ret ?_)));have hcd : codeS ru l jobs = 7 := by unfold codeS depS; rw [errS, if_pos hz, if_pos hj, ← hb1, if_pos hlt]
    have hat : atS ru l jobs = lp.length := by unfold atS depS; rw [errS, if_pos hz, if_pos hj, ← hb1, if_pos hlt]
    exact EX.done (res3 rfl rfl rfl rfl) ⟨⟨_, [], single_e hcd hat, OwnPls.nil, fun h => absurd h (by rw [hcd]; decide), fun _ => rfl, by decide⟩, hbw⟩
   ·
    refine EL.val (x_lss (r := false) rfl rfl (decide_eq_false (by omega))) rfl ?_
    refine EL.nil (EX.seq (EC.no rfl (EC.skip (EX.seq (EC.seq (EC.region (EL.mv rfl rfl (EL.as rfl rfl (EL.as rfl rfl ?_)))))))));refine EL.as rfl rfl (EL.nil (EX.seq (EC.ret ?_)));have hcd : codeS ru l jobs = 0 := by unfold codeS depS; rw [errS, if_pos hz, if_pos hj, ← hb1, if_neg hlt]
    have hat : atS ru l jobs = 0 := by unfold atS depS; rw [errS, if_pos hz, if_pos hj, ← hb1, if_neg hlt]
    exact EX.done (res3 rfl rfl rfl rfl) ⟨⟨_, lp, single_e hcd hat, hP, fun _ => ⟨by have := depth_le (ext := extY (yardOf ru 1)) (jobs.map Int.toNat) ([tkE ru l, tank0, tank0], pl0); rw [List.length_map] at this; omega, hb2⟩, fun h => absurd hcd h, by rw [List.length_map] at hj3; have := depth_le (ext := extY (yardOf ru 1)) (jobs.map Int.toNat) ([tkE ru l, tank0, tank0], pl0); rw [List.length_map] at this; omega⟩, hbw⟩
  ·
   refine EL.val (x_neq (r := true) rfl rfl (decide_eq_true hj)) rfl (EL.nil (EX.seq (EC.yes rfl (EC.seq (EC.region (EL.mv rfl rfl (EL.as rfl rfl (EL.as rfl rfl (EL.as rfl rfl ?_)))))))));refine EL.nil (EX.seq (EC.ret (EX.seq_ret ?_)))
   exact EX.done (res3 rfl rfl rfl rfl) ⟨⟨_, [], single_e (by unfold codeS; rw [errS, if_pos hz, if_neg hj]) (by unfold atS; rw [errS, if_pos hz, if_neg hj]), OwnPls.nil, fun h => absurd h (by unfold codeS; rw [errS, if_pos hz, if_neg hj]; exact hj), fun _ => rfl, by decide⟩, hbw⟩
 ·
  refine EL.val (x_eql (r := false) rfl rfl (decide_eq_false hz)) rfl (EL.nil (EX.seq (EC.no rfl (EC.skip (EX.seq (EC.seq (EC.seq (EC.region (EL.mv rfl rfl ?_)))))))));refine EL.val (x_neq (r := true) rfl rfl (decide_eq_true hz)) rfl (EL.nil (EX.seq (EC.yes rfl (EC.seq (EC.region (EL.mv rfl rfl (EL.as rfl rfl (EL.as rfl rfl (EL.as rfl rfl ?_)))))))));refine EL.nil (EX.seq (EC.ret (EX.seq_ret ?_)))
  exact EX.done (res3 rfl rfl rfl rfl) ⟨⟨_, [], single_e (by unfold codeS; rw [errS, if_neg hz, if_neg hz]) (by unfold atS; rw [errS, if_neg hz, if_neg hz]), OwnPls.nil, fun h => absurd h (by unfold codeS; rw [errS, if_neg hz, if_neg hz]; exact hz), fun _ => rfl, by decide⟩, hbw⟩
theorem take_ints {l : List Int} {x : Nat} (h : x < l.length) : ints (l.take (x + 1)) = ints (l.take x) ++ [.int .i64 (l.getD x 0)] := by
 rw [List.take_succ_eq_append_getElem h, getD_in h]
 unfold ints
 rw [List.map_append]
 rfl
set_option maxHeartbeats 1000000 in
theorem Fewest_any {ru : Rules} {ua up : List Value} {vl va vp vk : Value} {w : World} {B : Nat} (hr : RdRules w B vl va vp vk ru ua up) (hB : B ≤ w.heap.size) (hs : Short ru) {l : List Ev} {v : Value} (hl : Rd w B 2 v l.length (evsC l)) (hn : l.length ≤ 1048576) {jobs : List Int} {vj : Value} (hv : Rd w B 1 vj jobs.length (ints jobs)) (hjn : jobs.length ≤ 9223372036854775807) :
  Calls Try.prog 25 #[rulesV vl va vp vk ru, v, vj] w fun e w' => (∃ v' ws, e = .returned (.tuple #[v', .int .i64 ((atS ru l jobs) : Nat), .int .i64 (codeS ru l jobs)]) ∧ w'.ownsRow w.heap.size 3 1 v' ws.length (ints ws) ∧
   (codeS ru l jobs = 0 → ws.length = jobs.length ∧ ∀ i, i < ws.length → ∃ p, IsBest (compl (extY (yardOf ru 1)) ((jobs.map Int.toNat).take (i + 1)) ([tkE ru l, tank0, tank0], pl0)) p ∧ ws.getD i 0 = p.washes) ∧ (codeS ru l jobs ≠ 0 → ws = [])) ∧ Below w.heap.size w w' := by
 obtain ⟨Al, cl, rfl, _⟩ := hr.levels.shape;obtain ⟨Aa, ca, rfl, _⟩ := hr.allow.rd.shape;obtain ⟨Ap, cp, rfl, _⟩ := hr.apart.rd.shape;obtain ⟨Ak, ck, rfl, _⟩ := hr.kinds.shape;obtain ⟨Ae, ce, rfl, _⟩ := hl.shape;obtain ⟨Aj, cj, rfl, _⟩ := hv.shape;have hbw := Below.refl w.heap.size w
 unfold rulesV
 refine EC.enter 35 Try.func25 rfl rfl rfl (EC.seq (EC.region (EL.newP (bx_28 rfl) rfl ?_)));intro g1 w1 q1 hb1 hg1 hl1;have bhbw_1 := Nat.le_trans hbw.size hg1;replace hbw := bo_ hbw hb1;clear hb1 hg1 hl1;refine EL.as rfl rfl (EL.as rfl rfl (EL.as rfl rfl (EL.nil (EX.seq (EC.seq (EC.region (EL.val (ld_28 rfl (q1.at (j := 0) rfl) (q1.at (j := 1) rfl) (q1.at (j := 2) rfl) (q1.at (j := 3) rfl) (q1.at (j := 4) rfl) (q1.at (j := 5) rfl)) rfl (EL.mv rfl rfl (EL.mv rfl rfl ?_)))))))));refine EL.call (cl_55 rfl rfl rfl) rfl (single_any (hr.below (hbw.mono hB)) (Nat.le_trans hB hbw.size) hs (hl.below (hbw.mono hB)) hn (hv.below (hbw.mono hB)) hjn) ?_
 rintro e w2 ⟨⟨v1, lp, rfl, hP, hok, hno, hl10⟩, hc2⟩
 refine ⟨_, rfl, ?_⟩;replace hP := hP.less hbw.size;replace q1 := q1.bl hc2;replace hbw := bo_ hbw hc2;clear hc2;obtain ⟨Aq, cq, rfl, _⟩ := hP.rd.shape;refine EL.mv rfl rfl (EL.val (x_extract rfl rfl) rfl (EL.val (x_extract rfl rfl) rfl (EL.val (x_extract rfl rfl) rfl (EL.as rfl rfl (EL.as rfl rfl (EL.as rfl rfl (EL.nil (EX.seq (EC.seq ?_)))))))));refine EC.seq (EC.region (EL.mv rfl rfl (EL.val (ln_130 rfl) rfl (EL.mv rfl rfl (EL.nil (EX.seq (EC.block ?_)))))));obtain ⟨ws, ews⟩ : ∃ z, z = lp.map (fun y => y.1.washes) := ⟨_, rfl⟩
 have hol : ws.length = lp.length := by rw [ews, List.length_map]
 have hPr := hP.rd;have hcs := Below.refl w2.heap.size w2;have hsz0 := hbw.size;refine EC.loopD [6, 11, 22, 23, 24, 25, 26, 27, 28, 29, 30, 31] (fun x : Nat × Value => [(22, .int .i64 (x.1 : Nat)), (6, x.2)]) (fun x W => x.1 ≤ lp.length ∧ W.ownsRow w2.heap.size 3 1 x.2 x.1 (ints (ws.take x.1)) ∧ Below w2.heap.size w2 W) (fun x => lp.length - x.1) (0, .slice none 0 0) ⟨Nat.zero_le _, World.ownsRow_nil _ _ _ _, hcs⟩ ⟨rfl, rfl, trivial⟩ ?_
 clear hcs
 rintro ⟨x, v6⟩ wx ⟨hx, ho, hcs⟩
 dsimp only at hx ho
 by_cases hlt : x < lp.length
 ·
  obtain ⟨bp, op, ep, _, c0, c1, c2⟩ := pls_cells lp x hlt wx w2.heap.size _ _ _ (hPr.below hcs)
  cases ep
  have hval : (lp.getD x pr0).1.washes = ws.getD x 0 := by rw [ews, map_getD (d := pr0) hlt]
  refine EC.seq (EC.region ?_);refine EL.val (x_lss rfl rfl (decide_eq_true (show (((x : Nat) : Int) < ((lp.length : Nat) : Int)) by omega))) rfl ?_
  refine EL.nil (EX.seq (EC.seq (EC.yes rfl (EC.skip (EX.seq (EC.seq (EC.block (EC.seq (EC.region ?_)))))))));refine EL.val (ix_130 rfl rfl hlt) rfl (EL.val (ld_134 rfl c0 c1 c2) rfl (EL.newP al_134 rfl ?_));intro g3 w3 q3 hb3 hg3 hl3;have bhcs_3 := Nat.le_trans hcs.size hg3;replace ho := own_below ho hb3 (Nat.le_refl _);replace hcs := Below.on hcs hb3 hcs.size;clear hb3 hg3 hl3;refine EL.store rfl rfl q3 sz_134 rfl rfl rfl rfl ?_;intro w4 hq4 hg4;replace ho := own_type ho q3 rfl hg4;replace hcs := below_store hcs hg4 bhcs_3;replace q3 := hq4;clear hg4 hq4;refine EL.nil (EX.seq (EC.region (EL.mv rfl rfl (EL.val (fa_134_1 rfl) rfl (EL.val (ld_3 rfl (q3.at (j := 1) rfl)) rfl (EL.newS (bs_22_1 rfl) rfl ?_))))));intro g5 w5 q5 hb5 hg5 hl5;have n3_5 := q3.na hg5;have bhcs_5 := Nat.le_trans hcs.size hg5;replace q3 := q3.bl hb5;replace ho := own_below ho hb5 (Nat.le_refl _);replace hcs := Below.on hcs hb5 hcs.size;clear hb5 hg5 hl5;refine EL.push ir_elem rfl rfl ho (rd_one (l := [.int .i64 (lp.getD x pr0).1.washes]) q5 rfl) (by intro u hu; simp only [List.mem_cons, List.not_mem_nil, or_false] at hu; rcases hu with rfl <;> rfl) (by omega) rfl hcs.size rfl ?_
  intro v6 w6 ho2 hgr hb_ hat;replace q3 := blk_grown q3 ho rfl hgr;replace hcs := hcs.trans hb_;clear ho hgr hb_ hat;have ho := ho2;clear ho2;refine EL.as rfl rfl (EL.nil (EX.blk (EX.seq (EC.region ?_))));refine EL.val (x_add rfl rfl (c := ((x + 1 : Nat) : Int)) ((IntWalk.i64_in _ ⟨by omega, by omega⟩).trans (by omega))) rfl ?_
  refine EL.mv rfl rfl (EL.nil ?_);refine EX.roundD (x + 1, v6) ⟨rfl, rfl, trivial⟩ (by repeat first | with_reducible exact Sub.refl _ | refine sub_past rfl ?_ | exact Sub.refl _ | refine sub_del rfl ?_ | refine sub_insL_nil ?_) ⟨hlt, by simp only; rw [take_ints (by rw [hol]; exact hlt)]; exact own_cast ho rfl (by rw [hval]), hcs⟩ (by simp only; omega)
 ·
  have hxe : x = lp.length := by omega
  replace hbw := hbw.trans (hcs.mono hsz0);rw [hxe, List.take_of_length_le (Nat.le_of_eq hol)] at ho;replace ho := own_less ho hsz0;refine EC.seq (EC.region ?_);refine EL.val (x_lss rfl rfl (decide_eq_false (show ¬(((x : Nat) : Int) < ((lp.length : Nat) : Int)) by omega))) rfl ?_
  refine EL.nil (EX.seq (EC.seq (EC.no rfl (EC.exit (EX.seq_exit (EX.seq_exit (EX.blk_here (EX.seq (EC.seq ?_)))))))));refine EC.region (EL.mv rfl rfl (EL.mv rfl rfl (EL.mv rfl rfl (EL.as rfl rfl (EL.as rfl rfl (EL.as rfl rfl (EL.nil (EX.seq (EC.ret ?_)))))))))
  exact EX.done (res3 rfl rfl rfl rfl) ⟨⟨_, ws, rfl, own_cast ho hol.symm rfl, fun hc => ⟨by rw [hol]; exact (hok hc).1, fun i hi => ⟨_, (hok hc).2 i (by rw [← hol]; exact hi), by rw [ews, map_getD (d := pr0) (by rw [← hol]; exact hi), map_getD (d := pr0) (by rw [← hol]; exact hi)]⟩⟩, fun hc => by rw [ews, hno hc]; rfl⟩, hbw⟩
theorem res4 {P : Program} {n : Nat} {σ : Sg} {w : World} {fn : Func} {t s r q : Tmp} {v u x y : Value} (h : fn.results = #[.tmp t, .tmp s, .tmp r, .tmp q]) (ht : σ t = some v) (hs : σ s = some u) (hx : σ r = some x) (hy : σ q = some y) (a : Act) (ha : Env n σ a) : (results fn a.tmps).run P w = .ok (.tuple #[v, u, x, y]) w := by
 have h1 : a.tmps.getD t undef = v := ha.eval (x := .tmp t) ht;have h2 : a.tmps.getD s undef = u := ha.eval (x := .tmp s) hs;have h3 : a.tmps.getD r undef = x := ha.eval (x := .tmp r) hx;have h4 : a.tmps.getD q undef = y := ha.eval (x := .tmp q) hy
 simp [results, h]
 rw [Array.getD_eq_getD_getElem?] at h1 h2 h3 h4
 simp [h1, h2, h3, h4]
theorem best_nil {ext : Nat → Sx → List Sx} {s : List (List Tr)} : IsBest (compl ext (([] : List Int).map Int.toNat) (s, pl0)) pl0 := ⟨⟨s, List.mem_singleton.2 rfl⟩, fun x hx => by rw [List.mem_singleton.1 hx, cmp_pl.self]; decide⟩
theorem at_zero {ru : Rules} {l : List Ev} {jobs : List Int} (h : codeS ru l jobs = 0) : atS ru l jobs = 0 := by
 unfold codeS at h
 unfold atS
 split
 ·rename_i he
  rw [if_pos he] at h
  split
  ·rename_i hd
   rw [if_pos hd] at h
   cases h
  ·rfl
 ·rfl
theorem code_ref {ru : Rules} {l : List Ev} {jobs : List Int} (h : codeS ru l jobs = 0) : refE ru l = 0 ∧ jobsE ru jobs 10 = 0 := by
 have he : errS ru l jobs = 0 := by
  unfold codeS at h
  split at h
  ·rename_i he; exact he
  ·exact h
 unfold errS at he
 split at he
 ·rename_i hz; exact ⟨hz, he⟩
 ·rename_i hz; exact absurd he hz
theorem plan_e {ru : Rules} {l : List Ev} {jobs : List Int} {v : Value} {c : Int} (hc : codeS ru l jobs = 0) (ha : atS ru l jobs = 0) : Ending.returned (.tuple #[v, .int .i64 c, .int .i64 0, .int .i64 0]) = .returned (.tuple #[v, .int .i64 c, .int .i64 ((atS ru l jobs) : Nat), .int .i64 (codeS ru l jobs)]) := by rw [hc, ha]; rfl
theorem plan_len {js : List Nat} {s : List (List Tr)} {p : Pl} {ru : Rules} (hro : RulesOk ru) {many : Nat} (h : IsBest (compl (extY (yardOf ru many)) js (s, pl0)) p) : p.steps.length = js.length := by
 obtain ⟨⟨t, ht⟩, _⟩ := h;have h0 : ∀ x ∈ compl (extY (yardOf ru many)) js (s, pl0), x.2.steps.length = js.length := fun x hx => by
  obtain ⟨⟨u, h1, h2⟩, _⟩ := compl_mem (extY_ok _ (kcost_nn hro many)) hx;rw [h1]
  show ([] ++ u).length = _
  rw [List.nil_append, h2]
 exact h0 _ ht
set_option maxHeartbeats 1000000 in
theorem Plan_any {ru : Rules} {ua up : List Value} {vl va vp vk : Value} {w : World} {B : Nat} (hr : RdRules w B vl va vp vk ru ua up) (hB : B ≤ w.heap.size) (hs : Short ru) {l : List Ev} {v : Value} (hl : Rd w B 2 v l.length (evsC l)) (hn : l.length ≤ 1048576) {jobs : List Int} {vj : Value} (hv : Rd w B 1 vj jobs.length (ints jobs)) (hjn : jobs.length ≤ 9223372036854775807) :
  Calls Try.prog 24 #[rulesV vl va vp vk ru, v, vj] w fun e w' => (∃ v' ws c, e = .returned (.tuple #[v', .int .i64 c, .int .i64 ((atS ru l jobs) : Nat), .int .i64 (codeS ru l jobs)]) ∧ w'.ownsRow w.heap.size 3 1 v' ws.length (ints ws) ∧
   (codeS ru l jobs = 0 → ∃ p, IsBest (compl (extY (yardOf ru 1)) (jobs.map Int.toNat) ([tkE ru l, tank0, tank0], pl0)) p ∧ ws = p.steps.map (·.wash) ∧ c = p.cost) ∧ (codeS ru l jobs ≠ 0 → ws = [] ∧ c = 0)) ∧ Below w.heap.size w w' := by
 obtain ⟨Al, cl, rfl, _⟩ := hr.levels.shape;obtain ⟨Aa, ca, rfl, _⟩ := hr.allow.rd.shape;obtain ⟨Ap, cp, rfl, _⟩ := hr.apart.rd.shape;obtain ⟨Ak, ck, rfl, _⟩ := hr.kinds.shape;obtain ⟨Ae, ce, rfl, _⟩ := hl.shape;obtain ⟨Aj, cj, rfl, _⟩ := hv.shape;have hbw := Below.refl w.heap.size w
 unfold rulesV
 refine EC.enter 53 Try.func24 rfl rfl rfl (EC.seq (EC.region (EL.newP (bx_28 rfl) rfl ?_)));intro g1 w1 q1 hb1 hg1 hl1;have bhbw_1 := Nat.le_trans hbw.size hg1;replace hbw := bo_ hbw hb1;clear hb1 hg1 hl1;refine EL.as rfl rfl (EL.as rfl rfl (EL.as rfl rfl (EL.as rfl rfl (EL.nil (EX.seq (EC.seq (EC.region (EL.val (ld_28 rfl (q1.at (j := 0) rfl) (q1.at (j := 1) rfl) (q1.at (j := 2) rfl) (q1.at (j := 3) rfl) (q1.at (j := 4) rfl) (q1.at (j := 5) rfl)) rfl (EL.mv rfl rfl ?_)))))))));refine EL.mv rfl rfl (EL.call (cl_55 rfl rfl rfl) rfl (single_any (hr.below (hbw.mono hB)) (Nat.le_trans hB hbw.size) hs (hl.below (hbw.mono hB)) hn (hv.below (hbw.mono hB)) hjn) ?_)
 rintro e w2 ⟨⟨v1, lp, rfl, hP, hok, hno, hl10⟩, hc2⟩
 refine ⟨_, rfl, ?_⟩;replace hP := hP.less hbw.size;replace q1 := q1.bl hc2;replace hbw := bo_ hbw hc2;clear hc2;obtain ⟨Aq, cq, rfl, _⟩ := hP.rd.shape;refine EL.mv rfl rfl (EL.val (x_extract rfl rfl) rfl (EL.val (x_extract rfl rfl) rfl (EL.val (x_extract rfl rfl) rfl (EL.as rfl rfl (EL.as rfl rfl (EL.as rfl rfl (EL.nil (EX.seq (EC.seq ?_)))))))));refine EC.seq (EC.region (EL.mv rfl rfl ?_))
 by_cases hc : codeS ru l jobs = 0
 ·
  refine EL.val (x_neq (r := false) rfl rfl (decide_eq_false (fun h => h hc))) rfl ?_
  refine EL.mv rfl rfl (EL.valg rfl rfl (x_move rfl) rfl (EL.valg rfl rfl (ln_22 rfl) rfl ?_))
  by_cases he : jobs.length = 0
  ·
   refine EL.valg rfl rfl (x_eql (r := true) rfl rfl (decide_eq_true (by omega))) rfl ?_
   refine EL.val (x_pick_f rfl rfl) rfl (EL.nil (EX.seq (EC.yes rfl (EC.seq (EC.region (EL.mv rfl rfl (EL.mv rfl rfl (EL.as rfl rfl (EL.as rfl rfl ?_)))))))));refine EL.as rfl rfl (EL.as rfl rfl (EL.nil (EX.seq (EC.ret (EX.seq_ret ?_)))))
   exact EX.done (res4 rfl rfl rfl rfl rfl) ⟨⟨_, [], 0, rfl, World.ownsRow_nil _ _ _ _, fun _ => ⟨pl0, by rw [List.eq_nil_of_length_eq_zero he]; exact best_nil, rfl, rfl⟩, fun h => absurd hc h⟩, hbw⟩
  ·
   refine EL.valg rfl rfl (x_eql (r := false) rfl rfl (decide_eq_false (by omega))) rfl ?_
   refine EL.val (x_pick_f rfl rfl) rfl (EL.nil (EX.seq (EC.no rfl (EC.skip (EX.seq (EC.seq (EC.region ?_)))))));obtain ⟨hlj, hbs⟩ := hok hc;obtain ⟨nn, hnn⟩ : ∃ nn, lp.length = nn + 1 := ⟨lp.length - 1, by omega⟩
   have hlast := hbs nn (by omega)
   rw [map_getD (d := pr0) (show nn < lp.length by omega), List.take_of_length_le (by rw [List.length_map]; omega)] at hlast
   have hmem : lp.getD nn pr0 ∈ lp := by rw [getD_in (show nn < lp.length by omega)]; exact List.getElem_mem _
   obtain ⟨⟨pb, Ab, cb⟩, epb⟩ : ∃ z, z = lp.getD nn pr0 := ⟨_, rfl⟩;rw [← epb] at hlast hmem
   dsimp only at hlast
   refine EL.mv rfl rfl (EL.mv rfl rfl (EL.val (ln_130 rfl) rfl ?_));refine EL.val (x_sub rfl rfl (c := ((nn : Nat) : Int)) ((IntWalk.i64_in _ ⟨by omega, by omega⟩).trans (by omega))) rfl ?_
   obtain ⟨bp, op, ep, _, c0, c1, c2⟩ := pls_cells lp nn (by omega) w2 w2.heap.size _ _ _ hP.rd
   rw [← epb] at c0 c1 c2
   dsimp only at c0 c1 c2
   cases ep
   have hst := hP.rows _ hmem
   dsimp only at hst
   have hsr : Rd w2 w2.heap.size 2 _ _ _ := Rd.of_own hst;clear hst;have hbx := Below.refl w2.heap.size w2;refine EL.val (ix_130 rfl rfl (show nn < lp.length by omega)) rfl ?_
   refine EL.val (ld_134 rfl c0 c1 c2) rfl (EL.newP al_134 rfl ?_);intro g3 w3 q3 hb3 hg3 hl3;have n1_3 := q1.na hg3;have bhbw_3 := Nat.le_trans hbw.size hg3;have bhbx_3 := Nat.le_trans hbx.size hg3;replace q1 := q1.bl hb3;replace hbw := bo_ hbw hb3;replace hbx := bo_ hbx hb3;clear hb3 hg3 hl3;refine EL.store rfl rfl q3 sz_134 rfl rfl rfl rfl ?_;intro w4 hq4 hg4;replace q1 := q1.gr hg4 n1_3;replace hbw := below_store hbw hg4 bhbw_3;replace hbx := below_store hbx hg4 bhbx_3;replace q3 := hq4;clear hg4 hq4;refine EL.nil (EX.seq (EC.seq (EC.seq (EC.region (EL.val (fa_134_0 rfl) rfl (EL.val (ld_65 rfl (q3.at (j := 0) rfl)) rfl (EL.val (ln_65 rfl) rfl (EL.mv rfl rfl (EL.nil ?_)))))))));refine EX.seq (EC.block ?_);obtain ⟨ws, ews⟩ : ∃ z, z = pb.steps.map (fun y => y.wash) := ⟨_, rfl⟩
   have hol : ws.length = pb.steps.length := by rw [ews, List.length_map]
   have hpl2 : pb.steps.length ≤ 10 := by have := plan_len (ref_ok (code_ref hc).1).1 hlast; rw [List.length_map] at this; omega
   have hbx0 := hbx;have hcs := Below.refl w4.heap.size w4;have hsz0 := hbw.size;refine EC.loopD [6, 13, 40, 41, 42, 43, 44, 45, 46, 47, 48, 49] (fun x : Nat × Value => [(40, .int .i64 (x.1 : Nat)), (6, x.2)]) (fun x W => x.1 ≤ pb.steps.length ∧ W.ownsRow w4.heap.size 3 1 x.2 x.1 (ints (ws.take x.1)) ∧ Below w4.heap.size w4 W) (fun x => pb.steps.length - x.1) (0, .slice none 0 0) ⟨Nat.zero_le _, World.ownsRow_nil _ _ _ _, hcs⟩ ⟨rfl, rfl, trivial⟩ ?_
   clear hcs
   rintro ⟨x, v6⟩ wx ⟨hx, ho, hcs⟩
   dsimp only at hx ho
   by_cases hlt : x < pb.steps.length
   ·
    obtain ⟨bp3, op3, ep3, _, c3, c4⟩ := sts_cells pb.steps x hlt wx w2.heap.size _ _ _ (hsr.below (hbx.trans (hcs.mono hbx.size)))
    cases ep3
    have hval : (pb.steps.getD x st0).wash = ws.getD x 0 := by rw [ews, map_getD (d := st0) hlt]
    refine EC.seq (EC.region ?_);refine EL.val (x_lss rfl rfl (decide_eq_true (show (((x : Nat) : Int) < ((pb.steps.length : Nat) : Int)) by omega))) rfl ?_
    refine EL.nil (EX.seq (EC.seq (EC.yes rfl (EC.skip (EX.seq (EC.seq (EC.block (EC.seq (EC.region ?_)))))))));refine EL.val (ix_65 rfl rfl hlt) rfl (EL.val (ld_70 rfl c3 c4) rfl (EL.newP al_70 rfl ?_));intro g5 w5 q5 hb5 hg5 hl5;have bhcs_5 := Nat.le_trans hcs.size hg5;replace ho := own_below ho hb5 (Nat.le_refl _);replace hcs := Below.on hcs hb5 hcs.size;clear hb5 hg5 hl5;refine EL.store rfl rfl q5 sz_70 rfl rfl rfl rfl ?_;intro w6 hq6 hg6;replace ho := own_type ho q5 rfl hg6;replace hcs := below_store hcs hg6 bhcs_5;replace q5 := hq6;clear hg6 hq6;refine EL.nil (EX.seq (EC.region (EL.mv rfl rfl (EL.val (fa_70_1 rfl) rfl (EL.val (ld_3 rfl (q5.at (j := 1) rfl)) rfl (EL.newS (bs_22_1 rfl) rfl ?_))))));intro g7 w7 q7 hb7 hg7 hl7;have n5_7 := q5.na hg7;have bhcs_7 := Nat.le_trans hcs.size hg7;replace q5 := q5.bl hb7;replace ho := own_below ho hb7 (Nat.le_refl _);replace hcs := Below.on hcs hb7 hcs.size;clear hb7 hg7 hl7;refine EL.push ir_elem rfl rfl ho (rd_one (l := [.int .i64 (pb.steps.getD x st0).wash]) q7 rfl) (by intro u hu; simp only [List.mem_cons, List.not_mem_nil, or_false] at hu; rcases hu with rfl <;> rfl) (by omega) rfl hcs.size rfl ?_
    intro v8 w8 ho2 hgr hb_ hat;replace q5 := blk_grown q5 ho rfl hgr;replace hcs := hcs.trans hb_;clear ho hgr hb_ hat;have ho := ho2;clear ho2;refine EL.as rfl rfl (EL.nil (EX.blk (EX.seq (EC.region ?_))));refine EL.val (x_add rfl rfl (c := ((x + 1 : Nat) : Int)) ((IntWalk.i64_in _ ⟨by omega, by omega⟩).trans (by omega))) rfl ?_
    refine EL.mv rfl rfl (EL.nil ?_);refine EX.roundD (x + 1, v8) ⟨rfl, rfl, trivial⟩ (by repeat first | with_reducible exact Sub.refl _ | refine sub_past rfl ?_ | exact Sub.refl _ | refine sub_del rfl ?_ | refine sub_insL_nil ?_) ⟨hlt, by simp only; rw [take_ints (by rw [hol]; exact hlt)]; exact own_cast ho rfl (by rw [hval]), hcs⟩ (by simp only; omega)
   ·
    have hxe : x = pb.steps.length := by omega
    replace hbw := hbw.trans (hcs.mono hsz0);rw [hxe, List.take_of_length_le (Nat.le_of_eq hol)] at ho;replace ho := own_less ho hsz0;replace q3 := q3.bl hcs;refine EC.seq (EC.region ?_);refine EL.val (x_lss rfl rfl (decide_eq_false (show ¬(((x : Nat) : Int) < ((pb.steps.length : Nat) : Int)) by omega))) rfl ?_
    refine EL.nil (EX.seq (EC.seq (EC.no rfl (EC.exit (EX.seq_exit (EX.seq_exit (EX.blk_here (EX.seq (EC.seq ?_)))))))));have lt_3 := q3.lt;refine EC.regionP [[], [], [1], [0], [0, 1, 2, 3], [0, 1, 2, 3, 4], [0, 1, 2, 3, 4, 5]] 4 [] (phi (fun i_ r => match i_ with | 0 => r 0 = v6 | 1 => r 1 = .pointer (some ⟨g3, 2, none⟩) | 2 => r 2 = .int .i64 pb.cost | 3 => r 3 = v6 | _ => True) []) (by kernel_rfl) rfl rfl (phi_nil) (fun i_ hi_ => ?_) ?_
    ·match i_, hi_ with
     | 0, _ =>
      intro val w1 a hb ha hd;have ha := ha.s0 (d := 6) rfl
      exact hs_val ha rfl rfl (x_move rfl) rfl rfl
     | 1, _ =>
      intro val w1 a hb ha hd;have ha := ha.s0 (d := 11) rfl
      exact hs_val ha rfl rfl (fa_134_2 rfl) rfl rfl
     | 2, _ =>
      intro val w1 a hb ha hd;have e1 : val 1 = .pointer (some ⟨g3, 2, none⟩) := hd 1 (memB_mem.1 rfl);have ha := ha.s1 (d := 51) rfl e1
      exact hs_val ha rfl rfl (ld_3 rfl ((q3.below hb q3.lt).at (j := 2) rfl)) rfl rfl
     | 3, _ =>
      intro val w1 a hb ha hd;have e0 : val 0 = v6 := hd 0 (memB_mem.1 rfl);have ha := ha.s1 (d := 50) rfl e0
      exact hs_val ha rfl rfl (x_assign rfl) rfl rfl
     | k + 4, h => exact absurd h (by omega)
    ·intro val wR10 hb halc hd
     have e0 : val 0 = v6 := hd 0 (by omega)
     have e1 : val 1 = .pointer (some ⟨g3, 2, none⟩) := hd 1 (by omega)
     have e2 : val 2 = .int .i64 pb.cost := hd 2 (by omega)
     have e3 : val 3 = v6 := hd 3 (by omega)
     refine EL.ends (cs := [v6, .pointer (some ⟨g3, 2, none⟩), .int .i64 pb.cost, v6]) ⟨e0, e1, e2, e3, trivial⟩ rfl ?_;replace q3 := q3.bl hb;replace ho := own_below ho hb (Nat.le_refl _);replace hbw := bo_ hbw hb;clear hb;refine EL.as rfl rfl (EL.as rfl rfl (EL.as rfl rfl (EL.nil (EX.seq (EC.ret ?_)))));have hat : atS ru l jobs = 0 := at_zero hc
     exact EX.done (res4 rfl rfl rfl rfl rfl) ⟨⟨_, ws, pb.cost, plan_e hc hat, own_cast ho hol.symm rfl, fun _ => ⟨pb, hlast, ews, rfl⟩, fun h => absurd hc h⟩, hbw⟩
 ·
  refine EL.val (x_neq (r := true) rfl rfl (decide_eq_true hc)) rfl (EL.mv rfl rfl (EL.skip rfl rfl rfl rfl (EL.skip rfl rfl rfl rfl (EL.skip rfl rfl rfl rfl (EL.val (x_pick_t rfl rfl) rfl (EL.nil (EX.seq (EC.yes rfl (EC.seq ?_)))))))));refine EC.region (EL.mv rfl rfl (EL.mv rfl rfl (EL.as rfl rfl (EL.as rfl rfl (EL.as rfl rfl (EL.as rfl rfl (EL.nil (EX.seq (EC.ret ?_)))))))));refine EX.seq_ret ?_
  exact EX.done (res4 rfl rfl rfl rfl rfl) ⟨⟨_, [], 0, rfl, World.ownsRow_nil _ _ _ _, fun h => absurd h hc, fun _ => ⟨rfl, rfl⟩⟩, hbw⟩
section
variable {n : Nat} {σ : Sg} {w : World} {dst : Option Tmp} {ty : TypeId} {pos : String} {af : Array Edge} {g : Option (Nat × Bool)} {x y z : Operand} {at' : Array TypeId}
theorem ln_96 {A : Option Addr} {m c : Nat} (hx : evS σ x = some (.slice A m c)) : Gives Try.prog n σ w ⟨dst, .call { callee := .builtin .len, args := #[x], argTypes := #[96] }, ty, pos, af, g⟩ (.int .i64 (m : Int)) := fun a ha => by
 simp only [execOp, resolve, List.map_toArray, List.map_cons, List.map_nil, ha.eval hx]
 simp [go_sem]
theorem ix_96 {b o m c k : Nat} (hx : evS σ x = some (.slice (some ⟨b, o, none⟩) m c)) (hy : evS σ y = some (.int .i64 (k : Int))) (hk : k < m) : Gives Try.prog n σ w ⟨dst, .indexAddr 96 x y, ty, pos, af, g⟩ (.pointer (some ⟨b, o + k, none⟩)) := fun a ha => by
 have k0 : (0 : Int) ≤ (k : Int) := Int.natCast_nonneg _;have k1 : (k : Int) < (m : Int) := by omega
 simp only [execOp, ha.eval hx, ha.eval hy]
 simp [go_sem, k0, k1]
theorem cl_68 {x0 x1 x2 : Operand} {v0 v1 v2 : Value} (h0 : evS σ x0 = some v0) (h1 : evS σ x1 = some v1) (h2 : evS σ x2 = some v2) (a : Act) (ha : Env n σ a) : (execOp a.eval ⟨dst, .call { callee := .value (.func 68), args := #[x0, x1, x2], argTypes := at' }, ty, pos, af, g⟩).run Try.prog w = .ok (.enter 68 #[v0, v1, v2]) w := by
 simp only [execOp, resolve, List.map_toArray, List.map_cons, List.map_nil, ha.eval h0, ha.eval h1, ha.eval h2]
 simp [go_sem, Act.eval]
end
theorem agree_i {σ : Sg} {s : Nat} {b b' : Int} (h : b = b') (hs : σ s = some (.int .i64 b)) : σ s = some (.int .i64 b') := h ▸ hs
/-- the tanks behind the first i histories -/
def fillF (ru : Rules) (tanks : List (List Ev)) (i : Nat) : List (List Tr) := (List.range 3).map fun k => if k < i then tkE ru (tanks.getD k []) else tank0
theorem fillF_ok (ru : Rules) (tanks : List (List Ev)) (i : Nat) : FlOk (fillF ru tanks i) := by
 have hm : ∀ u ∈ fillF ru tanks i, TkOk u := fun u hu => by
  obtain ⟨k, _, rfl⟩ := List.mem_map.1 hu
  split
  ·exact tkE_ok ru _
  ·exact tank0_ok
 exact ⟨⟨by simp [fillF], fun u hu => (hm u hu).n8⟩, hm⟩
theorem fillF_set {ru : Rules} {tanks : List (List Ev)} {i : Nat} (h : i < 3) : (fillF ru tanks i).set i (tkE ru (tanks.getD i [])) = fillF ru tanks (i + 1) := by
 match i, h with
 | 0, _ => rfl
 | 1, _ => rfl
 | 2, _ => rfl
def tanksE (ru : Rules) : List (List Ev) → Int
 | [] => 0
 | l :: ls => if refE ru l = 0 then tanksE ru ls else refE ru l
theorem tanksE_none {ru : Rules} : ∀ {tanks : List (List Ev)}, (∀ k, k < tanks.length → refE ru (tanks.getD k []) = 0) → tanksE ru tanks = 0
 | [], _ => rfl
 | l :: ls, h => by
  have h0 := h 0 (by simp)
  show (if refE ru l = 0 then _ else _) = _
  rw [if_pos (show refE ru l = 0 from h0)]
  exact tanksE_none fun k hk => h (k + 1) (by simpa using hk)
theorem tanksE_at {ru : Rules} : ∀ {tanks : List (List Ev)} {i : Nat}, (∀ k, k < i → refE ru (tanks.getD k []) = 0) → i < tanks.length → refE ru (tanks.getD i []) ≠ 0 → tanksE ru tanks = refE ru (tanks.getD i [])
 | [], _, _, h, _ => by simp at h
 | l :: ls, 0, _, _, hz => if_neg hz
 | l :: ls, i + 1, h, hi, hz => by
  show (if refE ru l = 0 then _ else _) = _
  rw [if_pos (show refE ru l = 0 from h 0 (by omega))]
  exact tanksE_at (i := i) (fun k hk => h (k + 1) (by omega)) (by simpa using hi) hz
def yardE (ru : Rules) (tanks : List (List Ev)) (jobs : List Int) : Int := if rulesB ru = true then (if 3 < tanks.length then 5 else if tanks.length = 0 then 4 else if tanksE ru tanks = 0 then jobsE ru jobs 6 else tanksE ru tanks) else 2
theorem yard_e {ru : Rules} {tanks : List (List Ev)} {jobs : List Int} {a b : Value} {c : Int} (h : yardE ru tanks jobs = c) : Ending.returned (.tuple #[a, b, .int .i64 c]) = .returned (.tuple #[a, b, .int .i64 (yardE ru tanks jobs)]) := by rw [h]
set_option maxHeartbeats 2000000 in
theorem yard_any {ru : Rules} {ua up : List Value} {vl va vp vk : Value} {w : World} {B : Nat} (hr : RdRules w B vl va vp vk ru ua up) (hB : B ≤ w.heap.size) (hs : Short ru) {tanks : List (List Ev)} {vt : Value} {ut : List Value} (ht : RdLL evC 2 w B vt tanks ut) (htn : ∀ i, i < tanks.length → (tanks.getD i []).length ≤ 1048576) (htl : tanks.length ≤ 9223372036854775807) {jobs : List Int} {vj : Value} (hv : Rd w B 1 vj jobs.length (ints jobs)) (hjn : jobs.length ≤ 9223372036854775807) :
  Calls Try.prog 68 #[rulesV vl va vp vk ru, vt, vj] w fun e w' => (∃ sf, e = .returned (.tuple #[rulesV vl va vp vk ru, flV sf, .int .i64 (yardE ru tanks jobs)]) ∧ FlOk sf ∧ (yardE ru tanks jobs = 0 → sf = fillF ru tanks tanks.length)) ∧ Below w.heap.size w w' := by
 obtain ⟨Al, cl, rfl, _⟩ := hr.levels.shape;obtain ⟨Aa, ca, rfl, _⟩ := hr.allow.rd.shape;obtain ⟨Ap, cp, rfl, _⟩ := hr.apart.rd.shape;obtain ⟨Ak, ck, rfl, _⟩ := hr.kinds.shape;obtain ⟨At, ct, rfl, _⟩ := ht.rd.shape;obtain ⟨Aj, cj, rfl, _⟩ := hv.shape;have hbw := Below.refl w.heap.size w
 unfold rulesV
 refine EC.enter 61 Try.func68 rfl rfl rfl (EC.seq (EC.region (EL.newP (bx_28 rfl) rfl ?_)));intro g1 w1 q1 hb1 hg1 hl1;have bhbw_1 := Nat.le_trans hbw.size hg1;replace hbw := bo_ hbw hb1;clear hb1 hg1 hl1;refine EL.newP al_116 rfl ?_;intro g2 w2 q2 hb2 hg2 hl2;have n1_2 := q1.na hg2;have bhbw_2 := Nat.le_trans hbw.size hg2;replace q1 := q1.bl hb2;replace hbw := bo_ hbw hb2;clear hb2 hg2 hl2;refine EL.newP al_fleet rfl ?_;intro g3 w3 q3 hb3 hg3 hl3;have n1_3 := q1.na hg3;have n2_3 := q2.na hg3;have bhbw_3 := Nat.le_trans hbw.size hg3;replace q1 := q1.bl hb3;replace q2 := q2.bl hb3;replace hbw := bo_ hbw hb3;clear hb3 hg3 hl3;refine EL.as rfl rfl (EL.nil (EX.seq (EC.seq (EC.region (EL.val (ld_28 rfl (q1.at (j := 0) rfl) (q1.at (j := 1) rfl) (q1.at (j := 2) rfl) (q1.at (j := 3) rfl) (q1.at (j := 4) rfl) (q1.at (j := 5) rfl)) rfl ?_)))))
 cases hrb : rulesB ru
 ·
  have hop := open_any (hr.below (hbw.mono hB)) (Nat.le_trans hB hbw.size) hs;rw [hrb] at hop;refine EL.call (cl_74 rfl) rfl (hop) ?_
  rintro e w4 ⟨rfl, hc4⟩
  refine ⟨_, rfl, ?_⟩;replace q1 := q1.bl hc4;replace q2 := q2.bl hc4;replace q3 := q3.bl hc4;replace hbw := bo_ hbw hc4;clear hc4;refine EL.mv rfl rfl (EL.val (x_extract rfl rfl) rfl (EL.val (x_extract rfl rfl) rfl (EL.store rfl rfl q2 sz_116 rfl rfl rfl rfl ?_)));intro w5 hq5 hg5;replace q1 := q1.gr hg5 n1_2;replace q3 := q3.gr hg5 n2_3.symm;replace hbw := below_store hbw hg5 bhbw_2;replace q2 := hq5;clear hg5 hq5;refine EL.as rfl rfl (EL.nil (EX.seq (EC.seq (EC.block (EC.seq (EC.region (EL.mv rfl rfl ?_)))))));refine EL.val (x_neq (r := true) rfl rfl (by decide)) rfl ?_
  refine EL.as rfl rfl (EL.nil (EX.seq (EC.yes rfl (EC.seq ?_))));have lt_1 := q1.lt;have lt_2 := q2.lt;have lt_3 := q3.lt;refine EC.regionS [[], [], [], [0], [0, 1, 3], [0, 1, 2, 3, 4]] 5 [] [3, 4] (fun fl w_ => Touch w5 w_ [g2, g3] ∧ Blk w_ g2 116 #[.slice Al ru.levels.length cl, .int .i64 ru.fade.lo, .int .i64 ru.fade.hi, .slice Aa ru.allow.length ca, .slice Ap ru.apart.length cp, .slice Ak ru.kinds.length ck] ∧ Blk w_ g3 150 (flC [tank0, tank0, tank0]).toArray) (phiS (fun i_ r => match i_ with | 0 => r 0 = .agg #[.slice Al ru.levels.length cl, .int .i64 ru.fade.lo, .int .i64 ru.fade.hi, .slice Aa ru.allow.length ca, .slice Ap ru.apart.length cp, .slice Ak ru.kinds.length ck] | 1 => r 1 = .agg (flC [tank0, tank0, tank0]).toArray | 2 => r 2 = .int .i64 2 | _ => True) []) (by kernel_rfl) rfl rfl (by intro i hi; simp at hi; rcases hi with rfl | rfl <;> exact ⟨by simp, by omega⟩) ⟨fun _ _ => ⟨Touch.start _ _, q2, q3⟩, fun _ _ _ ⟨hT, h6, h7⟩ hb => ⟨hT.below hb, h6.below hb h6.lt, h7.below hb h7.lt⟩, fun _ _ h => h.1.size⟩ phiS_nil (fun i_ hi_ hs_ => ?_) (fun i_ hi_ => ?_) ?_
  ·match i_, hi_ with
   | 0, _ =>
    intro val fl w1 a hb ha hd hfl;obtain ⟨hT, h6, h7⟩ := hb;have ha := ha.s0 (d := 6) rfl
    exact ss_val ha rfl rfl (ld_116 rfl (h6.at (j := 0) rfl) (h6.at (j := 1) rfl) (h6.at (j := 2) rfl) (h6.at (j := 3) rfl) (h6.at (j := 4) rfl) (h6.at (j := 5) rfl)) rfl rfl
   | 1, _ =>
    intro val fl w1 a hb ha hd hfl;obtain ⟨hT, h6, h7⟩ := hb;have ha := ha.s0 (d := 7) rfl
    exact ss_val ha rfl rfl (x_loadA rfl (h7.range (PartAt.whole _)) Try.underlying150 rfl (sz_150.trans (congrArg some fl0_len.symm))) rfl rfl
   | 2, _ =>
    intro val fl w1 a hb ha hd hfl;obtain ⟨hT, h6, h7⟩ := hb;have ha := ha.s0 (d := 8) rfl
    exact ss_val ha rfl rfl (x_move rfl) rfl rfl
   | 3, _ =>
    exact absurd (by simp) hs_
   | 4, _ =>
    exact absurd (by simp) hs_
   | k + 5, h => exact absurd h (by omega)
  ·simp only [List.mem_cons, List.not_mem_nil, or_false] at hi_; rcases hi_ with rfl | rfl
   ·
    intro val fl w1 a hb hfi ha hd hfl;obtain ⟨hT, h6, h7⟩ := hb;have e0 : val 0 = .agg #[.slice Al ru.levels.length cl, .int .i64 ru.fade.lo, .int .i64 ru.fade.hi, .slice Aa ru.allow.length ca, .slice Ap ru.apart.length cp, .slice Ak ru.kinds.length ck] := hd 0 (memB_mem.1 rfl);have ha := ha.sub (Sub.ins (d := 19) (Sub.ins (d := 6) (Sub.nil _) rfl) (dep_get rfl e0));refine ts_store ha rfl rfl rfl h6 sz_116 rfl rfl rfl rfl ?_;intro w' hq hgr;refine ⟨undef, rfl, hgr.size, ⟨hT.grown hgr (by simp), hq, h7.grown hgr (fun h => n2_3.symm (Option.some.inj h))⟩, trivial, fun j _ hj hn hA => ?_⟩
    exact fun h => h
   ·
    intro val fl w1 a hb hfi ha hd hfl;obtain ⟨hT, h6, h7⟩ := hb;have e1 : val 1 = .agg (flC [tank0, tank0, tank0]).toArray := hd 1 (memB_mem.1 rfl);have ha := ha.sub (Sub.ins (d := 20) (Sub.ins (d := 7) (Sub.nil _) rfl) (dep_get rfl e1));refine ts_store (l' := (flC [tank0, tank0, tank0])) ha rfl rfl rfl h7 sz_150 rfl ((lenV_eq _).trans fl0_len) (by rw [lenV_eq, Nat.ble_eq]; exact Nat.le_of_eq fl0_len.symm) (flC_one _) ?_
    intro w' hq hgr;rw [spl_whole rfl] at hq;refine ⟨undef, rfl, hgr.size, ⟨hT.grown hgr (by simp), h6.grown hgr (fun h => n2_3 (Option.some.inj h)), hq⟩, trivial, fun j _ hj hn hA => ?_⟩
    exact fun h => h
  ·intro val fl wR3 hfl hb halc hd
   obtain ⟨hT, h6, h7⟩ := hb;have e0 : val 0 = .agg #[.slice Al ru.levels.length cl, .int .i64 ru.fade.lo, .int .i64 ru.fade.hi, .slice Aa ru.allow.length ca, .slice Ap ru.apart.length cp, .slice Ak ru.kinds.length ck] := hd 0 (by omega)
   have e1 : val 1 = .agg (flC [tank0, tank0, tank0]).toArray := hd 1 (by omega)
   have e2 : val 2 = .int .i64 2 := hd 2 (by omega)
   refine EL.ends (cs := [.agg #[.slice Al ru.levels.length cl, .int .i64 ru.fade.lo, .int .i64 ru.fade.hi, .slice Aa ru.allow.length ca, .slice Ap ru.apart.length cp, .slice Ak ru.kinds.length ck], .agg (flC [tank0, tank0, tank0]).toArray, .int .i64 2, val 3, val 4]) ⟨e0, e1, e2, rfl, rfl, trivial⟩ rfl ?_;replace q1 := q1.touch hT (by simp only [List.mem_cons, List.not_mem_nil, or_false, not_or]; exact ⟨n1_2, n1_3⟩)
   replace q2 := h6;replace q3 := h7;replace hbw := hT.anchor hbw (by simp only [List.mem_cons, List.not_mem_nil, or_false, forall_eq_or_imp, forall_eq]; exact ⟨bhbw_2, bhbw_3⟩)
   refine EL.as rfl rfl (EL.nil (EX.seq (EC.ret (EX.blk_ret (EX.seq_ret ?_)))));have hye : yardE ru tanks jobs = 2 := by unfold yardE; rw [hrb]; rfl
   exact EX.done (resc2t rfl rfl rfl rfl (lv_116 (q2.at (j := 0) rfl) (q2.at (j := 1) rfl) (q2.at (j := 2) rfl) (q2.at (j := 3) rfl) (q2.at (j := 4) rfl) (q2.at (j := 5) rfl)) (run_loadVar_mid _ _ 0 150 _ _ (q3.range (PartAt.whole _)) Try.underlying150 rfl (sz_150.trans (congrArg some fl0_len.symm)))) ⟨⟨[tank0, tank0, tank0], yard_e hye, (fillF_ok ru tanks 0), fun h => absurd h (by rw [hye]; decide)⟩, hbw⟩
 ·
  have hop := open_any (hr.below (hbw.mono hB)) (Nat.le_trans hB hbw.size) hs;rw [hrb] at hop;refine EL.call (cl_74 rfl) rfl (hop) ?_
  rintro e w6 ⟨rfl, hc6⟩
  refine ⟨_, rfl, ?_⟩;replace q1 := q1.bl hc6;replace q2 := q2.bl hc6;replace q3 := q3.bl hc6;replace hbw := bo_ hbw hc6;clear hc6;refine EL.mv rfl rfl (EL.val (x_extract rfl rfl) rfl (EL.val (x_extract rfl rfl) rfl (EL.store rfl rfl q2 sz_116 rfl rfl rfl rfl ?_)));intro w7 hq7 hg7;replace q1 := q1.gr hg7 n1_2;replace q3 := q3.gr hg7 n2_3.symm;replace hbw := below_store hbw hg7 bhbw_2;replace q2 := hq7;clear hg7 hq7;refine EL.as rfl rfl (EL.nil (EX.seq (EC.seq (EC.block (EC.seq (EC.region (EL.mv rfl rfl ?_)))))));refine EL.val (x_neq (r := false) rfl rfl (by decide)) rfl ?_
  refine EL.as rfl rfl (EL.nil (EX.seq (EC.no rfl (EC.seq (EC.region (EL.mv rfl rfl (EL.val (ln_96 rfl) rfl ?_)))))))
  by_cases h3 : 3 < tanks.length
  ·
   refine EL.val (x_gtr (r := true) rfl rfl (decide_eq_true (by omega))) rfl ?_
   refine EL.as rfl rfl (EL.nil (EX.seq (EC.yes rfl (EC.seq ?_))));have lt_1 := q1.lt;have lt_2 := q2.lt;have lt_3 := q3.lt;refine EC.regionS [[], [], [0], [0, 1, 2], [0, 1, 2, 3]] 4 [] [2, 3] (fun fl w_ => Touch w7 w_ [g2, g3] ∧ Blk w_ g2 116 #[.slice Al ru.levels.length cl, .int .i64 ru.fade.lo, .int .i64 ru.fade.hi, .slice Aa ru.allow.length ca, .slice Ap ru.apart.length cp, .slice Ak ru.kinds.length ck] ∧ Blk w_ g3 150 (flC [tank0, tank0, tank0]).toArray) (phiS (fun i_ r => match i_ with | 0 => r 0 = .agg #[.slice Al ru.levels.length cl, .int .i64 ru.fade.lo, .int .i64 ru.fade.hi, .slice Aa ru.allow.length ca, .slice Ap ru.apart.length cp, .slice Ak ru.kinds.length ck] | 1 => r 1 = .agg (flC [tank0, tank0, tank0]).toArray | _ => True) []) (by kernel_rfl) rfl rfl (by intro i hi; simp at hi; rcases hi with rfl | rfl <;> exact ⟨by simp, by omega⟩) ⟨fun _ _ => ⟨Touch.start _ _, q2, q3⟩, fun _ _ _ ⟨hT, h6, h7⟩ hb => ⟨hT.below hb, h6.below hb h6.lt, h7.below hb h7.lt⟩, fun _ _ h => h.1.size⟩ phiS_nil (fun i_ hi_ hs_ => ?_) (fun i_ hi_ => ?_) ?_
   ·match i_, hi_ with
    | 0, _ =>
     intro val fl w1 a hb ha hd hfl;obtain ⟨hT, h6, h7⟩ := hb;have ha := ha.s0 (d := 6) rfl
     exact ss_val ha rfl rfl (ld_116 rfl (h6.at (j := 0) rfl) (h6.at (j := 1) rfl) (h6.at (j := 2) rfl) (h6.at (j := 3) rfl) (h6.at (j := 4) rfl) (h6.at (j := 5) rfl)) rfl rfl
    | 1, _ =>
     intro val fl w1 a hb ha hd hfl;obtain ⟨hT, h6, h7⟩ := hb;have ha := ha.s0 (d := 7) rfl
     exact ss_val ha rfl rfl (x_loadA rfl (h7.range (PartAt.whole _)) Try.underlying150 rfl (sz_150.trans (congrArg some fl0_len.symm))) rfl rfl
    | 2, _ =>
     exact absurd (by simp) hs_
    | 3, _ =>
     exact absurd (by simp) hs_
    | k + 4, h => exact absurd h (by omega)
   ·simp only [List.mem_cons, List.not_mem_nil, or_false] at hi_; rcases hi_ with rfl | rfl
    ·
     intro val fl w1 a hb hfi ha hd hfl;obtain ⟨hT, h6, h7⟩ := hb;have e0 : val 0 = .agg #[.slice Al ru.levels.length cl, .int .i64 ru.fade.lo, .int .i64 ru.fade.hi, .slice Aa ru.allow.length ca, .slice Ap ru.apart.length cp, .slice Ak ru.kinds.length ck] := hd 0 (memB_mem.1 rfl);have ha := ha.sub (Sub.ins (d := 26) (Sub.ins (d := 6) (Sub.nil _) rfl) (dep_get rfl e0));refine ts_store ha rfl rfl rfl h6 sz_116 rfl rfl rfl rfl ?_;intro w' hq hgr;refine ⟨undef, rfl, hgr.size, ⟨hT.grown hgr (by simp), hq, h7.grown hgr (fun h => n2_3.symm (Option.some.inj h))⟩, trivial, fun j _ hj hn hA => ?_⟩
     exact fun h => h
    ·
     intro val fl w1 a hb hfi ha hd hfl;obtain ⟨hT, h6, h7⟩ := hb;have e1 : val 1 = .agg (flC [tank0, tank0, tank0]).toArray := hd 1 (memB_mem.1 rfl);have ha := ha.sub (Sub.ins (d := 27) (Sub.ins (d := 7) (Sub.nil _) rfl) (dep_get rfl e1));refine ts_store (l' := (flC [tank0, tank0, tank0])) ha rfl rfl rfl h7 sz_150 rfl ((lenV_eq _).trans fl0_len) (by rw [lenV_eq, Nat.ble_eq]; exact Nat.le_of_eq fl0_len.symm) (flC_one _) ?_
     intro w' hq hgr;rw [spl_whole rfl] at hq;refine ⟨undef, rfl, hgr.size, ⟨hT.grown hgr (by simp), h6.grown hgr (fun h => n2_3 (Option.some.inj h)), hq⟩, trivial, fun j _ hj hn hA => ?_⟩
     exact fun h => h
   ·intro val fl wR5 hfl hb halc hd
    obtain ⟨hT, h6, h7⟩ := hb;have e0 : val 0 = .agg #[.slice Al ru.levels.length cl, .int .i64 ru.fade.lo, .int .i64 ru.fade.hi, .slice Aa ru.allow.length ca, .slice Ap ru.apart.length cp, .slice Ak ru.kinds.length ck] := hd 0 (by omega)
    have e1 : val 1 = .agg (flC [tank0, tank0, tank0]).toArray := hd 1 (by omega)
    refine EL.ends (cs := [.agg #[.slice Al ru.levels.length cl, .int .i64 ru.fade.lo, .int .i64 ru.fade.hi, .slice Aa ru.allow.length ca, .slice Ap ru.apart.length cp, .slice Ak ru.kinds.length ck], .agg (flC [tank0, tank0, tank0]).toArray, val 2, val 3]) ⟨e0, e1, rfl, rfl, trivial⟩ rfl ?_;replace q1 := q1.touch hT (by simp only [List.mem_cons, List.not_mem_nil, or_false, not_or]; exact ⟨n1_2, n1_3⟩)
    replace q2 := h6;replace q3 := h7;replace hbw := hT.anchor hbw (by simp only [List.mem_cons, List.not_mem_nil, or_false, forall_eq_or_imp, forall_eq]; exact ⟨bhbw_2, bhbw_3⟩)
    refine EL.as rfl rfl (EL.nil (EX.seq (EC.ret (EX.blk_ret (EX.seq_ret ?_)))));have hye : yardE ru tanks jobs = 5 := by unfold yardE; rw [hrb, if_pos rfl, if_pos h3]
    exact EX.done (resc2t rfl rfl rfl rfl (lv_116 (q2.at (j := 0) rfl) (q2.at (j := 1) rfl) (q2.at (j := 2) rfl) (q2.at (j := 3) rfl) (q2.at (j := 4) rfl) (q2.at (j := 5) rfl)) (run_loadVar_mid _ _ 0 150 _ _ (q3.range (PartAt.whole _)) Try.underlying150 rfl (sz_150.trans (congrArg some fl0_len.symm)))) ⟨⟨[tank0, tank0, tank0], yard_e hye, (fillF_ok ru tanks 0), fun h => absurd h (by rw [hye]; decide)⟩, hbw⟩
  ·
   refine EL.val (x_gtr (r := false) rfl rfl (decide_eq_false (by omega))) rfl ?_
   refine EL.as rfl rfl (EL.nil (EX.seq (EC.no rfl (EC.seq (EC.region (EL.mv rfl rfl (EL.val (ln_96 rfl) rfl ?_)))))))
   by_cases h0 : tanks.length = 0
   ·
    refine EL.val (x_eql (r := true) rfl rfl (decide_eq_true (by omega))) rfl ?_
    refine EL.as rfl rfl (EL.nil (EX.seq (EC.yes rfl (EC.seq ?_))));have lt_1 := q1.lt;have lt_2 := q2.lt;have lt_3 := q3.lt;refine EC.regionS [[], [], [0], [0, 1, 2], [0, 1, 2, 3]] 4 [] [2, 3] (fun fl w_ => Touch w7 w_ [g2, g3] ∧ Blk w_ g2 116 #[.slice Al ru.levels.length cl, .int .i64 ru.fade.lo, .int .i64 ru.fade.hi, .slice Aa ru.allow.length ca, .slice Ap ru.apart.length cp, .slice Ak ru.kinds.length ck] ∧ Blk w_ g3 150 (flC [tank0, tank0, tank0]).toArray) (phiS (fun i_ r => match i_ with | 0 => r 0 = .agg #[.slice Al ru.levels.length cl, .int .i64 ru.fade.lo, .int .i64 ru.fade.hi, .slice Aa ru.allow.length ca, .slice Ap ru.apart.length cp, .slice Ak ru.kinds.length ck] | 1 => r 1 = .agg (flC [tank0, tank0, tank0]).toArray | _ => True) []) (by kernel_rfl) rfl rfl (by intro i hi; simp at hi; rcases hi with rfl | rfl <;> exact ⟨by simp, by omega⟩) ⟨fun _ _ => ⟨Touch.start _ _, q2, q3⟩, fun _ _ _ ⟨hT, h6, h7⟩ hb => ⟨hT.below hb, h6.below hb h6.lt, h7.below hb h7.lt⟩, fun _ _ h => h.1.size⟩ phiS_nil (fun i_ hi_ hs_ => ?_) (fun i_ hi_ => ?_) ?_
    ·match i_, hi_ with
     | 0, _ =>
      intro val fl w1 a hb ha hd hfl;obtain ⟨hT, h6, h7⟩ := hb;have ha := ha.s0 (d := 6) rfl
      exact ss_val ha rfl rfl (ld_116 rfl (h6.at (j := 0) rfl) (h6.at (j := 1) rfl) (h6.at (j := 2) rfl) (h6.at (j := 3) rfl) (h6.at (j := 4) rfl) (h6.at (j := 5) rfl)) rfl rfl
     | 1, _ =>
      intro val fl w1 a hb ha hd hfl;obtain ⟨hT, h6, h7⟩ := hb;have ha := ha.s0 (d := 7) rfl
      exact ss_val ha rfl rfl (x_loadA rfl (h7.range (PartAt.whole _)) Try.underlying150 rfl (sz_150.trans (congrArg some fl0_len.symm))) rfl rfl
     | 2, _ =>
      exact absurd (by simp) hs_
     | 3, _ =>
      exact absurd (by simp) hs_
     | k + 4, h => exact absurd h (by omega)
    ·simp only [List.mem_cons, List.not_mem_nil, or_false] at hi_; rcases hi_ with rfl | rfl
     ·
      intro val fl w1 a hb hfi ha hd hfl;obtain ⟨hT, h6, h7⟩ := hb;have e0 : val 0 = .agg #[.slice Al ru.levels.length cl, .int .i64 ru.fade.lo, .int .i64 ru.fade.hi, .slice Aa ru.allow.length ca, .slice Ap ru.apart.length cp, .slice Ak ru.kinds.length ck] := hd 0 (memB_mem.1 rfl);have ha := ha.sub (Sub.ins (d := 32) (Sub.ins (d := 6) (Sub.nil _) rfl) (dep_get rfl e0));refine ts_store ha rfl rfl rfl h6 sz_116 rfl rfl rfl rfl ?_;intro w' hq hgr;refine ⟨undef, rfl, hgr.size, ⟨hT.grown hgr (by simp), hq, h7.grown hgr (fun h => n2_3.symm (Option.some.inj h))⟩, trivial, fun j _ hj hn hA => ?_⟩
      exact fun h => h
     ·
      intro val fl w1 a hb hfi ha hd hfl;obtain ⟨hT, h6, h7⟩ := hb;have e1 : val 1 = .agg (flC [tank0, tank0, tank0]).toArray := hd 1 (memB_mem.1 rfl);have ha := ha.sub (Sub.ins (d := 33) (Sub.ins (d := 7) (Sub.nil _) rfl) (dep_get rfl e1));refine ts_store (l' := (flC [tank0, tank0, tank0])) ha rfl rfl rfl h7 sz_150 rfl ((lenV_eq _).trans fl0_len) (by rw [lenV_eq, Nat.ble_eq]; exact Nat.le_of_eq fl0_len.symm) (flC_one _) ?_
      intro w' hq hgr;rw [spl_whole rfl] at hq;refine ⟨undef, rfl, hgr.size, ⟨hT.grown hgr (by simp), h6.grown hgr (fun h => n2_3 (Option.some.inj h)), hq⟩, trivial, fun j _ hj hn hA => ?_⟩
      exact fun h => h
    ·intro val fl wR7 hfl hb halc hd
     obtain ⟨hT, h6, h7⟩ := hb;have e0 : val 0 = .agg #[.slice Al ru.levels.length cl, .int .i64 ru.fade.lo, .int .i64 ru.fade.hi, .slice Aa ru.allow.length ca, .slice Ap ru.apart.length cp, .slice Ak ru.kinds.length ck] := hd 0 (by omega)
     have e1 : val 1 = .agg (flC [tank0, tank0, tank0]).toArray := hd 1 (by omega)
     refine EL.ends (cs := [.agg #[.slice Al ru.levels.length cl, .int .i64 ru.fade.lo, .int .i64 ru.fade.hi, .slice Aa ru.allow.length ca, .slice Ap ru.apart.length cp, .slice Ak ru.kinds.length ck], .agg (flC [tank0, tank0, tank0]).toArray, val 2, val 3]) ⟨e0, e1, rfl, rfl, trivial⟩ rfl ?_;replace q1 := q1.touch hT (by simp only [List.mem_cons, List.not_mem_nil, or_false, not_or]; exact ⟨n1_2, n1_3⟩)
     replace q2 := h6;replace q3 := h7;replace hbw := hT.anchor hbw (by simp only [List.mem_cons, List.not_mem_nil, or_false, forall_eq_or_imp, forall_eq]; exact ⟨bhbw_2, bhbw_3⟩)
     refine EL.as rfl rfl (EL.nil (EX.seq (EC.ret (EX.blk_ret (EX.seq_ret ?_)))));have hye : yardE ru tanks jobs = 4 := by unfold yardE; rw [hrb, if_pos rfl, if_neg h3, if_pos h0]
     exact EX.done (resc2t rfl rfl rfl rfl (lv_116 (q2.at (j := 0) rfl) (q2.at (j := 1) rfl) (q2.at (j := 2) rfl) (q2.at (j := 3) rfl) (q2.at (j := 4) rfl) (q2.at (j := 5) rfl)) (run_loadVar_mid _ _ 0 150 _ _ (q3.range (PartAt.whole _)) Try.underlying150 rfl (sz_150.trans (congrArg some fl0_len.symm)))) ⟨⟨[tank0, tank0, tank0], yard_e hye, (fillF_ok ru tanks 0), fun h => absurd h (by rw [hye]; decide)⟩, hbw⟩
   ·
    refine EL.val (x_eql (r := false) rfl rfl (decide_eq_false (by omega))) rfl ?_
    refine EL.as rfl rfl (EL.nil (EX.seq (EC.no rfl (EC.skip (EX.blk (EX.seq (EC.seq (EC.seq (EC.region ?_)))))))));refine EL.mv rfl rfl (EL.val (ln_96 rfl) rfl (EL.mv rfl rfl (EL.nil (EX.seq (EC.block ?_)))));have hro := rules_ok hrb;refine EC.loopD [8, 9, 10, 36, 37, 38, 39, 40, 41, 42, 43, 44, 45, 46, 47, 48, 49, 50, 51, 52, 53, 54, 55] (fun x : Nat => [(36, .int .i64 (x : Nat)), (8, .int .i64 0)]) (fun x W => x ≤ tanks.length ∧ (∀ k, k < x → refE ru (tanks.getD k []) = 0) ∧ Blk W g1 28 #[.slice Al ru.levels.length cl, .int .i64 ru.fade.lo, .int .i64 ru.fade.hi, .slice Aa ru.allow.length ca, .slice Ap ru.apart.length cp, .slice Ak ru.kinds.length ck] ∧ Blk W g2 116 #[.slice Al ru.levels.length cl, .int .i64 ru.fade.lo, .int .i64 ru.fade.hi, .slice Aa ru.allow.length ca, .slice Ap ru.apart.length cp, .slice Ak ru.kinds.length ck] ∧ Blk W g3 150 (flC (fillF ru tanks x)).toArray ∧ Below w.heap.size w W) (fun x => tanks.length - x) 0 ⟨Nat.zero_le _, fun k hk => absurd hk (by omega), q1, q2, q3, hbw⟩ ⟨rfl, rfl, trivial⟩ ?_
    clear q1 q2 q3 hbw
    rintro i wx ⟨hi, hpre, q1, q2, q3, hbw⟩
    by_cases hlt : i < tanks.length
    ·
     have hi3 : i < 3 := by omega
     obtain ⟨bt, ot, et, _, htc⟩ := vals_cells ut i (by rw [ht.len]; exact hlt) wx B _ _ _ (ht.rd.below (hbw.mono hB))
     cases et
     refine EC.seq (EC.region ?_);refine EL.val (x_lss rfl rfl (decide_eq_true (show (((i : Nat) : Int) < ((tanks.length : Nat) : Int)) by omega))) rfl ?_
     refine EL.nil (EX.seq (EC.seq (EC.yes rfl (EC.skip (EX.seq (EC.seq (EC.block (EC.seq (EC.region ?_)))))))));refine EL.mv rfl rfl (EL.val (ix_96 rfl rfl hlt) rfl (EL.val (ld_29 rfl htc) rfl (EL.as rfl rfl (EL.as rfl rfl (EL.nil (EX.seq (EC.seq (EC.region (EL.mv rfl rfl ?_)))))))));refine EL.val (ld_28 rfl (q1.at (j := 0) rfl) (q1.at (j := 1) rfl) (q1.at (j := 2) rfl) (q1.at (j := 3) rfl) (q1.at (j := 4) rfl) (q1.at (j := 5) rfl)) rfl (EL.mv rfl rfl (EL.call (cl_48 rfl rfl) rfl (after_any (hr.below (hbw.mono hB)) (Nat.le_trans hB hbw.size) hs ((ht.row i hlt).below (hbw.mono hB)) (htn i hlt)) ?_))
     rintro e w8 ⟨rfl, hc8⟩
     refine ⟨_, rfl, ?_⟩;replace q1 := q1.bl hc8;replace q2 := q2.bl hc8;replace q3 := q3.bl hc8;replace hbw := bo_ hbw hc8;clear hc8;refine EL.mv rfl rfl (EL.val (x_extract rfl rfl) rfl (EL.val (x_extract rfl rfl) rfl (EL.val (x_extract rfl rfl) rfl (EL.val (ixa_150 rfl rfl hi3) rfl ?_))));refine EL.store (l' := tkC (tkE ru (tanks.getD i []))) rfl rfl q3 sz_120 rfl ((lenV_eq _).trans (tkC_8 (tkE_ok ru _).n8)) (by rw [lenV_eq, Nat.ble_eq, (fillF_ok ru tanks _).fl.len]; omega) (tkC_one _) ?_
     intro w9 hq9 hg9;rw [Nat.zero_add, tk_set (fillF_ok ru tanks _).fl hi3 (tkE_ok ru _).n8, fillF_set hi3] at hq9;replace q1 := q1.gr hg9 n1_3;replace q2 := q2.gr hg9 n2_3;replace hbw := below_store hbw hg9 bhbw_3;replace q3 := hq9;clear hg9 hq9;refine EL.as rfl rfl (EL.nil (EX.seq (EC.seq (EC.region (EL.mv rfl rfl ?_)))))
     by_cases hz : refE ru (tanks.getD i []) = 0
     ·
      refine EL.val (x_neq (r := false) rfl rfl (decide_eq_false (fun h => h hz))) rfl ?_
      refine EL.nil (EX.seq (EC.no rfl (EC.skip (EX.blk (EX.seq (EC.region ?_))))));refine EL.val (x_add rfl rfl (c := ((i + 1 : Nat) : Int)) ((IntWalk.i64_in _ ⟨by first | omega | (simp only; omega), by first | omega | (simp only; omega)⟩).trans (by first | omega | (simp only; omega)))) rfl ?_
      refine EL.mv rfl rfl (EL.nil ?_);refine EX.roundD (i + 1) ⟨rfl, agree_i hz rfl, trivial⟩ (by repeat first | with_reducible exact Sub.refl _ | refine sub_past rfl ?_ | exact Sub.refl _ | refine sub_del rfl ?_ | refine sub_insL_nil ?_) ⟨hlt, (fun k hk => by rcases Nat.lt_or_ge k i with h | h; exact hpre k h; rw [show k = i by omega]; exact hz), q1, q2, q3, hbw⟩ (by omega)
     ·
      refine EL.val (x_neq (r := true) rfl rfl (decide_eq_true hz)) rfl (EL.nil (EX.seq (EC.yes rfl (EC.seq ?_))));have lt_1 := q1.lt;have lt_2 := q2.lt;have lt_3 := q3.lt;refine EC.regionS [[], [], [], [0], [0, 1, 3], [0, 1, 2, 3, 4]] 5 [] [3, 4] (fun fl w_ => Touch w9 w_ [g2, g3] ∧ Blk w_ g2 116 #[.slice Al ru.levels.length cl, .int .i64 ru.fade.lo, .int .i64 ru.fade.hi, .slice Aa ru.allow.length ca, .slice Ap ru.apart.length cp, .slice Ak ru.kinds.length ck] ∧ Blk w_ g3 150 (flC (fillF ru tanks (i + 1))).toArray) (phiS (fun i_ r => match i_ with | 0 => r 0 = .agg #[.slice Al ru.levels.length cl, .int .i64 ru.fade.lo, .int .i64 ru.fade.hi, .slice Aa ru.allow.length ca, .slice Ap ru.apart.length cp, .slice Ak ru.kinds.length ck] | 1 => r 1 = .agg (flC (fillF ru tanks (i + 1))).toArray | 2 => r 2 = .int .i64 (refE ru (tanks.getD i [])) | _ => True) []) (by kernel_rfl) rfl rfl (by intro i hi; simp at hi; rcases hi with rfl | rfl <;> exact ⟨by simp, by omega⟩) ⟨fun _ _ => ⟨Touch.start _ _, q2, q3⟩, fun _ _ _ ⟨hT, h6, h7⟩ hb => ⟨hT.below hb, h6.below hb h6.lt, h7.below hb h7.lt⟩, fun _ _ h => h.1.size⟩ phiS_nil (fun i_ hi_ hs_ => ?_) (fun i_ hi_ => ?_) ?_
      ·match i_, hi_ with
       | 0, _ =>
        intro val fl w1 a hb ha hd hfl;obtain ⟨hT, h6, h7⟩ := hb;have ha := ha.s0 (d := 6) rfl
        exact ss_val ha rfl rfl (ld_116 rfl (h6.at (j := 0) rfl) (h6.at (j := 1) rfl) (h6.at (j := 2) rfl) (h6.at (j := 3) rfl) (h6.at (j := 4) rfl) (h6.at (j := 5) rfl)) rfl rfl
       | 1, _ =>
        intro val fl w1 a hb ha hd hfl;obtain ⟨hT, h6, h7⟩ := hb;have ha := ha.s0 (d := 7) rfl
        exact ss_val ha rfl rfl (x_loadA rfl (h7.range (PartAt.whole _)) Try.underlying150 rfl (sz_150.trans (congrArg some (fillF_ok ru tanks _).fl.len.symm))) rfl rfl
       | 2, _ =>
        intro val fl w1 a hb ha hd hfl;obtain ⟨hT, h6, h7⟩ := hb;have ha := ha.s0 (d := 8) rfl
        exact ss_val ha rfl rfl (x_move rfl) rfl rfl
       | 3, _ =>
        exact absurd (by simp) hs_
       | 4, _ =>
        exact absurd (by simp) hs_
       | k + 5, h => exact absurd h (by omega)
      ·simp only [List.mem_cons, List.not_mem_nil, or_false] at hi_; rcases hi_ with rfl | rfl
       ·
        intro val fl w1 a hb hfi ha hd hfl;obtain ⟨hT, h6, h7⟩ := hb;have e0 : val 0 = .agg #[.slice Al ru.levels.length cl, .int .i64 ru.fade.lo, .int .i64 ru.fade.hi, .slice Aa ru.allow.length ca, .slice Ap ru.apart.length cp, .slice Ak ru.kinds.length ck] := hd 0 (memB_mem.1 rfl);have ha := ha.sub (Sub.ins (d := 52) (Sub.ins (d := 6) (Sub.nil _) rfl) (dep_get rfl e0));refine ts_store ha rfl rfl rfl h6 sz_116 rfl rfl rfl rfl ?_;intro w' hq hgr;refine ⟨undef, rfl, hgr.size, ⟨hT.grown hgr (by simp), hq, h7.grown hgr (fun h => n2_3.symm (Option.some.inj h))⟩, trivial, fun j _ hj hn hA => ?_⟩
        exact fun h => h
       ·
        intro val fl w1 a hb hfi ha hd hfl;obtain ⟨hT, h6, h7⟩ := hb;have e1 : val 1 = .agg (flC (fillF ru tanks (i + 1))).toArray := hd 1 (memB_mem.1 rfl);have ha := ha.sub (Sub.ins (d := 53) (Sub.ins (d := 7) (Sub.nil _) rfl) (dep_get rfl e1));refine ts_store (l' := (flC (fillF ru tanks (i + 1)))) ha rfl rfl rfl h7 sz_150 rfl ((lenV_eq _).trans (fillF_ok ru tanks _).fl.len) (by rw [lenV_eq, Nat.ble_eq]; exact Nat.le_of_eq (fillF_ok ru tanks _).fl.len.symm) (flC_one _) ?_
        intro w' hq hgr;rw [spl_whole rfl] at hq;refine ⟨undef, rfl, hgr.size, ⟨hT.grown hgr (by simp), h6.grown hgr (fun h => n2_3 (Option.some.inj h)), hq⟩, trivial, fun j _ hj hn hA => ?_⟩
        exact fun h => h
      ·intro val fl wR13 hfl hb halc hd
       obtain ⟨hT, h6, h7⟩ := hb;have e0 : val 0 = .agg #[.slice Al ru.levels.length cl, .int .i64 ru.fade.lo, .int .i64 ru.fade.hi, .slice Aa ru.allow.length ca, .slice Ap ru.apart.length cp, .slice Ak ru.kinds.length ck] := hd 0 (by omega)
       have e1 : val 1 = .agg (flC (fillF ru tanks (i + 1))).toArray := hd 1 (by omega)
       have e2 : val 2 = .int .i64 (refE ru (tanks.getD i [])) := hd 2 (by omega)
       refine EL.ends (cs := [.agg #[.slice Al ru.levels.length cl, .int .i64 ru.fade.lo, .int .i64 ru.fade.hi, .slice Aa ru.allow.length ca, .slice Ap ru.apart.length cp, .slice Ak ru.kinds.length ck], .agg (flC (fillF ru tanks (i + 1))).toArray, .int .i64 (refE ru (tanks.getD i [])), val 3, val 4]) ⟨e0, e1, e2, rfl, rfl, trivial⟩ rfl ?_;replace q1 := q1.touch hT (by simp only [List.mem_cons, List.not_mem_nil, or_false, not_or]; exact ⟨n1_2, n1_3⟩)
       replace q2 := h6;replace q3 := h7;replace hbw := hT.anchor hbw (by simp only [List.mem_cons, List.not_mem_nil, or_false, forall_eq_or_imp, forall_eq]; exact ⟨bhbw_2, bhbw_3⟩)
       refine EL.as rfl rfl (EL.nil (EX.seq (EC.ret (EX.blk_ret (EX.seq_ret (EX.seq_ret (EX.blk_ret (EX.seq_ret ?_))))))));have hye : yardE ru tanks jobs = refE ru (tanks.getD i []) := by unfold yardE; rw [hrb, if_pos rfl, if_neg h3, if_neg h0, tanksE_at hpre hlt hz, if_neg hz]
       exact EX.done (resc2t rfl rfl rfl rfl (lv_116 (q2.at (j := 0) rfl) (q2.at (j := 1) rfl) (q2.at (j := 2) rfl) (q2.at (j := 3) rfl) (q2.at (j := 4) rfl) (q2.at (j := 5) rfl)) (run_loadVar_mid _ _ 0 150 _ _ (q3.range (PartAt.whole _)) Try.underlying150 rfl (sz_150.trans (congrArg some (fillF_ok ru tanks _).fl.len.symm)))) ⟨⟨(fillF ru tanks (i + 1)), yard_e hye, (fillF_ok ru tanks _), fun h => absurd h (by rw [hye]; exact hz)⟩, hbw⟩
    ·
     obtain rfl : i = tanks.length := by omega
     refine EC.seq (EC.region ?_);refine EL.val (x_lss rfl rfl (decide_eq_false (show ¬(((tanks.length : Nat) : Int) < ((tanks.length : Nat) : Int)) by omega))) rfl ?_
     refine EL.nil (EX.seq (EC.seq (EC.no rfl (EC.exit (EX.seq_exit (EX.seq_exit (EX.blk_here (EX.seq (EC.seq ?_)))))))));have lt_1 := q1.lt;have lt_2 := q2.lt;have lt_3 := q3.lt;refine EC.regionS [[], [], [], [], [2, 3], [0, 2, 3, 4], [0, 1, 2, 3, 4, 5], [0, 1, 2, 3, 4, 5, 6]] 7 [] [5, 6] (fun fl w_ => Touch wx w_ [g2, g3] ∧ Blk w_ g2 116 #[.slice Al ru.levels.length cl, .int .i64 ru.fade.lo, .int .i64 ru.fade.hi, .slice Aa ru.allow.length ca, .slice Ap ru.apart.length cp, .slice Ak ru.kinds.length ck] ∧ Blk w_ g3 150 (flC (fillF ru tanks tanks.length)).toArray) (phiS (fun i_ r => match i_ with | 0 => r 0 = .agg #[.slice Al ru.levels.length cl, .int .i64 ru.fade.lo, .int .i64 ru.fade.hi, .slice Aa ru.allow.length ca, .slice Ap ru.apart.length cp, .slice Ak ru.kinds.length ck] | 1 => r 1 = .agg (flC (fillF ru tanks tanks.length)).toArray | 2 => r 2 = .agg #[.slice Al ru.levels.length cl, .int .i64 ru.fade.lo, .int .i64 ru.fade.hi, .slice Aa ru.allow.length ca, .slice Ap ru.apart.length cp, .slice Ak ru.kinds.length ck] | 3 => r 3 = .slice Aj jobs.length cj | 4 => r 4 = .int .i64 (jobsE ru jobs 6) | _ => True) []) (by kernel_rfl) rfl rfl (by intro i hi; simp at hi; rcases hi with rfl | rfl <;> exact ⟨by simp, by omega⟩) ⟨fun _ _ => ⟨Touch.start _ _, q2, q3⟩, fun _ _ _ ⟨hT, h6, h7⟩ hb => ⟨hT.below hb, h6.below hb h6.lt, h7.below hb h7.lt⟩, fun _ _ h => h.1.size⟩ phiS_nil (fun i_ hi_ hs_ => ?_) (fun i_ hi_ => ?_) ?_
     ·match i_, hi_ with
      | 0, _ =>
       intro val fl w1 a hb ha hd hfl;obtain ⟨hT, h6, h7⟩ := hb;have ha := ha.s0 (d := 6) rfl
       exact ss_val ha rfl rfl (ld_116 rfl (h6.at (j := 0) rfl) (h6.at (j := 1) rfl) (h6.at (j := 2) rfl) (h6.at (j := 3) rfl) (h6.at (j := 4) rfl) (h6.at (j := 5) rfl)) rfl rfl
      | 1, _ =>
       intro val fl w1 a hb ha hd hfl;obtain ⟨hT, h6, h7⟩ := hb;have ha := ha.s0 (d := 7) rfl
       exact ss_val ha rfl rfl (x_loadA rfl (h7.range (PartAt.whole _)) Try.underlying150 rfl (sz_150.trans (congrArg some (fillF_ok ru tanks _).fl.len.symm))) rfl rfl
      | 2, _ =>
       intro val fl w1 a hb ha hd hfl;obtain ⟨hT, h6, h7⟩ := hb;have ha := ha.s0 (d := 6) rfl
       exact ss_val ha rfl rfl (ld_116 rfl (h6.at (j := 0) rfl) (h6.at (j := 1) rfl) (h6.at (j := 2) rfl) (h6.at (j := 3) rfl) (h6.at (j := 4) rfl) (h6.at (j := 5) rfl)) rfl rfl
      | 3, _ =>
       intro val fl w1 a hb ha hd hfl;obtain ⟨hT, h6, h7⟩ := hb;have ha := ha.s0 (d := 2) rfl
       exact ss_val ha rfl rfl (x_move rfl) rfl rfl
      | 4, _ =>
       intro val fl w1 a hb ha hd hfl;obtain ⟨hT, h6, h7⟩ := hb;have e2 : val 2 = .agg #[.slice Al ru.levels.length cl, .int .i64 ru.fade.lo, .int .i64 ru.fade.hi, .slice Aa ru.allow.length ca, .slice Ap ru.apart.length cp, .slice Ak ru.kinds.length ck] := hd 2 (memB_mem.1 rfl);have e3 : val 3 = .slice Aj jobs.length cj := hd 3 (memB_mem.1 rfl);have ha := ha.s2 (d := 59) (e := 58) rfl e3 rfl e2;have hbw1 := hT.anchor hbw (by simp only [List.mem_cons, List.not_mem_nil, or_false, forall_eq_or_imp, forall_eq]; exact ⟨bhbw_2, bhbw_3⟩)
       refine ss_call ha rfl rfl (cl_80 rfl rfl rfl) (checkJobs_any (hr.below (hbw1.mono hB)) hro (hv.below (hbw1.mono hB)) (Nat.le_trans hB hbw1.size) (most := 6) (by decide)) rfl ?_
       rintro e w' ⟨rfl, hb'⟩
       exact ⟨_, rfl, hb', rfl⟩
      | 5, _ =>
       exact absurd (by simp) hs_
      | 6, _ =>
       exact absurd (by simp) hs_
      | k + 7, h => exact absurd h (by omega)
     ·simp only [List.mem_cons, List.not_mem_nil, or_false] at hi_; rcases hi_ with rfl | rfl
      ·
       intro val fl w1 a hb hfi ha hd hfl;obtain ⟨hT, h6, h7⟩ := hb;have e0 : val 0 = .agg #[.slice Al ru.levels.length cl, .int .i64 ru.fade.lo, .int .i64 ru.fade.hi, .slice Aa ru.allow.length ca, .slice Ap ru.apart.length cp, .slice Ak ru.kinds.length ck] := hd 0 (memB_mem.1 rfl);have ha := ha.sub (Sub.ins (d := 56) (Sub.ins (d := 6) (Sub.nil _) rfl) (dep_get rfl e0));refine ts_store ha rfl rfl rfl h6 sz_116 rfl rfl rfl rfl ?_;intro w' hq hgr;refine ⟨undef, rfl, hgr.size, ⟨hT.grown hgr (by simp), hq, h7.grown hgr (fun h => n2_3.symm (Option.some.inj h))⟩, trivial, fun j _ hj hn hA => ?_⟩
       exact fun h => h
      ·
       intro val fl w1 a hb hfi ha hd hfl;obtain ⟨hT, h6, h7⟩ := hb;have e1 : val 1 = .agg (flC (fillF ru tanks tanks.length)).toArray := hd 1 (memB_mem.1 rfl);have ha := ha.sub (Sub.ins (d := 57) (Sub.ins (d := 7) (Sub.nil _) rfl) (dep_get rfl e1));refine ts_store (l' := (flC (fillF ru tanks tanks.length))) ha rfl rfl rfl h7 sz_150 rfl ((lenV_eq _).trans (fillF_ok ru tanks _).fl.len) (by rw [lenV_eq, Nat.ble_eq]; exact Nat.le_of_eq (fillF_ok ru tanks _).fl.len.symm) (flC_one _) ?_
       intro w' hq hgr;rw [spl_whole rfl] at hq;refine ⟨undef, rfl, hgr.size, ⟨hT.grown hgr (by simp), h6.grown hgr (fun h => n2_3 (Option.some.inj h)), hq⟩, trivial, fun j _ hj hn hA => ?_⟩
       exact fun h => h
     ·intro val fl wR15 hfl hb halc hd
      obtain ⟨hT, h6, h7⟩ := hb;have e0 : val 0 = .agg #[.slice Al ru.levels.length cl, .int .i64 ru.fade.lo, .int .i64 ru.fade.hi, .slice Aa ru.allow.length ca, .slice Ap ru.apart.length cp, .slice Ak ru.kinds.length ck] := hd 0 (by omega)
      have e1 : val 1 = .agg (flC (fillF ru tanks tanks.length)).toArray := hd 1 (by omega)
      have e2 : val 2 = .agg #[.slice Al ru.levels.length cl, .int .i64 ru.fade.lo, .int .i64 ru.fade.hi, .slice Aa ru.allow.length ca, .slice Ap ru.apart.length cp, .slice Ak ru.kinds.length ck] := hd 2 (by omega)
      have e3 : val 3 = .slice Aj jobs.length cj := hd 3 (by omega)
      have e4 : val 4 = .int .i64 (jobsE ru jobs 6) := hd 4 (by omega)
      refine EL.ends (cs := [.agg #[.slice Al ru.levels.length cl, .int .i64 ru.fade.lo, .int .i64 ru.fade.hi, .slice Aa ru.allow.length ca, .slice Ap ru.apart.length cp, .slice Ak ru.kinds.length ck], .agg (flC (fillF ru tanks tanks.length)).toArray, .agg #[.slice Al ru.levels.length cl, .int .i64 ru.fade.lo, .int .i64 ru.fade.hi, .slice Aa ru.allow.length ca, .slice Ap ru.apart.length cp, .slice Ak ru.kinds.length ck], .slice Aj jobs.length cj, .int .i64 (jobsE ru jobs 6), val 5, val 6]) ⟨e0, e1, e2, e3, e4, rfl, rfl, trivial⟩ rfl ?_;replace q1 := q1.touch hT (by simp only [List.mem_cons, List.not_mem_nil, or_false, not_or]; exact ⟨n1_2, n1_3⟩)
      replace q2 := h6;replace q3 := h7;replace hbw := hT.anchor hbw (by simp only [List.mem_cons, List.not_mem_nil, or_false, forall_eq_or_imp, forall_eq]; exact ⟨bhbw_2, bhbw_3⟩)
      refine EL.as rfl rfl (EL.nil (EX.seq (EC.ret ?_)));have hye : yardE ru tanks jobs = jobsE ru jobs 6 := by unfold yardE; rw [hrb, if_pos rfl, if_neg h3, if_neg h0, tanksE_none hpre, if_pos rfl]
      exact EX.done (resc2t rfl rfl rfl rfl (lv_116 (q2.at (j := 0) rfl) (q2.at (j := 1) rfl) (q2.at (j := 2) rfl) (q2.at (j := 3) rfl) (q2.at (j := 4) rfl) (q2.at (j := 5) rfl)) (run_loadVar_mid _ _ 0 150 _ _ (q3.range (PartAt.whole _)) Try.underlying150 rfl (sz_150.trans (congrArg some (fillF_ok ru tanks _).fl.len.symm)))) ⟨⟨(fillF ru tanks tanks.length), yard_e hye, (fillF_ok ru tanks _), fun _ => rfl⟩, hbw⟩
theorem yard_ok {ru : Rules} {tanks : List (List Ev)} {jobs : List Int} (h : yardE ru tanks jobs = 0) : RulesOk ru ∧ tanks.length ≤ 3 ∧ jobsE ru jobs 6 = 0 := by
 unfold yardE at h
 split at h
 ·rename_i hrb
  split at h
  ·omega
  ·rename_i h3
   split at h
   ·omega
   ·split at h
    ·exact ⟨rules_ok hrb, by omega, h⟩
    ·rename_i hz; exact absurd h hz
 ·omega
def depF (ru : Rules) (tanks : List (List Ev)) (jobs : List Int) : Nat := depthR (extY (yardOf ru tanks.length)) (jobs.map Int.toNat) (fillF ru tanks tanks.length, pl0)
def codeF (ru : Rules) (tanks : List (List Ev)) (jobs : List Int) : Int := if yardE ru tanks jobs = 0 then (if depF ru tanks jobs < jobs.length then 7 else 0) else yardE ru tanks jobs
def atF (ru : Rules) (tanks : List (List Ev)) (jobs : List Int) : Nat := if yardE ru tanks jobs = 0 then (if depF ru tanks jobs < jobs.length then depF ru tanks jobs else 0) else 0
theorem fleet_e {ru : Rules} {tanks : List (List Ev)} {jobs : List Int} {v : Value} {x c : Int} {a : Nat} (ha : atF ru tanks jobs = a) (hc : codeF ru tanks jobs = c) : Ending.returned (.tuple #[v, .int .i64 x, .int .i64 (a : Nat), .int .i64 c]) = .returned (.tuple #[v, .int .i64 x, .int .i64 ((atF ru tanks jobs) : Nat), .int .i64 (codeF ru tanks jobs)]) := by rw [hc, ha]
set_option maxHeartbeats 1000000 in
theorem Fleet_any {ru : Rules} {ua up : List Value} {vl va vp vk : Value} {w : World} {B : Nat} (hr : RdRules w B vl va vp vk ru ua up) (hB : B ≤ w.heap.size) (hs : Short ru) {tanks : List (List Ev)} {vt : Value} {ut : List Value} (ht : RdLL evC 2 w B vt tanks ut) (htn : ∀ i, i < tanks.length → (tanks.getD i []).length ≤ 1048576) (htl : tanks.length ≤ 9223372036854775807) {jobs : List Int} {vj : Value} (hv : Rd w B 1 vj jobs.length (ints jobs)) (hjn : jobs.length ≤ 9223372036854775807) :
  Calls Try.prog 38 #[rulesV vl va vp vk ru, vt, vj] w fun e w' => (∃ v' st c, e = .returned (.tuple #[v', .int .i64 c, .int .i64 ((atF ru tanks jobs) : Nat), .int .i64 (codeF ru tanks jobs)]) ∧ w'.ownsRow w.heap.size 70 2 v' st.length (stsC st) ∧
   (codeF ru tanks jobs = 0 → ∃ p, IsBest (compl (extY (yardOf ru tanks.length)) (jobs.map Int.toNat) (fillF ru tanks tanks.length, pl0)) p ∧ st = p.steps ∧ c = p.cost) ∧ (codeF ru tanks jobs ≠ 0 → st = [] ∧ c = 0)) ∧ Below w.heap.size w w' := by
 obtain ⟨Al, cl, rfl, _⟩ := hr.levels.shape;obtain ⟨Aa, ca, rfl, _⟩ := hr.allow.rd.shape;obtain ⟨Ap, cp, rfl, _⟩ := hr.apart.rd.shape;obtain ⟨Ak, ck, rfl, _⟩ := hr.kinds.shape;obtain ⟨At, ct, rfl, _⟩ := ht.rd.shape;obtain ⟨Aj, cj, rfl, _⟩ := hv.shape;have hbw := Below.refl w.heap.size w
 unfold rulesV
 refine EC.enter 53 Try.func38 rfl rfl rfl (EC.seq (EC.region (EL.newP (bx_28 rfl) rfl ?_)));intro g1 w1 q1 hb1 hg1 hl1;have bhbw_1 := Nat.le_trans hbw.size hg1;replace hbw := bo_ hbw hb1;clear hb1 hg1 hl1;refine EL.as rfl rfl (EL.as rfl rfl (EL.as rfl rfl (EL.as rfl rfl (EL.nil (EX.seq (EC.seq (EC.region (EL.val (ld_28 rfl (q1.at (j := 0) rfl) (q1.at (j := 1) rfl) (q1.at (j := 2) rfl) (q1.at (j := 3) rfl) (q1.at (j := 4) rfl) (q1.at (j := 5) rfl)) rfl (EL.mv rfl rfl ?_)))))))));refine EL.mv rfl rfl (EL.call (cl_68 rfl rfl rfl) rfl (yard_any (hr.below (hbw.mono hB)) (Nat.le_trans hB hbw.size) hs (ht.below (hbw.mono hB)) htn htl (hv.below (hbw.mono hB)) hjn) ?_)
 rintro e w2 ⟨⟨sf, rfl, hsf, hyf⟩, hc2⟩
 refine ⟨_, rfl, ?_⟩;replace q1 := q1.bl hc2;replace hbw := bo_ hbw hc2;clear hc2;refine EL.mv rfl rfl (EL.val (x_extract rfl rfl) rfl (EL.val (x_extract rfl rfl) rfl (EL.val (x_extract rfl rfl) rfl (EL.newP al_116 rfl ?_))));intro g3 w3 q3 hb3 hg3 hl3;have n1_3 := q1.na hg3;have bhbw_3 := Nat.le_trans hbw.size hg3;replace q1 := q1.bl hb3;replace hbw := bo_ hbw hb3;clear hb3 hg3 hl3;refine EL.newP al_fleet rfl ?_;intro g4 w4 q4 hb4 hg4 hl4;have n1_4 := q1.na hg4;have n3_4 := q3.na hg4;have bhbw_4 := Nat.le_trans hbw.size hg4;replace q1 := q1.bl hb4;replace q3 := q3.bl hb4;replace hbw := bo_ hbw hb4;clear hb4 hg4 hl4;refine EL.store rfl rfl q3 sz_116 rfl rfl rfl rfl ?_;intro w5 hq5 hg5;replace q1 := q1.gr hg5 n1_3;replace q4 := q4.gr hg5 n3_4.symm;replace hbw := below_store hbw hg5 bhbw_3;replace q3 := hq5;clear hg5 hq5;refine EL.store (l' := (flC sf)) rfl rfl q4 sz_150 rfl ((lenV_eq _).trans hsf.fl.len) (by rw [lenV_eq, Nat.ble_eq]; exact Nat.le_of_eq (fl0_len.symm)) (flC_one _) ?_
 intro w6 hq6 hg6;rw [spl_whole (hsf.fl.len.trans fl0_len.symm)] at hq6;replace q1 := q1.gr hg6 n1_4;replace q3 := q3.gr hg6 n3_4;replace hbw := below_store hbw hg6 bhbw_4;replace q4 := hq6;clear hg6 hq6;refine EL.as rfl rfl (EL.nil (EX.seq (EC.seq (EC.seq (EC.region (EL.mv rfl rfl ?_))))))
 by_cases hc : yardE ru tanks jobs = 0
 ·
  refine EL.val (x_neq (r := false) rfl rfl (decide_eq_false (fun h => h hc))) rfl ?_
  refine EL.mv rfl rfl (EL.valg rfl rfl (x_move rfl) rfl (EL.valg rfl rfl (ln_22 rfl) rfl ?_))
  by_cases he : jobs.length = 0
  ·
   refine EL.valg rfl rfl (x_eql (r := true) rfl rfl (decide_eq_true (by omega))) rfl ?_
   refine EL.val (x_pick_f rfl rfl) rfl (EL.nil (EX.seq (EC.yes rfl (EC.seq (EC.region (EL.mv rfl rfl (EL.as rfl rfl (EL.as rfl rfl (EL.as rfl rfl ?_)))))))));refine EL.as rfl rfl (EL.nil (EX.seq (EC.ret (EX.seq_ret ?_))))
   exact EX.done (res4 rfl rfl rfl rfl rfl) ⟨⟨_, [], 0, fleet_e (a := 0) (c := yardE ru tanks jobs) (by unfold atF; rw [if_pos hc, if_neg (by omega)]) (by unfold codeF; rw [if_pos hc, if_neg (by omega), hc]), World.ownsRow_nil _ _ _ _, fun _ => ⟨pl0, by rw [List.eq_nil_of_length_eq_zero he]; exact best_nil, rfl, rfl⟩, fun h => absurd (by unfold codeF; rw [if_pos hc, if_neg (by omega)]) h⟩, hbw⟩
  ·
   refine EL.valg rfl rfl (x_eql (r := false) rfl rfl (decide_eq_false (by omega))) rfl ?_
   refine EL.val (x_pick_f rfl rfl) rfl (EL.nil (EX.seq (EC.no rfl (EC.skip (EX.seq (EC.seq (EC.region (EL.val (ld_116 rfl (q3.at (j := 0) rfl) (q3.at (j := 1) rfl) (q3.at (j := 2) rfl) (q3.at (j := 3) rfl) (q3.at (j := 4) rfl) (q3.at (j := 5) rfl)) rfl (EL.val (x_loadA rfl (q4.range (PartAt.whole _)) Try.underlying150 rfl (sz_150.trans (congrArg some hsf.fl.len.symm))) rfl ?_)))))))));refine EL.mv rfl rfl (EL.val (ln_96 rfl) rfl (EL.mv rfl rfl ?_));obtain ⟨hro, ht3, hjz⟩ := yard_ok hc;obtain ⟨hj1, hj2, hj3⟩ := jobs_ok hjz;obtain rfl := hyf hc;refine EL.call (cl_69 rfl rfl rfl rfl) rfl (plans_any (hr.below (hbw.mono hB)) (Nat.le_trans hB hbw.size) hro (fillF_ok ru tanks _) (many := tanks.length) ht3 (js := jobs.map Int.toNat) hj2 (by omega) (C := B) (by rw [List.length_map, hj1]; exact hv.below (hbw.mono hB)) (Nat.le_trans hB hbw.size)) ?_
   rintro e w7 ⟨⟨vp2, lp, rfl, hP, hbs⟩, hc7⟩
   refine ⟨_, rfl, ?_⟩;replace hP := hP.less hbw.size;replace q1 := q1.bl hc7;replace q3 := q3.bl hc7;replace q4 := q4.bl hc7;replace hbw := bo_ hbw hc7;clear hc7;obtain ⟨Aq, cq, rfl, _⟩ := hP.rd.shape;obtain ⟨hb1, hb2⟩ := hbs;rw [List.length_map] at hb1 hb2;have hl10 : lp.length ≤ jobs.length := by have := depth_le (ext := extY (yardOf ru tanks.length)) (jobs.map Int.toNat) (fillF ru tanks tanks.length, pl0); rw [List.length_map] at this; omega
   rw [List.length_map] at hj3;refine EL.as rfl rfl (EL.nil (EX.seq (EC.seq (EC.seq (EC.region (EL.mv rfl rfl (EL.val (ln_130 rfl) rfl (EL.mv rfl rfl (EL.val (ln_22 rfl) rfl ?_)))))))))
   by_cases hlt : lp.length < jobs.length
   ·
    refine EL.val (x_lss (r := true) rfl rfl (decide_eq_true (by omega))) rfl ?_
    refine EL.nil (EX.seq (EC.yes rfl (EC.seq (EC.region (EL.mv rfl rfl (EL.val (ln_130 rfl) rfl (EL.as rfl rfl (EL.as rfl rfl (EL.as rfl rfl ?_)))))))));refine EL.as rfl rfl (EL.nil (EX.seq (EC.ret (EX.seq_ret ?_))));have hcd : codeF ru tanks jobs = 7 := by unfold codeF depF; rw [if_pos hc, ← hb1, if_pos hlt]
    have hat : atF ru tanks jobs = lp.length := by unfold atF depF; rw [if_pos hc, ← hb1, if_pos hlt]
    exact EX.done (res4 rfl rfl rfl rfl rfl) ⟨⟨_, [], 0, fleet_e hat hcd, World.ownsRow_nil _ _ _ _, fun h => absurd h (by rw [hcd]; decide), fun _ => ⟨rfl, rfl⟩⟩, hbw⟩
   ·
    refine EL.val (x_lss (r := false) rfl rfl (decide_eq_false (by omega))) rfl ?_
    refine EL.nil (EX.seq (EC.no rfl (EC.skip (EX.seq (EC.seq (EC.region ?_))))));obtain ⟨nn, hnn⟩ : ∃ nn, lp.length = nn + 1 := ⟨lp.length - 1, by omega⟩
    have hlast := hb2 nn (by omega)
    rw [map_getD (d := pr0) (show nn < lp.length by omega), List.take_of_length_le (by rw [List.length_map]; omega)] at hlast
    have hmem : lp.getD nn pr0 ∈ lp := by rw [getD_in (show nn < lp.length by omega)]; exact List.getElem_mem _
    obtain ⟨⟨pb, Ab, cb⟩, epb⟩ : ∃ z, z = lp.getD nn pr0 := ⟨_, rfl⟩;rw [← epb] at hlast hmem
    dsimp only at hlast
    refine EL.mv rfl rfl (EL.mv rfl rfl (EL.val (ln_130 rfl) rfl ?_));refine EL.val (x_sub rfl rfl (c := ((nn : Nat) : Int)) ((IntWalk.i64_in _ ⟨by omega, by omega⟩).trans (by omega))) rfl ?_
    obtain ⟨bp, op, ep, _, c0, c1, c2⟩ := pls_cells lp nn (by omega) w7 w7.heap.size _ _ _ hP.rd
    rw [← epb] at c0 c1 c2
    dsimp only at c0 c1 c2
    cases ep
    have hst := hP.rows _ hmem
    dsimp only at hst
    refine EL.val (ix_130 rfl rfl (show nn < lp.length by omega)) rfl ?_
    refine EL.val (ld_134 rfl c0 c1 c2) rfl (EL.newP al_134 rfl ?_);intro g8 w8 q8 hb8 hg8 hl8;have n1_8 := q1.na hg8;have n3_8 := q3.na hg8;have n4_8 := q4.na hg8;have bhbw_8 := Nat.le_trans hbw.size hg8;replace q1 := q1.bl hb8;replace q3 := q3.bl hb8;replace q4 := q4.bl hb8;replace hst := own_below hst hb8 (Nat.le_refl _);replace hbw := bo_ hbw hb8;clear hb8 hg8 hl8;refine EL.store rfl rfl q8 sz_134 rfl rfl rfl rfl ?_;intro w9 hq9 hg9;replace q1 := q1.gr hg9 n1_8;replace q3 := q3.gr hg9 n3_8;replace q4 := q4.gr hg9 n4_8;replace hst := own_type hst q8 rfl hg9;replace hbw := below_store hbw hg9 bhbw_8;replace q8 := hq9;clear hg9 hq9;refine EL.nil (EX.seq (EC.seq ?_));have lt_1 := q1.lt;have lt_3 := q3.lt;have lt_4 := q4.lt;have lt_8 := q8.lt;refine EC.regionP [[], [0], [], [2], [0, 1], [0, 1, 2, 3, 4], [0, 1, 2, 3, 4, 5], [0, 1, 2, 3, 4, 5, 6]] 5 [] (phi (fun i_ r => match i_ with | 0 => r 0 = .pointer (some ⟨g8, 0, none⟩) | 1 => r 1 = .slice Ab pb.steps.length cb | 2 => r 2 = .pointer (some ⟨g8, 2, none⟩) | 3 => r 3 = .int .i64 pb.cost | 4 => r 4 = .slice Ab pb.steps.length cb | _ => True) []) (by kernel_rfl) rfl rfl (phi_nil) (fun i_ hi_ => ?_) ?_
    ·match i_, hi_ with
     | 0, _ =>
      intro val w1 a hb ha hd;have ha := ha.s0 (d := 13) rfl
      exact hs_val ha rfl rfl (fa_134_0 rfl) rfl rfl
     | 1, _ =>
      intro val w1 a hb ha hd;have e0 : val 0 = .pointer (some ⟨g8, 0, none⟩) := hd 0 (memB_mem.1 rfl);have ha := ha.s1 (d := 49) rfl e0
      exact hs_val ha rfl rfl (ld_65 rfl ((q8.below hb q8.lt).at (j := 0) rfl)) rfl rfl
     | 2, _ =>
      intro val w1 a hb ha hd;have ha := ha.s0 (d := 13) rfl
      exact hs_val ha rfl rfl (fa_134_2 rfl) rfl rfl
     | 3, _ =>
      intro val w1 a hb ha hd;have e2 : val 2 = .pointer (some ⟨g8, 2, none⟩) := hd 2 (memB_mem.1 rfl);have ha := ha.s1 (d := 51) rfl e2
      exact hs_val ha rfl rfl (ld_3 rfl ((q8.below hb q8.lt).at (j := 2) rfl)) rfl rfl
     | 4, _ =>
      intro val w1 a hb ha hd;have e1 : val 1 = .slice Ab pb.steps.length cb := hd 1 (memB_mem.1 rfl);have ha := ha.s1 (d := 50) rfl e1
      exact hs_val ha rfl rfl (x_assign rfl) rfl rfl
     | k + 5, h => exact absurd h (by omega)
    ·intro val wR8 hb halc hd
     have e0 : val 0 = .pointer (some ⟨g8, 0, none⟩) := hd 0 (by omega)
     have e1 : val 1 = .slice Ab pb.steps.length cb := hd 1 (by omega)
     have e2 : val 2 = .pointer (some ⟨g8, 2, none⟩) := hd 2 (by omega)
     have e3 : val 3 = .int .i64 pb.cost := hd 3 (by omega)
     have e4 : val 4 = .slice Ab pb.steps.length cb := hd 4 (by omega)
     refine EL.ends (cs := [.pointer (some ⟨g8, 0, none⟩), .slice Ab pb.steps.length cb, .pointer (some ⟨g8, 2, none⟩), .int .i64 pb.cost, .slice Ab pb.steps.length cb]) ⟨e0, e1, e2, e3, e4, trivial⟩ rfl ?_;replace q1 := q1.bl hb;replace q3 := q3.bl hb;replace q4 := q4.bl hb;replace q8 := q8.bl hb;replace hst := own_below hst hb (Nat.le_refl _);replace hbw := bo_ hbw hb;clear hb;refine EL.as rfl rfl (EL.as rfl rfl (EL.as rfl rfl (EL.nil (EX.seq (EC.ret ?_)))));have hcd : codeF ru tanks jobs = 0 := by unfold codeF depF; rw [if_pos hc, ← hb1, if_neg hlt]
     have hat : atF ru tanks jobs = 0 := by unfold atF depF; rw [if_pos hc, ← hb1, if_neg hlt]
     exact EX.done (res4 rfl rfl rfl rfl rfl) ⟨⟨_, pb.steps, pb.cost, fleet_e hat hcd, hst, fun _ => ⟨pb, hlast, rfl, rfl⟩, fun h => absurd hcd h⟩, hbw⟩
 ·
  refine EL.val (x_neq (r := true) rfl rfl (decide_eq_true hc)) rfl (EL.mv rfl rfl (EL.skip rfl rfl rfl rfl (EL.skip rfl rfl rfl rfl (EL.skip rfl rfl rfl rfl (EL.val (x_pick_t rfl rfl) rfl (EL.nil (EX.seq (EC.yes rfl (EC.seq ?_)))))))));refine EC.region (EL.mv rfl rfl (EL.as rfl rfl (EL.as rfl rfl (EL.as rfl rfl (EL.as rfl rfl (EL.nil (EX.seq (EC.ret (EX.seq_ret ?_)))))))))
  exact EX.done (res4 rfl rfl rfl rfl rfl) ⟨⟨_, [], 0, fleet_e (by unfold atF; rw [if_neg hc]) (by unfold codeF; rw [if_neg hc]), World.ownsRow_nil _ _ _ _, fun h => absurd h (by unfold codeF; rw [if_neg hc]; exact hc), fun _ => ⟨rfl, rfl⟩⟩, hbw⟩
section
variable {n : Nat} {σ : Sg} {w : World} {dst : Option Tmp} {ty : TypeId} {pos : String} {af : Array Edge} {g : Option (Nat × Bool)} {x y z : Operand} {at' : Array TypeId}
theorem cl_56 {x0 x1 x2 : Operand} {v0 v1 v2 : Value} (h0 : evS σ x0 = some v0) (h1 : evS σ x1 = some v1) (h2 : evS σ x2 = some v2) (a : Act) (ha : Env n σ a) : (execOp a.eval ⟨dst, .call { callee := .value (.func 56), args := #[x0, x1, x2], argTypes := at' }, ty, pos, af, g⟩).run Try.prog w = .ok (.enter 56 #[v0, v1, v2]) w := by
 simp only [execOp, resolve, List.map_toArray, List.map_cons, List.map_nil, ha.eval h0, ha.eval h1, ha.eval h2]
 simp [go_sem, Act.eval]
theorem cl_66 {x0 x1 : Operand} {v0 v1 : Value} (h0 : evS σ x0 = some v0) (h1 : evS σ x1 = some v1) (a : Act) (ha : Env n σ a) : (execOp a.eval ⟨dst, .call { callee := .value (.func 66), args := #[x0, x1], argTypes := at' }, ty, pos, af, g⟩).run Try.prog w = .ok (.enter 66 #[v0, v1]) w := by
 simp only [execOp, resolve, List.map_toArray, List.map_cons, List.map_nil, ha.eval h0, ha.eval h1]
 simp [go_sem, Act.eval]
theorem cl_67 {x0 x1 x2 : Operand} {v0 v1 v2 : Value} (h0 : evS σ x0 = some v0) (h1 : evS σ x1 = some v1) (h2 : evS σ x2 = some v2) (a : Act) (ha : Env n σ a) : (execOp a.eval ⟨dst, .call { callee := .value (.func 67), args := #[x0, x1, x2], argTypes := at' }, ty, pos, af, g⟩).run Try.prog w = .ok (.enter 67 #[v0, v1, v2]) w := by
 simp only [execOp, resolve, List.map_toArray, List.map_cons, List.map_nil, ha.eval h0, ha.eval h1, ha.eval h2]
 simp [go_sem, Act.eval]
end
end Go.Proofs.Ytdkedhcbdbpccaa
