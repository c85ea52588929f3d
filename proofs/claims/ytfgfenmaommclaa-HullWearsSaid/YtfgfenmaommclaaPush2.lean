/- Two appends onto two rows of the call's own inside one region that draws its order: words. -/
import Derived.Test.YtfgfenmaommclaaBase6
namespace Go.Proofs.Ytfgfenmaommclaa
open Go.RowKit

theorem blk_new2 (w : World) (o : Obj) (t : TypeId) (cs : Array Value) : Blk ((w.alloc o).alloc (.cells cs t)) (w.heap.size + 1) t cs := by
  have := Blk.new (w.alloc o) t cs
  simpa using this
theorem rd_of_blk {w : World} {g : Nat} {t : TypeId} {cs : Array Value} (h : Blk w g t cs) {size n : Nat} (hn : cs.size = n * size) : Rd w (g + 1) size (.slice (some ⟨g, 0, none⟩) n n) n cs.toList := by
  refine ⟨by simpa using hn, _, _, rfl, Nat.le_refl _, fun _ => ⟨g, 0, rfl, by omega, fun j u hu => ?_⟩⟩
  rw [Nat.zero_add, h.cell]
  simpa using hu
theorem far_cell {w w' : World} {b o : Nat} {v u : Value} (hg : w.grownBy w' v.ownBlock) (hc : w.cell? ⟨b, o, none⟩ = some u) (hne : v.ownBlock ≠ some b) : w'.cell? ⟨b, o, none⟩ = some u := by
  have hb := World.block_lt_of_cell? w ⟨b, o, none⟩ hc
  rw [World.cell?_of_block (w := w) (hg.block b hb (fun e => hne e.symm))]
  exact hc
theorem Blk.far2 {w w' : World} {g : Nat} {t : TypeId} {cs : Array Value} {v : Value} (h : Blk w g t cs) (hg : w.grownBy w' v.ownBlock) (hne : v.ownBlock ≠ some g) : Blk w' g t cs := h.grown hg (Ne.symm hne)
theorem apart_push2 {W : World} {v v' u : Value} {base2 e2 size2 m : Nat} {ys : List Value} (ha : Apart v u) (hu : W.ownsRow base2 e2 size2 u m ys) (hv : v'.ownBlock = v.ownBlock ∨ v'.ownBlock = some W.heap.size) : Apart v' u := by
  intro g hg hgu
  rcases hv with h | h
  · exact ha g (h ▸ hg) hgu
  · rw [h] at hg
    injection hg with hg
    have := (hu.lt g hgu).2
    omega
theorem own_ne {w : World} {base e size n g : Nat} {v : Value} {xs : List Value} (h : w.ownsRow base e size v n xs) (hg : w.heap.size ≤ g) : v.ownBlock ≠ some g := fun e => by
  have := (h.lt g e).2
  omega
theorem Below.push2 {B base e size n : Nat} {w W w' : World} {v : Value} {xs : List Value} (h : Below B w W) (hown : W.ownsRow base e size v n xs) (hg : W.grownBy w' v.ownBlock) (hb : B ≤ base) (hB : B ≤ W.heap.size) : Below B w w' :=
  Below.push h hown hg hb hB

section
variable {P : Program} {t e : TypeId} {size bytes : Nat}
theorem step_push_blk (E : Elem P t e size bytes) {ops : Array Oper} {o : Oper} {a : Act} {K : Act → World → Prop} {Q : Exit → Act → World → Prop} {F : Prop} (hgd : o.guard = none) (s x : Operand)
    (ho : o.op = .call { callee := .builtin .append, args := #[s, x], argTypes := #[t, t] })
    {w : World} {base : Nat} {v : Value} {n : Nat} {xs : List Value} (hs : a.eval s = v) (g : Nat) (cs : Array Value) (hx : a.eval x = .slice (some ⟨g, 0, none⟩) 1 1) (hown : w.ownsRow base e size v n xs)
    (hb : Blk w g e cs) (hcs : cs.size = 1 * size) (h1 : ∀ u ∈ cs.toList, u.oneCell' = true)
    (h63 : n + 1 ≤ maxLen) (hbytes : (n + 1) * bytes ≤ 140737488355328) (hbase : base ≤ w.heap.size)
    (h : ∀ v' w', w'.ownsRow base e size v' (n + 1) (xs ++ cs.toList) → w.grownBy w' v.ownBlock → (v'.ownBlock = v.ownBlock ∨ v'.ownBlock = some w.heap.size) → K (a.put o.dst v') w') :
    if Region.wanted o (yielded ops a.tmps) = true then Oper.wp P o a w K Q else F :=
  step_push E hgd s x ho hs hown (g + 1) _ 1 cs.toList hx (rd_of_blk hb hcs) h1 h63 hbytes hbase h
end
end Go.Proofs.Ytfgfenmaommclaa
