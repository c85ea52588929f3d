/- An append onto a row of the call's own inside a region that draws its order. -/
import Derived.Test.YtfgfenmaommclaaBase3
import Derived.Deep.RegionHeld3
import Derived.StillTactics
namespace Go.Proofs.Ytfgfenmaommclaa
open Go.RowKit

theorem Rd.drew {w : World} {B size n : Nat} {v : Value} {xs : List Value} (h : Rd w B size v n xs) : Rd w.drew B size v n xs := h.keep fun _ _ => rfl
theorem Rd.drewN {w : World} {B size n : Nat} {v : Value} {xs : List Value} (h : Rd w B size v n xs) (k : Nat) : Rd (w.drewN k) B size v n xs := h.keep fun _ _ => rfl

section
variable {P : Program} {t e : TypeId} {size bytes : Nat}
theorem step_push (E : Elem P t e size bytes) {ops : Array Oper} {o : Oper} {a : Act} {K : Act → World → Prop} {Q : Exit → Act → World → Prop} {F : Prop} (hgd : o.guard = none) (s x : Operand)
    (ho : o.op = .call { callee := .builtin .append, args := #[s, x], argTypes := #[t, t] })
    {w : World} {base : Nat} {v : Value} {n : Nat} {xs : List Value} (hs : a.eval s = v) (hown : w.ownsRow base e size v n xs)
    (B : Nat) (src : Value) (m : Nat) (news : List Value) (hx : a.eval x = src) (hr : Rd w B size src m news) (h1 : ∀ u ∈ news, u.oneCell' = true)
    (h63 : n + m ≤ maxLen) (hbytes : (n + m) * bytes ≤ 140737488355328) (hbase : base ≤ w.heap.size)
    (h : ∀ v' w', w'.ownsRow base e size v' (n + m) (xs ++ news) → w.grownBy w' v.ownBlock → (v'.ownBlock = v.ownBlock ∨ v'.ownBlock = some w.heap.size) → K (a.put o.dst v') w') :
    if Region.wanted o (yielded ops a.tmps) = true then Oper.wp P o a w K Q else F := by
  have hw : Region.wanted o (yielded ops a.tmps) = true := by simp [Region.wanted, hgd]
  rw [if_pos hw]
  obtain ⟨i, z, hi, hz, hsize, hby, hzs⟩ := E.hi
  exact wp_append_rd w s x t ho base e i z size bytes E.ht hi hz hsize hby hzs E.hs v n xs hs hown B src m news hx hr h1 h63 hbytes hbase h
end

theorem grown_drew {row : Option Nat} {a w : World} (h : a.grownBy w row) : a.grownBy w.drew row := ⟨h.os, h.tape, h.output, h.size, h.block⟩
/-- an element of a row of the call's own -/
theorem own_elem {w : World} {base e n : Nat} {v : Value} {l : List Int} (h : w.ownsRow base e 1 v n (ints l)) {k : Nat} (hk : k < l.length) :
    ∃ g cap, v = .slice (some ⟨g, 0, none⟩) n cap ∧ base ≤ g ∧ g < w.heap.size ∧ n = l.length ∧ w.cell? ⟨g, k, none⟩ = some (.int .i64 l[k]) := by
  have hn : n = l.length := by have := h.1; simp [ints] at this; omega
  obtain ⟨g, cap, rfl, h1, h2⟩ := h.form (by omega)
  refine ⟨g, cap, rfl, h1, h2, hn, ?_⟩
  rw [h.cellAt k (by omega)]
  exact ints_get l k hk

/-- a cell of another block is as it was behind an append -/
theorem push_cell {w w' : World} {base e size n b o : Nat} {v : Value} {xs : List Value} {u : Value} (hown : w.ownsRow base e size v n xs) (hg : w.grownBy w' v.ownBlock) (hc : w.cell? ⟨b, o, none⟩ = some u) (hb : b < base) (hbw : base ≤ w.heap.size) : w'.cell? ⟨b, o, none⟩ = some u := by
  rw [World.cell?_of_block (w := w) (hg.block b (by omega) (fun e => by have := (hown.lt b e.symm).1; omega))]
  exact hc

theorem wpList_push_at {P : Program} {t e : TypeId} {size bytes : Nat} (E : Elem P t e size bytes) {ops : Array Oper} {rest : List Oper} {o : Oper} {a : Act} {Q : Exit → Act → World → Prop} (hgd : o.guard = none) (s x : Operand)
    (ho : o.op = .call { callee := .builtin .append, args := #[s, x], argTypes := #[t, t] })
    {W : World} {base : Nat} {v : Value} {n : Nat} {xs : List Value} (hs : a.eval s = v) (hown : W.ownsRow base e size v n xs) (cs : Array Value) (g : Nat)
    (hx : a.eval x = .slice (some ⟨g, 0, none⟩) 1 1) (hg : g = W.heap.size) (hcs : cs.size = size) (h1 : ∀ u ∈ cs.toList, u.oneCell' = true)
    (h63 : n + 1 ≤ maxLen) (hbytes : (n + 1) * bytes ≤ 140737488355328) (hbase : base ≤ W.heap.size)
    (h : ∀ v' w', w'.ownsRow base e size v' (n + 1) (xs ++ cs.toList) → W.grownBy w' v.ownBlock → (v'.ownBlock = v.ownBlock ∨ v'.ownBlock = some (W.heap.size + 1)) → wpList P ops Q rest (a.put o.dst v') w') :
    wpList P ops Q (o :: rest) a (W.alloc (.cells cs e)) := by
  subst hg
  exact wpList_push E hgd s x ho hs hown cs hx hcs h1 h63 hbytes hbase h
end Go.Proofs.Ytfgfenmaommclaa
