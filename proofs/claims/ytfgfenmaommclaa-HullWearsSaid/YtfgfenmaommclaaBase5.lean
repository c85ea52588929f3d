/- A copy of a slice that is read: append(T{}, l...). -/
import Derived.Test.YtfgfenmaommclaaBase4
namespace Go.Proofs.Ytfgfenmaommclaa
open Go.RowKit

section
variable {P : Program} {t e : TypeId} {size bytes : Nat}
theorem wpList_copy_all (E : Elem P t e size bytes) {ops : Array Oper} {rest : List Oper} {o : Oper} {a : Act} {Q : Exit → Act → World → Prop} (hgd : o.guard = none) (s x : Operand)
    (ho : o.op = .call { callee := .builtin .append, args := #[s, x], argTypes := #[t, t] })
    {W : World} {B : Nat} {src : Value} {m : Nat} {news : List Value} (hr : Rd W B size src m news) (hB : B ≤ W.heap.size)
    (hs : a.eval s = .slice (some ⟨W.heap.size, 0, none⟩) 0 0) (hx : a.eval x = src) (h1 : ∀ u ∈ news, u.oneCell' = true)
    (hm : m ≤ 1048576) (hby : bytes ≤ 1048576)
    (h : ∀ v' w', w'.ownsRow W.heap.size e size v' m news → Below W.heap.size W w' → wpList P ops Q rest (a.put o.dst v') w') :
    wpList P ops Q (o :: rest) a (W.alloc (.cells #[] e)) := by
  obtain ⟨i, z, hi, hz, hsize, hb, hzs⟩ := E.hi
  have hmul : (0 + m) * bytes ≤ 140737488355328 := by
    have h1 : (0 + m) * bytes ≤ 1048576 * bytes := Nat.mul_le_mul_right _ (by omega)
    omega
  refine wpList_append_rd (W.alloc (.cells #[] e)) hgd s x t ho W.heap.size e i z size bytes E.ht hi hz hsize hb hzs E.hs (.slice (some ⟨W.heap.size, 0, none⟩) 0 0) 0 [] hs
    (own_new W _ _ size 0 #[] (Nat.le_refl _) (by simp) (Nat.zero_le _)) B src m news hx (hr.alloc hB _) h1 (by simp only [maxLen]; omega) hmul (by simp) fun v' w' h2 h3 _ => ?_
  refine h v' w' (by simpa using h2) (((Below.refl _ _).alloc (Nat.le_refl _) _).grown h3 (by simp) ?_)
  simp [Value.ownBlock]
end
theorem int_eq {k : IntKind} {a b : Int} (h : a = b) : Value.int k a = .int k b := by rw [h]
end Go.Proofs.Ytfgfenmaommclaa
