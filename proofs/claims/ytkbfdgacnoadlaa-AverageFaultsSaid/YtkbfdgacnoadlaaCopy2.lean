/- Copies of slices that are read, inside one region that draws its order: append(T{}, l...). -/
import Derived.Test.YtkbfdgacnoadlaaPush2
namespace Go.Proofs.Ytkbfdgacnoadlaa
open Go.RowKit

theorem own_blk0 {w : World} {g base : Nat} {e : TypeId} (size : Nat) (h : Blk w g e #[]) (hb : base ≤ g) : w.ownsRow base e size (.slice (some ⟨g, 0, none⟩) 0 0) 0 [] :=
  ⟨by simp, .inr ⟨g, 0, #[], rfl, hb, h, Nat.le_refl _, Nat.zero_le _, by simp, by simp⟩⟩

section
variable {P : Program} {t e : TypeId} {size bytes : Nat}
theorem step_copy (E : Elem P t e size bytes) {ops : Array Oper} {o : Oper} {a : Act} {K : Act → World → Prop} {Q : Exit → Act → World → Prop} {F : Prop} (hgd : o.guard = none) (s x : Operand)
    (ho : o.op = .call { callee := .builtin .append, args := #[s, x], argTypes := #[t, t] })
    {w : World} (g base : Nat) (hs : a.eval s = .slice (some ⟨g, 0, none⟩) 0 0) (hb : Blk w g e #[]) (hbg : base ≤ g)
    {B : Nat} {src : Value} {m : Nat} {news : List Value} (hx : a.eval x = src) (hr : Rd w B size src m news) (h1 : ∀ u ∈ news, u.oneCell' = true)
    (hm : m ≤ 1048576) (hby : bytes ≤ 1048576)
    (h : ∀ v' w', w'.ownsRow base e size v' m news → w.grownBy w' (some g) → (v'.ownBlock = some g ∨ v'.ownBlock = some w.heap.size) → K (a.put o.dst v') w') :
    if Region.wanted o (yielded ops a.tmps) = true then Oper.wp P o a w K Q else F := by
  have hmul : (0 + m) * bytes ≤ 140737488355328 := by
    have h1 : (0 + m) * bytes ≤ 1048576 * bytes := Nat.mul_le_mul_right _ (by omega)
    omega
  have hlt := hb.lt
  refine step_push E hgd s x ho hs (own_blk0 (base := base) size hb hbg) B src m news hx hr h1 (by simp only [maxLen]; omega) hmul (by omega) fun v' w' h2 h3 h4 => h v' w' (by simpa using h2) h3 h4
end
theorem own_off {w w' : World} {base e size n g : Nat} {v : Value} {xs : List Value} (h : w.ownsRow base e size v n xs) (hg : w.grownBy w' (some g)) (hne : v.ownBlock ≠ some g) : w'.ownsRow base e size v n xs :=
  own_apart (v := .slice (some ⟨g, 0, none⟩) 0 0) h hg fun k e1 e2 => by
    have e3 : g = k := by simpa [Value.ownBlock] using e1
    subst e3
    exact hne e2
theorem cell_off {w w' : World} {b o g : Nat} {u : Value} (hg : w.grownBy w' (some g)) (hc : w.cell? ⟨b, o, none⟩ = some u) (hne : b ≠ g) : w'.cell? ⟨b, o, none⟩ = some u := by
  have hb := World.block_lt_of_cell? w ⟨b, o, none⟩ hc
  rw [World.cell?_of_block (w := w) (hg.block b hb (fun e => hne (by injection e)))]
  exact hc
theorem own_not {v : Value} {g k n : Nat} (h : v.ownBlock = some g ∨ v.ownBlock = some n) (hg : g ≠ k) (hn : n ≠ k) : v.ownBlock ≠ some k := by
  intro e
  rw [e] at h
  rcases h with h | h <;> injection h with h <;> omega
theorem Rd.off {w w' : World} {B size n g : Nat} {v : Value} {xs : List Value} (h : Rd w B size v n xs) (hg : w.grownBy w' (some g)) (hB : B ≤ w.heap.size) (hBg : B ≤ g) : Rd w' B size v n xs :=
  h.grown hg hB fun k e => by injection e with e; omega
theorem Below.off {B g : Nat} {a w w' : World} (h : Below B a w) (hg : w.grownBy w' (some g)) (hB : B ≤ w.heap.size) (hBg : B ≤ g) : Below B a w' :=
  h.grown hg hB fun k e => by injection e with e; omega
end Go.Proofs.Ytkbfdgacnoadlaa
