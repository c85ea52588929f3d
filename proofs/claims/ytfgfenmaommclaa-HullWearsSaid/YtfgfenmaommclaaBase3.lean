/- Several rows of the call's own, apart from each other. -/
import Derived.Test.YtfgfenmaommclaaBase2
namespace Go.Proofs.Ytfgfenmaommclaa
open Go.RowKit

/-- two rows share no block -/
def Apart (v u : Value) : Prop := ∀ g, v.ownBlock = some g → u.ownBlock ≠ some g
theorem Apart.nil_left (u : Value) : Apart (.slice none 0 0) u := fun g h => by simp [Value.ownBlock] at h
theorem Apart.nil_right (v : Value) : Apart v (.slice none 0 0) := fun g _ => by simp [Value.ownBlock]
theorem Apart.symm {v u : Value} (h : Apart v u) : Apart u v := fun g hu hv => h g hv hu

section
variable {W w' : World} {base e size n : Nat} {v v' u : Value} {xs : List Value}
/-- a row is as it was where another row has grown -/
theorem own_apart {base2 e2 size2 m : Nat} {ys : List Value} (hu : W.ownsRow base2 e2 size2 u m ys) (hg : W.grownBy w' v.ownBlock) (ha : Apart v u) : w'.ownsRow base2 e2 size2 u m ys :=
  hu.kept hg (by
    rcases h : u.ownBlock with _ | g
    · exact .inl rfl
    · exact .inr fun h' => ha g h'.symm h)
/-- a row that has grown is apart from those that it was apart from -/
theorem Apart.push {base2 e2 size2 m : Nat} {ys : List Value} (ha : Apart v u) (hu : W.ownsRow base2 e2 size2 u m ys) (hv : v'.ownBlock = v.ownBlock ∨ v'.ownBlock = some (W.heap.size + 1)) : Apart v' u := by
  intro g hg hgu
  rcases hv with h | h
  · exact ha g (h ▸ hg) hgu
  · rw [h] at hg
    injection hg with hg
    have := (hu.lt g hgu).2
    omega
/-- a row that is read, as long as its world's size -/
theorem rd_of_own (h : W.ownsRow base e size v n xs) : Rd W W.heap.size size v n xs := Rd.of_own h
end
end Go.Proofs.Ytfgfenmaommclaa
