/- A slice of notes that stands in a struct's field. -/
import Derived.Test.YtkbfdgacnoadlaaLift2
namespace Go.Proofs.Ytkbfdgacnoadlaa
open Go.ChangeShapes Go.WideShapes Go.Deep Go.RowKit Go.Joins

section
variable {H : Type} {enc : TypeId × Value → H} {P : Program} {w : World} {base : Nat} {spare : Nat → Bool} {held : Bool}
theorem slice_shape {t e : TypeId} {fuel : Nat} {v : Value} {x : DataW H × List MemPlace} (ht : P.underlying t = some (.slice e)) (h : DataW.trod enc P w base spare held fuel t [v] = some x) : ∃ A len cap, v = .slice A len cap := by
  rcases open_slice ht h with ⟨h0, _⟩ | ⟨a, len, cap, m, n, D, Pl, hcs, _⟩
  · injection h0 with h0
    exact ⟨_, _, _, h0⟩
  · injection hcs with hcs
    exact ⟨_, _, _, hcs⟩
theorem rd_notes_f {f0 f1 f2 : Field} {t e : TypeId} {fuel : Nat} {v : Value} {x : DataW H × List MemPlace} (ht : P.underlying t = some (.slice e)) (he : P.underlying e = some (.struct #[f0, f1, f2])) (hone : oneCellFields P #[f0, f1, f2] = true) (hC : P.cellsOf e = 3)
    (h0 : P.underlying f0.type = some (.int .i64)) (h1 : P.underlying f1.type = some (.int .i64)) (h2 : P.underlying f2.type = some (.int .i64)) (h : DataW.trod enc P w base spare held fuel t [v] = some x) :
    ∃ l : List Nt, Rd w w.heap.size 3 v l.length (notesV l) := by
  obtain ⟨A, len, cap, rfl⟩ := slice_shape ht h
  obtain ⟨d, p⟩ := x
  obtain ⟨l, hl, hr, _⟩ := rd_notes (d := d) (p := p) ht he hone hC h0 h1 h2 (⟨fuel, by simpa [Value.cells] using h⟩ : DataW.Trod enc P w base spare held t (.slice A len cap) d p)
  exact ⟨l, hl ▸ hr⟩
end
end Go.Proofs.Ytkbfdgacnoadlaa
