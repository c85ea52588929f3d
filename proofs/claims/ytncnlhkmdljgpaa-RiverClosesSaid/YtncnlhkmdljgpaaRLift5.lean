/- Closures, out of arguments (printed by gen_rlift5.py). -/
import Derived.Test.YtncnlhkmdljgpaaRLift4
import Derived.Test.YtncnlhkmdljgpaaW21
namespace Go.Proofs.Ytncnlhkmdljgpaa
open Go Go.ChangeShapes Go.WideShapes Go.Deep Go.RowKit Go.Joins

section
variable {H : Type} {enc : TypeId × Value → H} {w : World} {base : Nat} {spare : Nat → Bool} {held : Bool}

set_option maxRecDepth 100000 in
theorem cells_90 {fuel : Nat} {cs : List Value} {x : DataW H × List MemPlace} (hl : cs.length = 6) (h : DataW.trod enc Try.prog w base spare held fuel 90 cs = some x) : ∃ (z0 : Int) (z1 : Int) (z2 : Int) (z3 : Int) (z4 : Int) (z5 : Int), cs = [.int .i64 z0, .int .i64 z1, .int .i64 z2, .int .i64 z3, .int .i64 z4, .int .i64 z5] := by
  obtain ⟨ys, n, _, _, _, hyl, hf⟩ := DataW.trod_struct Try.underlying90 h
  match cs, hl with
  | [u0, u1, u2, u3, u4, u5], _ =>
    match ys, hyl with
    | [y0, y1, y2, y3], _ =>
      have q0 : DataW.trod enc Try.prog w base spare held n 3 [u0] = some y0 := fld_of hf (j := 0) rfl rfl rfl co_3
      obtain ⟨z0, hz0, _, _⟩ := DataW.trod_int Try.underlying3 q0
      injection hz0 with hz0
      subst hz0
      have q1 : DataW.trod enc Try.prog w base spare held n 3 [u1] = some y1 := fld_of hf (j := 1) rfl rfl rfl co_3
      obtain ⟨z1, hz1, _, _⟩ := DataW.trod_int Try.underlying3 q1
      injection hz1 with hz1
      subst hz1
      have q2 : DataW.trod enc Try.prog w base spare held n 23 [u2, u3] = some y2 := fld_of hf (j := 2) rfl rfl rfl co_23
      obtain ⟨a2, a3, e2⟩ := cells_23 rfl q2
      simp only [List.cons.injEq, and_true] at e2
      obtain ⟨rfl, rfl⟩ := e2
      have q3 : DataW.trod enc Try.prog w base spare held n 23 [u4, u5] = some y3 := fld_of hf (j := 3) rfl rfl rfl co_23
      obtain ⟨a4, a5, e3⟩ := cells_23 rfl q3
      simp only [List.cons.injEq, and_true] at e3
      obtain ⟨rfl, rfl⟩ := e3
      exact ⟨z0, z1, a2, a3, a4, a5, rfl⟩

theorem co_90 : Try.prog.cellsOf 90 = 6 := by kernel_rfl

instance : Inhabited Clos := ⟨clos0⟩
theorem rd_closes {fuel : Nat} {v : Value} {x : DataW H × List MemPlace} (h : DataW.trod enc Try.prog w base spare held fuel 86 [v] = some x) : ∃ l : List Clos, Rd w w.heap.size 6 v l.length (closesC l) ∧ l.length ≤ maxLen := by
  obtain ⟨l, h1, _, h2⟩ := rd_list (f := closC) (Good := fun _ => True) closC_len (by omega) Try.underlying86 co_90 (fun _ cs _ hl ht => by
    obtain ⟨a, b, c, d, e, f, rfl⟩ := cells_90 hl ht
    exact ⟨⟨a, b, ⟨c, d⟩, ⟨e, f⟩⟩, rfl, trivial⟩) h
  exact ⟨l, h1, h2⟩
end
end Go.Proofs.Ytncnlhkmdljgpaa
