/- Passes, out of arguments (printed by gen_rlift6.py). -/
import Derived.Test.YtncnlhkmdljgpaaRLift4
import Derived.Test.YtncnlhkmdljgpaaWayMath
namespace Go.Proofs.Ytncnlhkmdljgpaa
open Go Go.ChangeShapes Go.WideShapes Go.Deep Go.RowKit Go.Joins

section
variable {H : Type} {enc : TypeId × Value → H} {w : World} {base : Nat} {spare : Nat → Bool} {held : Bool}

set_option maxRecDepth 100000 in
theorem cells_101 {fuel : Nat} {cs : List Value} {x : DataW H × List MemPlace} (hl : cs.length = 3) (h : DataW.trod enc Try.prog w base spare held fuel 101 cs = some x) : ∃ (z0 : Int) (z1 : Int) (z2 : Int), cs = [.int .i64 z0, .int .i64 z1, .int .i64 z2] := by
  obtain ⟨ys, n, _, _, _, hyl, hf⟩ := DataW.trod_struct Try.underlying101 h
  match cs, hl with
  | [u0, u1, u2], _ =>
    match ys, hyl with
    | [y0, y1], _ =>
      have q0 : DataW.trod enc Try.prog w base spare held n 3 [u0] = some y0 := fld_of hf (j := 0) rfl rfl rfl co_3
      obtain ⟨z0, hz0, _, _⟩ := DataW.trod_int Try.underlying3 q0
      injection hz0 with hz0
      subst hz0
      have q1 : DataW.trod enc Try.prog w base spare held n 23 [u1, u2] = some y1 := fld_of hf (j := 1) rfl rfl rfl co_23
      obtain ⟨a1, a2, e1⟩ := cells_23 rfl q1
      simp only [List.cons.injEq, and_true] at e1
      obtain ⟨rfl, rfl⟩ := e1
      exact ⟨z0, a1, a2, rfl⟩

theorem co_101 : Try.prog.cellsOf 101 = 3 := by kernel_rfl

instance : Inhabited Pass := ⟨pass0⟩
theorem rd_passes {fuel : Nat} {v : Value} {x : DataW H × List MemPlace} (h : DataW.trod enc Try.prog w base spare held fuel 99 [v] = some x) : ∃ l : List Pass, Rd w w.heap.size 3 v l.length (passesC l) ∧ l.length ≤ maxLen := by
  obtain ⟨l, h1, _, h2⟩ := rd_list (f := passC) (Good := fun _ => True) passC_len (by omega) Try.underlying99 co_101 (fun _ cs _ hl ht => by
    obtain ⟨a, b, c, rfl⟩ := cells_101 hl ht
    exact ⟨⟨a, ⟨b, c⟩⟩, rfl, trivial⟩) h
  exact ⟨l, h1, h2⟩
end
end Go.Proofs.Ytncnlhkmdljgpaa
