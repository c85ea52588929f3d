/- Truths, out of arguments. -/
import Derived.Test.YtncnlhkmdljgpaaRLift3
import Derived.Test.YtncnlhkmdljgpaaRLift4
import Derived.Test.YtncnlhkmdljgpaaW28
set_option linter.unusedVariables false
namespace Go.Proofs.Ytncnlhkmdljgpaa
open Go Go.ChangeShapes Go.WideShapes Go.Deep Go.RowKit Go.Joins
section
variable {H : Type} {enc : TypeId × Value → H} {w : World} {base : Nat} {spare : Nat → Bool} {held : Bool}
theorem co_5 : Try.prog.cellsOf 5 = 1 := by kernel_rfl
theorem co_38 : Try.prog.cellsOf 38 = 1 := by kernel_rfl
theorem co_40 : Try.prog.cellsOf 40 = 5 := by kernel_rfl
theorem flat_u8s : ∀ l : List Int, l.flatMap (fun x => [Value.int .u8 x]) = u8s l
  | [] => rfl
  | x :: l => by
    have := flat_u8s l
    simp only [u8s, List.flatMap_cons, List.map_cons, List.singleton_append] at this ⊢
    rw [this]
theorem rd_u8s {fuel : Nat} {v : Value} {x : DataW H × List MemPlace} (h : DataW.trod enc Try.prog w base spare held fuel 38 [v] = some x) : ∃ l : List Int, Rd w w.heap.size 1 v l.length (u8s l) ∧ (∀ y ∈ l, 0 ≤ y ∧ y ≤ 255) ∧ l.length ≤ maxLen := by
  obtain ⟨l, h1, h3, h2⟩ := rd_list (α := Int) (s := 1) (f := fun x => [Value.int .u8 x]) (Good := fun x => 0 ≤ x ∧ x ≤ 255) (fun _ => rfl) (by omega) Try.underlying38 co_5 (fun _ cs _ hl ht => by
    match cs, hl with
    | [u], _ =>
      obtain ⟨z, hz, _, wf⟩ := DataW.trod_int Try.underlying5 ht
      injection hz with hz
      subst hz
      exact ⟨z, rfl, wf_u8 wf⟩) h
  rw [flat_u8s] at h1
  exact ⟨l, h1, h3, h2⟩
set_option maxRecDepth 100000 in
theorem truth_of {v : Value} {d : DataW H} {p : List MemPlace} (h : DataW.Trod enc Try.prog w base spare held 40 v d p) : ∃ (b s e g : List Int) (vb vs ve vg : Value) (x : Int), v = .agg #[vb, vs, ve, vg, .int .u8 x] ∧ Rd w w.heap.size 1 vb b.length (u8s b) ∧ Rd w w.heap.size 1 vs s.length (u8s s) ∧ Rd w w.heap.size 1 ve e.length (u8s e) ∧ Rd w w.heap.size 1 vg g.length (u8s g) ∧ ((∀ y ∈ b, 0 ≤ y ∧ y ≤ 255) ∧ (∀ y ∈ s, 0 ≤ y ∧ y ≤ 255) ∧ (∀ y ∈ e, 0 ≤ y ∧ y ≤ 255) ∧ ∀ y ∈ g, 0 ≤ y ∧ y ≤ 255) ∧ (0 ≤ x ∧ x ≤ 255) ∧ b.length ≤ maxLen ∧ s.length ≤ maxLen ∧ e.length ≤ maxLen ∧ g.length ≤ maxLen := by
  obtain ⟨fuel, hf0⟩ := h
  obtain ⟨ys, n, _, _, hlen, hyl, hf⟩ := DataW.trod_struct Try.underlying40 hf0
  rw [show Try.prog.cellsOf 40 = 5 from co_40] at hlen
  have hv : ∃ c0 c1 c2 c3 c4, v = .agg #[c0, c1, c2, c3, c4] := by
    cases v <;> simp [Value.cells] at hlen
    rename_i cs
    obtain ⟨l⟩ := cs
    match l, hlen with
    | [c0, c1, c2, c3, c4], _ => exact ⟨c0, c1, c2, c3, c4, rfl⟩
  obtain ⟨u0, u1, u2, u3, u4, rfl⟩ := hv
  match ys, hyl with
  | [y0, y1, y2, y3, y4], _ =>
    have q0 : DataW.trod enc Try.prog w base spare held n 38 [u0] = some y0 := fld_of hf (j := 0) rfl rfl rfl co_38
    have q1 : DataW.trod enc Try.prog w base spare held n 38 [u1] = some y1 := fld_of hf (j := 1) rfl rfl rfl co_38
    have q2 : DataW.trod enc Try.prog w base spare held n 38 [u2] = some y2 := fld_of hf (j := 2) rfl rfl rfl co_38
    have q3 : DataW.trod enc Try.prog w base spare held n 38 [u3] = some y3 := fld_of hf (j := 3) rfl rfl rfl co_38
    have q4 : DataW.trod enc Try.prog w base spare held n 5 [u4] = some y4 := fld_of hf (j := 4) rfl rfl rfl co_5
    obtain ⟨b, h1, h2, h3⟩ := rd_u8s q0
    obtain ⟨s, i1, i2, i3⟩ := rd_u8s q1
    obtain ⟨e, j1, j2, j3⟩ := rd_u8s q2
    obtain ⟨g, k1, k2, k3⟩ := rd_u8s q3
    obtain ⟨x, hx, _, wf⟩ := DataW.trod_int Try.underlying5 q4
    injection hx with hx
    subst hx
    exact ⟨b, s, e, g, u0, u1, u2, u3, x, rfl, h1, i1, j1, k1, ⟨h2, i2, j2, k2⟩, wf_u8 wf, h3, i3, j3, k3⟩
end
end Go.Proofs.Ytncnlhkmdljgpaa
