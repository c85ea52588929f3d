/- Arrays of two and of three integers, out of arguments. -/
import Derived.Test.YtncnlhkmdljgpaaRLift3
set_option linter.unusedVariables false
namespace Go.Proofs.Ytncnlhkmdljgpaa
open Go Go.RowKit Go.ChangeShapes Go.WideShapes Go.Joins
section
variable {H : Type} {enc : TypeId × Value → H} {P : Program} {w : World} {base : Nat} {spare : Nat → Bool} {held : Bool}
theorem open_two {k : IntKind} {t e : TypeId} {v : Value} {d : DataW H} {p : List MemPlace} (ht : P.underlying t = some (.array 2 e)) (hCt : P.cellsOf t = 2) (hC : P.cellsOf e = 1) (he : P.underlying e = some (.int k)) (h : DataW.Trod enc P w base spare held t v d p) :
    ∃ x y : Int, v = .agg #[.int k x, .int k y] ∧ (Lit.int k x).wf = true ∧ (Lit.int k y).wf = true := by
  obtain ⟨fuel, hf⟩ := h
  obtain ⟨xs, m, _, _, hlen, hxl, hg⟩ := DataW.trod_array ht hf
  rw [hCt] at hlen
  have hv : ∃ c0 c1, v = .agg #[c0, c1] := by
    cases v <;> simp [Value.cells] at hlen
    rename_i cs
    obtain ⟨l⟩ := cs
    match l, hlen with
    | [c0, c1], _ => exact ⟨c0, c1, rfl⟩
  obtain ⟨c0, c1, rfl⟩ := hv
  have q0 := hg 0 (by omega)
  have q1 := hg 1 (by omega)
  rw [hC] at q0 q1
  simp only [Value.cells, Nat.zero_mul, Nat.one_mul, List.drop_zero, List.drop_succ_cons, List.take_succ_cons, List.take_zero] at q0 q1
  match xs, hxl with
  | [y0, y1], _ =>
    obtain ⟨x, hx, _, wx⟩ := DataW.trod_int he q0
    obtain ⟨y, hy, _, wy⟩ := DataW.trod_int he q1
    injection hx with hx
    injection hy with hy
    subst hx hy
    exact ⟨x, y, rfl, wx, wy⟩
theorem open_three {k : IntKind} {t e : TypeId} {v : Value} {d : DataW H} {p : List MemPlace} (ht : P.underlying t = some (.array 3 e)) (hCt : P.cellsOf t = 3) (hC : P.cellsOf e = 1) (he : P.underlying e = some (.int k)) (h : DataW.Trod enc P w base spare held t v d p) :
    ∃ x y z : Int, v = .agg #[.int k x, .int k y, .int k z] ∧ (Lit.int k x).wf = true ∧ (Lit.int k y).wf = true ∧ (Lit.int k z).wf = true := by
  obtain ⟨fuel, hf⟩ := h
  obtain ⟨xs, m, _, _, hlen, hxl, hg⟩ := DataW.trod_array ht hf
  rw [hCt] at hlen
  have hv : ∃ c0 c1 c2, v = .agg #[c0, c1, c2] := by
    cases v <;> simp [Value.cells] at hlen
    rename_i cs
    obtain ⟨l⟩ := cs
    match l, hlen with
    | [c0, c1, c2], _ => exact ⟨c0, c1, c2, rfl⟩
  obtain ⟨c0, c1, c2, rfl⟩ := hv
  have q0 := hg 0 (by omega)
  have q1 := hg 1 (by omega)
  have q2 := hg 2 (by omega)
  rw [hC] at q0 q1 q2
  simp only [Value.cells, Nat.mul_one, List.drop_zero, List.drop_succ_cons, List.take_succ_cons, List.take_zero] at q0 q1 q2
  match xs, hxl with
  | [y0, y1, y2], _ =>
    obtain ⟨x, hx, _, wx⟩ := DataW.trod_int he q0
    obtain ⟨y, hy, _, wy⟩ := DataW.trod_int he q1
    obtain ⟨z, hz, _, wz⟩ := DataW.trod_int he q2
    injection hx with hx
    injection hy with hy
    injection hz with hz
    subst hx hy hz
    exact ⟨x, y, z, rfl, wx, wy, wz⟩
theorem wf_u16 {n : Int} (h : (Lit.int .u16 n).wf = true) : 0 ≤ n ∧ n ≤ 65535 := by
  simp [Lit.wf, IntKind.min, IntKind.max, IntKind.signed, IntKind.bits] at h
  omega
theorem wf_u8 {n : Int} (h : (Lit.int .u8 n).wf = true) : 0 ≤ n ∧ n ≤ 255 := by
  simp [Lit.wf, IntKind.min, IntKind.max, IntKind.signed, IntKind.bits] at h
  omega
theorem co_80 : Try.prog.cellsOf 80 = 3 := by kernel_rfl
theorem co_79 : Try.prog.cellsOf 79 = 2 := by kernel_rfl
theorem co_84 : Try.prog.cellsOf 84 = 3 := by kernel_rfl
theorem co_83 : Try.prog.cellsOf 83 = 1 := by kernel_rfl
end
end Go.Proofs.Ytncnlhkmdljgpaa
