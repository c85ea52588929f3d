/- From arguments to the words of the walks: soundings (a struct in a struct), bunkers in a field, two integers in an array. -/
import Derived.Test.YtkbfdgacnoadlaaLift3
namespace Go.Proofs.Ytkbfdgacnoadlaa
open Go.ChangeShapes Go.WideShapes Go.Deep Go.RowKit Go.Joins

section
variable {H : Type} {enc : TypeId × Value → H} {P : Program} {w : World} {base : Nat} {spare : Nat → Bool} {held : Bool}
/-- a slice of structs of an integer and a struct of two integers: its cells -/
theorem rd_soundings {t e : TypeId} {f0 f1 g0 g1 : Field} {fuel : Nat} {v : Value} {x : DataW H × List MemPlace} (ht : P.underlying t = some (.slice e)) (he : P.underlying e = some (.struct #[f0, f1])) (hC : P.cellsOf e = 3)
    (o0 : f0.offset = 0) (o1 : f1.offset = 1) (c0 : P.cellsOf f0.type = 1) (c1 : P.cellsOf f1.type = 2) (h0 : P.underlying f0.type = some (.int .i64)) (h1 : P.underlying f1.type = some (.struct #[g0, g1])) (hone : oneCellFields P #[g0, g1] = true)
    (k0 : P.underlying g0.type = some (.int .i64)) (k1 : P.underlying g1.type = some (.int .i64)) (h : DataW.trod enc P w base spare held fuel t [v] = some x) :
    ∃ l : List Sd, Rd w w.heap.size 3 v l.length (sdsV l) := by
  rcases open_slice ht h with ⟨hcs, _⟩ | ⟨a, len, cap, m, n, D, Pl, hcs, _, hl, _, hm, _, hi⟩
  · injection hcs with hcs
    subst hcs
    exact ⟨[], Rd.nil_ _ _ _⟩
  · injection hcs with hcs
    subst hcs
    have hcell : ∀ i, i < len → ∃ z0 z1 z2 : Int, w.cell? (a.add (i * 3 + 0)) = some (.int .i64 z0) ∧ w.cell? (a.add (i * 3 + 1)) = some (.int .i64 z1) ∧ w.cell? (a.add (i * 3 + 2)) = some (.int .i64 z2) := by
      intro i hi'
      obtain ⟨cs', hc, ht'⟩ := hi i (by rw [hm]; split <;> omega)
      rw [hC] at hc
      obtain ⟨_, hcl, hat⟩ := World.cells?_some hc
      obtain ⟨ys, n', _, _, _, hyl, hf⟩ := DataW.trod_struct he ht'
      have e0 := hat 0 (by omega)
      have e1 := hat 1 (by omega)
      have e2 := hat 2 (by omega)
      rw [Go.Deep.add_add] at e0 e1 e2
      match cs', hcl with
      | [u0, u1, u2], _ =>
        have q0 := hf 0 f0 rfl
        have q1 := hf 1 f1 rfl
        rw [o0, c0] at q0
        rw [o1, c1] at q1
        simp only [List.drop_zero, List.drop_succ_cons, List.take_succ_cons, List.take_zero] at q0 q1
        match ys, hyl with
        | [y0, y1], _ =>
          obtain ⟨z0, hz0, _, _⟩ := DataW.trod_int h0 q0
          injection hz0 with hz0
          subst hz0
          obtain ⟨zs, n2, _, _, _, hzl, hg⟩ := DataW.trod_struct h1 q1
          obtain ⟨p0, r0⟩ := hone_of hone 0 g0 rfl
          obtain ⟨p1, r1⟩ := hone_of hone 1 g1 rfl
          have s0 := hg 0 g0 rfl
          have s1 := hg 1 g1 rfl
          rw [p0, r0] at s0
          rw [p1, r1] at s1
          simp only [List.drop_zero, List.drop_succ_cons, List.take_succ_cons, List.take_zero] at s0 s1
          match zs, hzl with
          | [z1, z2], _ =>
            obtain ⟨z1, hz1, _, _⟩ := DataW.trod_int k0 s0
            obtain ⟨z2, hz2, _, _⟩ := DataW.trod_int k1 s1
            injection hz1 with hz1
            injection hz2 with hz2
            subst hz1 hz2
            exact ⟨z0, z1, z2, e0, e1, e2⟩
    refine ⟨(List.range len).map fun i => ⟨cellI w (a.add (i * 3 + 0)), cellI w (a.add (i * 3 + 1)), cellI w (a.add (i * 3 + 2))⟩, ?_⟩
    rw [List.length_map, List.length_range]
    rcases Nat.eq_zero_or_pos len with hz | hz
    · subst hz
      exact ⟨by simp [sdsV], _, _, rfl, hl, fun h => absurd h (by omega)⟩
    · obtain ⟨z0, _, _, hz0, _, _⟩ := hcell 0 hz
      obtain ⟨hsp, hb⟩ := cell_spot hz0
      have e0 : a.add (0 * 3 + 0) = a := by simp [Addr.add]
      rw [e0] at hsp hb
      have hx : a = ⟨a.block, a.off, none⟩ := by obtain ⟨b, o, s⟩ := a; subst hsp; rfl
      rw [hx, sdsV, List.flatMap_map]
      refine rd_of_cells _ (fun i => rfl) (by omega) hb hl fun i hi' j u hu => ?_
      obtain ⟨z0, z1, z2, q0, q1, q2⟩ := hcell i hi'
      rw [← hx] at hu
      have hj : j < 3 := by
        have := (List.getElem?_eq_some_iff.1 hu).1
        simpa [sdV] using this
      have hadd := add_lit_more a (i * 3 + j) hsp
      rw [← hadd]
      have b0 : cellI w (a.add (i * 3 + 0)) = z0 := by rw [cellI, q0]
      have b1 : cellI w (a.add (i * 3 + 1)) = z1 := by rw [cellI, q1]
      have b2 : cellI w (a.add (i * 3 + 2)) = z2 := by rw [cellI, q2]
      rw [b0, b1, b2] at hu
      match j, hj with
      | 0, _ => injection hu with hu; rw [← hu]; exact q0
      | 1, _ => injection hu with hu; rw [← hu]; exact q1
      | 2, _ => injection hu with hu; rw [← hu]; exact q2
theorem rd_bunkers {f0 f1 : Field} {t e : TypeId} {fuel : Nat} {v : Value} {x : DataW H × List MemPlace} (ht : P.underlying t = some (.slice e)) (he : P.underlying e = some (.struct #[f0, f1])) (hone : oneCellFields P #[f0, f1] = true) (hC : P.cellsOf e = 2)
    (h0 : P.underlying f0.type = some (.int .i64)) (h1 : P.underlying f1.type = some (.int .i64)) (h : DataW.trod enc P w base spare held fuel t [v] = some x) :
    ∃ l : List Bk, Rd w w.heap.size 2 v l.length (bksV l) := by
  obtain ⟨A, len, cap, rfl⟩ := slice_shape ht h
  obtain ⟨d, p⟩ := x
  obtain ⟨f, hr, _⟩ := rd_of_structs ht he hone hC (by simp) (fun j g hj => by
    match j, hj with
    | 0, hj => injection hj with hj; subst hj; exact h0
    | 1, hj => injection hj with hj; subst hj; exact h1
    | j + 2, hj => simp at hj) (⟨fuel, by simpa [Value.cells] using h⟩ : DataW.Trod enc P w base spare held t (.slice A len cap) d p)
  refine ⟨(List.range len).map fun i => ⟨f i 0, f i 1⟩, ?_⟩
  rw [List.length_map, List.length_range, ← bunkers_of]
  exact hr
theorem open_two {t e : TypeId} {v : Value} {d : DataW H} {p : List MemPlace} (ht : P.underlying t = some (.array 2 e)) (hCt : P.cellsOf t = 2) (hC : P.cellsOf e = 1) (he : P.underlying e = some (.int .i64)) (h : DataW.Trod enc P w base spare held t v d p) :
    ∃ x y : Int, v = .agg #[.int .i64 x, .int .i64 y] := by
  obtain ⟨fuel, hf⟩ := h
  obtain ⟨xs, m, _, _, hlen, hxl, hg⟩ := DataW.trod_array ht hf
  rw [hCt] at hlen
  have hv : ∃ c0 c1, v = .agg #[c0, c1] := by
    cases v <;> simp [Value.cells] at hlen
    rename_i cs
    obtain ⟨l⟩ := cs
    match l, hlen with
    | [c0, c1], _ => exact ⟨c0, c1, rfl⟩
  obtain ⟨c0, c1, rfl⟩ := hv
  have q0 := hg 0 (by omega)
  have q1 := hg 1 (by omega)
  rw [hC] at q0 q1
  simp only [Value.cells, Nat.zero_mul, Nat.one_mul, List.drop_zero, List.drop_succ_cons, List.take_succ_cons, List.take_zero] at q0 q1
  match xs, hxl with
  | [y0, y1], _ =>
    obtain ⟨x, hx, _, _⟩ := DataW.trod_int he q0
    obtain ⟨y, hy, _, _⟩ := DataW.trod_int he q1
    injection hx with hx
    injection hy with hy
    subst hx hy
    exact ⟨x, y, rfl⟩
end
end Go.Proofs.Ytkbfdgacnoadlaa
