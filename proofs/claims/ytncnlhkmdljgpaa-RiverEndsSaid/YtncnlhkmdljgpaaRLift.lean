/- From arguments, as the frame hands them, to the words of the walks (printed by gen_rlift.py). -/
import Derived.Test.YtncnlhkmdljgpaaX0
import Derived.Test.YtncnlhkmdljgpaaV7
import Derived.Deep.Slices
import Derived.Deep.Fields
import Derived.ChangeSame
import Derived.Lib.SmallJoins
import Derived.OpenShut
import Derived.ShutString
import Derived.ChangeOld
namespace Go.Proofs.Ytncnlhkmdljgpaa
open Go Go.ChangeShapes Go.WideShapes Go.Deep Go.RowKit Go.Joins

theorem cell_spot {w : World} {x : Addr} {u : Value} (h : w.cell? x = some u) : x.spot = none ∧ x.block < w.heap.size := by
  unfold World.cell? at h
  split at h
  · rename_i c e f hg
    split at h
    · cases h
    · rename_i hs
      refine ⟨by simpa using hs, ?_⟩
      rcases Nat.lt_or_ge x.block w.heap.size with hlt | hge
      · exact hlt
      · rw [Array.getElem?_eq_none hge] at hg; cases hg
  · cases h


section
variable {H : Type} {enc : TypeId × Value → H} {P : Program} {w : World} {base : Nat} {spare : Nat → Bool} {held : Bool}
/-- rows of cells, one behind the other -/
theorem rd_of_cells {b off n c s : Nat} {B : Nat} (row : Nat → List Value) (hlen : ∀ i, (row i).length = s) (hs : 0 < s) (hB : b < B) (hnc : n ≤ c)
    (hcell : ∀ i, i < n → ∀ j u, (row i)[j]? = some u → w.cell? ⟨b, off + (i * s + j), none⟩ = some u) :
    Rd w B s (.slice (some ⟨b, off, none⟩) n c) n ((List.range n).flatMap row) := by
  refine ⟨by rw [flat_len hlen, List.length_range], _, _, rfl, hnc, fun _ => ⟨b, off, rfl, hB, fun q u hu => ?_⟩⟩
  have hq : q < n * s := by
    have := (List.getElem?_eq_some_iff.1 hu).1
    rwa [flat_len hlen, List.length_range] at this
  have hk : q / s < n := by
    rw [Nat.div_lt_iff_lt_mul hs]
    exact hq
  have e : q = q / s * s + q % s := by rw [Nat.mul_comm]; exact (Nat.div_add_mod q s).symm
  have hg := flat_get hlen (List.range n) (q / s) (by simpa using hk) (q % s) (Nat.mod_lt _ hs)
  rw [← e, List.getElem_range] at hg
  rw [hg] at hu
  have := hcell (q / s) hk (q % s) u hu
  rwa [← e] at this

theorem add_lit_more (x : Addr) (n : Nat) (h : x.spot = none) : x.add n = ⟨x.block, x.off + n, none⟩ := by
  obtain ⟨b, o, s⟩ := x
  subst h
  rw [Addr.add_lit]

theorem slice_shape {t e : TypeId} {fuel : Nat} {v : Value} {x : DataW H × List MemPlace} (ht : P.underlying t = some (.slice e)) (h : DataW.trod enc P w base spare held fuel t [v] = some x) : ∃ A len cap, v = .slice A len cap := by
  rcases open_slice ht h with ⟨h0, _⟩ | ⟨a, len, cap, m, n, D, Pl, hcs, _⟩
  · injection h0 with h0
    exact ⟨_, _, _, h0⟩
  · injection hcs with hcs
    exact ⟨_, _, _, hcs⟩

/-- a slice, opened to its elements -/
theorem rd_list {α : Type} [Inhabited α] {f : α → List Value} {s : Nat} {Good : α → Prop} (hf : ∀ x, (f x).length = s) (hs : 0 < s) {t e : TypeId} {fuel : Nat} {v : Value} {x : DataW H × List MemPlace} (ht : P.underlying t = some (.slice e)) (hC : P.cellsOf e = s)
    (hE : ∀ (fuel : Nat) (cs : List Value) (x : DataW H × List MemPlace), cs.length = s → DataW.trod enc P w base spare held fuel e cs = some x → ∃ y : α, cs = f y ∧ Good y) (h : DataW.trod enc P w base spare held fuel t [v] = some x) :
    ∃ l : List α, Rd w w.heap.size s v l.length (l.flatMap f) ∧ (∀ y ∈ l, Good y) ∧ l.length ≤ maxLen := by
  rcases open_slice ht h with ⟨hcs, _⟩ | ⟨a, len, cap, m, n, D, Pl, hcs, _, hl, hcap, hm, _, hi⟩
  · injection hcs with hcs
    subst hcs
    exact ⟨[], Rd.nil_ _ _ _, by simp, Nat.zero_le _⟩
  · injection hcs with hcs
    subst hcs
    have hcell : ∀ i, i < len → ∃ y : α, (∀ j u, (f y)[j]? = some u → w.cell? (a.add (i * s + j)) = some u) ∧ Good y := by
      intro i hi'
      obtain ⟨cs', hc, ht'⟩ := hi i (by rw [hm]; split <;> omega)
      rw [hC] at hc
      obtain ⟨_, hcl, hat⟩ := World.cells?_some hc
      obtain ⟨y, hy, hg⟩ := hE _ cs' _ hcl ht'
      subst hy
      refine ⟨y, fun j u hu => ?_, hg⟩
      have hj : j < s := by
        have := (List.getElem?_eq_some_iff.1 hu).1
        rwa [hf] at this
      have h1 := hat j hj
      rw [Go.Deep.add_add] at h1
      rw [h1, hu]
    let pick : Nat → α := fun i => if h : i < len then Classical.choose (hcell i h) else default
    have hpick : ∀ i, (h : i < len) → (∀ j u, (f (pick i))[j]? = some u → w.cell? (a.add (i * s + j)) = some u) ∧ Good (pick i) := fun i h => by
      have := Classical.choose_spec (hcell i h)
      simp only [pick, dif_pos h]
      exact this
    refine ⟨(List.range len).map pick, ?_, ?_, by simp; omega⟩
    · rw [List.length_map, List.length_range]
      rcases Nat.eq_zero_or_pos len with hz | hz
      · subst hz
        exact ⟨by simp, _, _, rfl, hl, fun h => absurd h (by omega)⟩
      · have h0 := (hpick 0 hz).1 0 _ (List.getElem?_eq_getElem (by rw [hf]; exact hs))
        obtain ⟨hsp, hb⟩ := cell_spot h0
        have e0 : a.add (0 * s + 0) = a := by simp [Addr.add]
        rw [e0] at hsp hb
        have hx : a = ⟨a.block, a.off, none⟩ := by obtain ⟨b, o, s⟩ := a; subst hsp; rfl
        rw [hx, List.flatMap_map]
        refine rd_of_cells _ (fun i => hf _) hs hb hl fun i hi' j u hu => ?_
        have h1 := (hpick i hi').1 j u hu
        rw [add_lit_more a _ hsp] at h1
        exact h1
    · intro y hy
      obtain ⟨i, hi', rfl⟩ := List.mem_map.1 hy
      exact (hpick i (by simpa using hi')).2
theorem fld_of {fs : Array Field} {n : Nat} {cs : List Value} {ys : List (DataW H × List MemPlace)} (hf : ∀ (i : Nat) (f : Field), fs[i]? = some f → DataW.trod enc P w base spare held n f.type ((cs.drop f.offset).take (P.cellsOf f.type)) = ys[i]?)
    {j ft off z : Nat} {f : Field} (hj : fs[j]? = some f) (h1 : f.type = ft) (h2 : f.offset = off) (h3 : P.cellsOf ft = z) : DataW.trod enc P w base spare held n ft ((cs.drop off).take z) = ys[j]? := by
  subst h1 h2 h3
  exact hf j f hj
end
section
variable {H : Type} {enc : TypeId × Value → H} {w : World} {base : Nat} {spare : Nat → Bool} {held : Bool}

theorem co_3 : Try.prog.cellsOf 3 = 1 := by kernel_rfl

set_option maxRecDepth 100000 in
theorem cells_23 {fuel : Nat} {cs : List Value} {x : DataW H × List MemPlace} (hl : cs.length = 2) (h : DataW.trod enc Try.prog w base spare held fuel 23 cs = some x) : ∃ (z0 : Int) (z1 : Int), cs = [.int .i64 z0, .int .i64 z1] := by
  obtain ⟨ys, n, _, _, _, hyl, hf⟩ := DataW.trod_struct Try.underlying23 h
  match cs, hl with
  | [u0, u1], _ =>
    match ys, hyl with
    | [y0, y1], _ =>
      have q0 : DataW.trod enc Try.prog w base spare held n 3 [u0] = some y0 := fld_of hf (j := 0) rfl rfl rfl co_3
      obtain ⟨z0, hz0, _, _⟩ := DataW.trod_int Try.underlying3 q0
      injection hz0 with hz0
      subst hz0
      have q1 : DataW.trod enc Try.prog w base spare held n 3 [u1] = some y1 := fld_of hf (j := 1) rfl rfl rfl co_3
      obtain ⟨z1, hz1, _, _⟩ := DataW.trod_int Try.underlying3 q1
      injection hz1 with hz1
      subst hz1
      exact ⟨z0, z1, rfl⟩

theorem co_23 : Try.prog.cellsOf 23 = 2 := by kernel_rfl

set_option maxRecDepth 100000 in
theorem cells_33 {fuel : Nat} {cs : List Value} {x : DataW H × List MemPlace} (hl : cs.length = 4) (h : DataW.trod enc Try.prog w base spare held fuel 33 cs = some x) : ∃ (z0 : Int) (z1 : Int) (z2 : Int) (z3 : Int), cs = [.int .i64 z0, .int .i64 z1, .int .i64 z2, .int .i64 z3] := by
  obtain ⟨ys, n, _, _, _, hyl, hf⟩ := DataW.trod_struct Try.underlying33 h
  match cs, hl with
  | [u0, u1, u2, u3], _ =>
    match ys, hyl with
    | [y0, y1], _ =>
      have q0 : DataW.trod enc Try.prog w base spare held n 23 [u0, u1] = some y0 := fld_of hf (j := 0) rfl rfl rfl co_23
      obtain ⟨a0, a1, e0⟩ := cells_23 rfl q0
      simp only [List.cons.injEq, and_true] at e0
      obtain ⟨rfl, rfl⟩ := e0
      have q1 : DataW.trod enc Try.prog w base spare held n 23 [u2, u3] = some y1 := fld_of hf (j := 1) rfl rfl rfl co_23
      obtain ⟨a2, a3, e1⟩ := cells_23 rfl q1
      simp only [List.cons.injEq, and_true] at e1
      obtain ⟨rfl, rfl⟩ := e1
      exact ⟨a0, a1, a2, a3, rfl⟩

theorem co_33 : Try.prog.cellsOf 33 = 4 := by kernel_rfl

set_option maxRecDepth 100000 in
theorem cells_25 {fuel : Nat} {cs : List Value} {x : DataW H × List MemPlace} (hl : cs.length = 5) (h : DataW.trod enc Try.prog w base spare held fuel 25 cs = some x) : ∃ (z0 : Int) (z1 : Int) (z2 : Int) (z3 : Int) (z4 : Int), cs = [.int .i64 z0, .int .i64 z1, .int .i64 z2, .int .i64 z3, .int .i64 z4] := by
  obtain ⟨ys, n, _, _, _, hyl, hf⟩ := DataW.trod_struct Try.underlying25 h
  match cs, hl with
  | [u0, u1, u2, u3, u4], _ =>
    match ys, hyl with
    | [y0, y1, y2, y3], _ =>
      have q0 : DataW.trod enc Try.prog w base spare held n 3 [u0] = some y0 := fld_of hf (j := 0) rfl rfl rfl co_3
      obtain ⟨z0, hz0, _, _⟩ := DataW.trod_int Try.underlying3 q0
      injection hz0 with hz0
      subst hz0
      have q1 : DataW.trod enc Try.prog w base spare held n 3 [u1] = some y1 := fld_of hf (j := 1) rfl rfl rfl co_3
      obtain ⟨z1, hz1, _, _⟩ := DataW.trod_int Try.underlying3 q1
      injection hz1 with hz1
      subst hz1
      have q2 : DataW.trod enc Try.prog w base spare held n 3 [u2] = some y2 := fld_of hf (j := 2) rfl rfl rfl co_3
      obtain ⟨z2, hz2, _, _⟩ := DataW.trod_int Try.underlying3 q2
      injection hz2 with hz2
      subst hz2
      have q3 : DataW.trod enc Try.prog w base spare held n 23 [u3, u4] = some y3 := fld_of hf (j := 3) rfl rfl rfl co_23
      obtain ⟨a3, a4, e3⟩ := cells_23 rfl q3
      simp only [List.cons.injEq, and_true] at e3
      obtain ⟨rfl, rfl⟩ := e3
      exact ⟨z0, z1, z2, a3, a4, rfl⟩

theorem co_25 : Try.prog.cellsOf 25 = 5 := by kernel_rfl

theorem cells_len_25 {fuel : Nat} {v : Value} {x : DataW H × List MemPlace} (h : DataW.trod enc Try.prog w base spare held fuel 25 v.cells.toList = some x) : v.cells.toList.length = 5 := by
  obtain ⟨_, _, _, _, hlen, _, _⟩ := DataW.trod_struct Try.underlying25 h
  rw [hlen]
  exact co_25

instance : Inhabited Sky := ⟨sky0⟩
theorem rd_skys {fuel : Nat} {v : Value} {x : DataW H × List MemPlace} (h : DataW.trod enc Try.prog w base spare held fuel 26 [v] = some x) : ∃ l : List Sky, Rd w w.heap.size 4 v l.length (skysC l) ∧ l.length ≤ maxLen := by
  obtain ⟨l, h1, _, h2⟩ := rd_list (f := skyC) (Good := fun _ => True) skyC_len (by omega) Try.underlying26 co_33 (fun _ cs _ hl ht => by
    obtain ⟨a, b, c, d, rfl⟩ := cells_33 hl ht
    exact ⟨⟨⟨a, b⟩, ⟨c, d⟩⟩, rfl, trivial⟩) h
  exact ⟨l, h1, h2⟩
theorem land_of {v : Value} {d : DataW H} {p : List MemPlace} (h : DataW.Trod enc Try.prog w base spare held 25 v d p) : ∃ c : Land, v = .agg (landV c) := by
  obtain ⟨fuel, hf⟩ := h
  have hl := cells_len_25 hf
  obtain ⟨a, b, c, d, e, he⟩ := cells_25 hl hf
  refine ⟨⟨a, b, c, ⟨d, e⟩⟩, ?_⟩
  cases v with
  | agg cs => 
    have : cs = #[.int .i64 a, .int .i64 b, .int .i64 c, .int .i64 d, .int .i64 e] := by
      apply Array.ext'
      simpa [Value.cells] using he
    rw [this]
    rfl
  | _ => simp [Value.cells] at he
end
end Go.Proofs.Ytncnlhkmdljgpaa
