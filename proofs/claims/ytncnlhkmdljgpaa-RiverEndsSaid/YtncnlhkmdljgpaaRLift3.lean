/- Forecasts, out of arguments (printed by gen_rlift3.py). -/
import Derived.Test.YtncnlhkmdljgpaaRLift2
namespace Go.Proofs.Ytncnlhkmdljgpaa
open Go Go.ChangeShapes Go.WideShapes Go.Deep Go.RowKit Go.Joins

section
variable {H : Type} {enc : TypeId × Value → H} {w : World} {base : Nat} {spare : Nat → Bool} {held : Bool}

theorem co_52 : Try.prog.cellsOf 52 = 1 := by kernel_rfl

set_option maxRecDepth 100000 in
theorem cells_54 {fuel : Nat} {cs : List Value} {x : DataW H × List MemPlace} (hl : cs.length = 3) (h : DataW.trod enc Try.prog w base spare held fuel 54 cs = some x) : ∃ (v0 : Value) (v1 : Value) (v2 : Value), cs = [v0, v1, v2] ∧ (∃ n x, DataW.trod enc Try.prog w base spare held n 44 [v0] = some x) ∧ (∃ n x, DataW.trod enc Try.prog w base spare held n 45 [v1] = some x) ∧ (∃ n x, DataW.trod enc Try.prog w base spare held n 52 [v2] = some x) := by
  obtain ⟨ys, n, _, _, _, hyl, hf⟩ := DataW.trod_struct Try.underlying54 h
  match cs, hl with
  | [u0, u1, u2], _ =>
    match ys, hyl with
    | [y0, y1], _ =>
      have q0 : DataW.trod enc Try.prog w base spare held n 47 [u0, u1] = some y0 := fld_of hf (j := 0) rfl rfl rfl co_47
      obtain ⟨a0, a1, e0, t0, t1⟩ := cells_47 rfl q0
      simp only [List.cons.injEq, and_true] at e0
      obtain ⟨rfl, rfl⟩ := e0
      have q1 : DataW.trod enc Try.prog w base spare held n 52 [u2] = some y1 := fld_of hf (j := 1) rfl rfl rfl co_52
      exact ⟨u0, u1, u2, rfl, t0, t1, ⟨_, _, q1⟩⟩

theorem co_54 : Try.prog.cellsOf 54 = 3 := by kernel_rfl

theorem co_28 : Try.prog.cellsOf 28 = 1 := by kernel_rfl

theorem cells_len_54 {fuel : Nat} {v : Value} {x : DataW H × List MemPlace} (h : DataW.trod enc Try.prog w base spare held fuel 54 v.cells.toList = some x) : v.cells.toList.length = 3 := by
  obtain ⟨_, _, _, _, hlen, _, _⟩ := DataW.trod_struct Try.underlying54 h
  rw [hlen]
  exact co_54
instance : Inhabited Bd := ⟨bd0⟩
instance : Inhabited (List Bd × Value) := ⟨([], .slice none 0 0)⟩
theorem rd_bds {fuel : Nat} {v : Value} {x : DataW H × List MemPlace} (h : DataW.trod enc Try.prog w base spare held fuel 28 [v] = some x) : ∃ l : List Bd, Rd w w.heap.size 2 v l.length (bdsC l) ∧ l.length ≤ maxLen := by
  obtain ⟨l, h1, _, h2⟩ := rd_list (f := bdC) (Good := fun _ => True) bdC_len (by omega) Try.underlying28 co_23 (fun _ cs _ hl ht => by
    obtain ⟨a, b, rfl⟩ := cells_23 hl ht
    exact ⟨⟨a, b⟩, rfl, trivial⟩) h
  exact ⟨l, h1, h2⟩
theorem flat_snd {α β : Type} : ∀ l : List (α × β), l.flatMap (fun p => [p.2]) = l.map Prod.snd
  | [] => rfl
  | (a, b) :: l => by simp [flat_snd l]
theorem rd_sides {fuel : Nat} {v : Value} {x : DataW H × List MemPlace} (h : DataW.trod enc Try.prog w base spare held fuel 52 [v] = some x) : ∃ (l : List (List Bd)) (vs : List Value), RdSides w w.heap.size v l vs ∧ l.length ≤ maxLen ∧ ∀ i, i < l.length → (l.getD i []).length ≤ maxLen := by
  obtain ⟨l, h1, h3, h2⟩ := rd_list (α := List Bd × Value) (s := 1) (f := fun p => [p.2]) (Good := fun p => Rd w w.heap.size 2 p.2 p.1.length (bdsC p.1) ∧ p.1.length ≤ maxLen) (fun _ => rfl) (by omega) Try.underlying52 co_28 (fun _ cs _ hl ht => by
    match cs, hl with
    | [u], _ =>
      obtain ⟨l, h1, h2⟩ := rd_bds ht
      exact ⟨(l, u), rfl, h1, h2⟩) h
  rw [flat_snd] at h1
  refine ⟨l.map Prod.fst, l.map Prod.snd, ⟨by simp, by simpa using h1, fun i hi => ?_⟩, by simpa using h2, fun i hi => ?_⟩
  · have hi' : i < l.length := by simpa using hi
    have e1 : (l.map Prod.fst).getD i [] = l[i].1 := by simp [hi']
    have e2 : (l.map Prod.snd).getD i undef = l[i].2 := by simp [hi']
    rw [e1, e2]
    exact (h3 _ (List.getElem_mem hi')).1
  · have hi' : i < l.length := by simpa using hi
    have e1 : (l.map Prod.fst).getD i [] = l[i].1 := by simp [hi']
    rw [e1]
    exact (h3 _ (List.getElem_mem hi')).2
theorem forecast_of {v : Value} {d : DataW H} {p : List MemPlace} (h : DataW.Trod enc Try.prog w base spare held 54 v d p) : ∃ (r : River) (sides : List (List Bd)) (a b s : Value) (vs ss : List Value), v = .agg #[a, b, s] ∧ RdRiver w w.heap.size a b r vs ∧ RdSides w w.heap.size s sides ss ∧ r.reaches.length ≤ maxLen ∧ r.shoals.length ≤ maxLen ∧ sides.length ≤ maxLen := by
  obtain ⟨fuel, hf⟩ := h
  obtain ⟨a, b, c, he, ⟨_, _, ha⟩, ⟨_, _, hb⟩, _, _, hc⟩ := cells_54 (cells_len_54 hf) hf
  obtain ⟨l, vs, h1, h2, _⟩ := rd_reaches ha
  obtain ⟨l1, h3, h4⟩ := rd_shoals hb
  obtain ⟨l2, ss, h5, h6, _⟩ := rd_sides hc
  refine ⟨⟨l, l1⟩, l2, a, b, c, vs, ss, ?_, ⟨h1, h3⟩, h5, h2, h4, h6⟩
  cases v with
  | agg cs =>
    have : cs = #[a, b, c] := by
      apply Array.ext'
      simpa [Value.cells] using he
    rw [this]
  | _ => simp [Value.cells] at he
end
end Go.Proofs.Ytncnlhkmdljgpaa
