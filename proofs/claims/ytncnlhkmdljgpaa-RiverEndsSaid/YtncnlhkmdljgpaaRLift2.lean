/- Rivers, reaches and bounds, out of arguments (printed by gen_rlift2.py). -/
import Derived.Test.YtncnlhkmdljgpaaRLift
import Derived.Test.YtncnlhkmdljgpaaW7
namespace Go.Proofs.Ytncnlhkmdljgpaa
open Go Go.ChangeShapes Go.WideShapes Go.Deep Go.RowKit Go.Joins

section
variable {H : Type} {enc : TypeId × Value → H} {w : World} {base : Nat} {spare : Nat → Bool} {held : Bool}

set_option maxRecDepth 100000 in
theorem cells_126 {fuel : Nat} {cs : List Value} {x : DataW H × List MemPlace} (hl : cs.length = 2) (h : DataW.trod enc Try.prog w base spare held fuel 126 cs = some x) : ∃ (z0 : Int) (z1 : Int), cs = [.int .i64 z0, .int .i64 z1] := by
  obtain ⟨ys, n, _, _, _, hyl, hf⟩ := DataW.trod_struct Try.underlying126 h
  match cs, hl with
  | [u0, u1], _ =>
    match ys, hyl with
    | [y0, y1], _ =>
      have q0 : DataW.trod enc Try.prog w base spare held n 3 [u0] = some y0 := fld_of hf (j := 0) rfl rfl rfl co_3
      obtain ⟨z0, hz0, _, _⟩ := DataW.trod_int Try.underlying3 q0
      injection hz0 with hz0
      subst hz0
      have q1 : DataW.trod enc Try.prog w base spare held n 3 [u1] = some y1 := fld_of hf (j := 1) rfl rfl rfl co_3
      obtain ⟨z1, hz1, _, _⟩ := DataW.trod_int Try.underlying3 q1
      injection hz1 with hz1
      subst hz1
      exact ⟨z0, z1, rfl⟩

theorem co_126 : Try.prog.cellsOf 126 = 2 := by kernel_rfl

theorem co_48 : Try.prog.cellsOf 48 = 1 := by kernel_rfl

set_option maxRecDepth 100000 in
theorem cells_50 {fuel : Nat} {cs : List Value} {x : DataW H × List MemPlace} (hl : cs.length = 9) (h : DataW.trod enc Try.prog w base spare held fuel 50 cs = some x) : ∃ (z0 : Int) (z1 : Int) (z2 : Int) (z3 : Int) (v4 : Value) (z5 : Int) (z6 : Int) (z7 : Int) (z8 : Int), cs = [.int .i64 z0, .int .i64 z1, .int .i64 z2, .int .i64 z3, v4, .int .i64 z5, .int .i64 z6, .int .i64 z7, .int .i64 z8] ∧ (∃ n x, DataW.trod enc Try.prog w base spare held n 48 [v4] = some x) := by
  obtain ⟨ys, n, _, _, _, hyl, hf⟩ := DataW.trod_struct Try.underlying50 h
  match cs, hl with
  | [u0, u1, u2, u3, u4, u5, u6, u7, u8], _ =>
    match ys, hyl with
    | [y0, y1, y2, y3, y4, y5, y6], _ =>
      have q0 : DataW.trod enc Try.prog w base spare held n 3 [u0] = some y0 := fld_of hf (j := 0) rfl rfl rfl co_3
      obtain ⟨z0, hz0, _, _⟩ := DataW.trod_int Try.underlying3 q0
      injection hz0 with hz0
      subst hz0
      have q1 : DataW.trod enc Try.prog w base spare held n 3 [u1] = some y1 := fld_of hf (j := 1) rfl rfl rfl co_3
      obtain ⟨z1, hz1, _, _⟩ := DataW.trod_int Try.underlying3 q1
      injection hz1 with hz1
      subst hz1
      have q2 : DataW.trod enc Try.prog w base spare held n 23 [u2, u3] = some y2 := fld_of hf (j := 2) rfl rfl rfl co_23
      obtain ⟨a2, a3, e2⟩ := cells_23 rfl q2
      simp only [List.cons.injEq, and_true] at e2
      obtain ⟨rfl, rfl⟩ := e2
      have q3 : DataW.trod enc Try.prog w base spare held n 48 [u4] = some y3 := fld_of hf (j := 3) rfl rfl rfl co_48
      have q4 : DataW.trod enc Try.prog w base spare held n 3 [u5] = some y4 := fld_of hf (j := 4) rfl rfl rfl co_3
      obtain ⟨z5, hz5, _, _⟩ := DataW.trod_int Try.underlying3 q4
      injection hz5 with hz5
      subst hz5
      have q5 : DataW.trod enc Try.prog w base spare held n 23 [u6, u7] = some y5 := fld_of hf (j := 5) rfl rfl rfl co_23
      obtain ⟨a6, a7, e5⟩ := cells_23 rfl q5
      simp only [List.cons.injEq, and_true] at e5
      obtain ⟨rfl, rfl⟩ := e5
      have q6 : DataW.trod enc Try.prog w base spare held n 3 [u8] = some y6 := fld_of hf (j := 6) rfl rfl rfl co_3
      obtain ⟨z8, hz8, _, _⟩ := DataW.trod_int Try.underlying3 q6
      injection hz8 with hz8
      subst hz8
      exact ⟨z0, z1, a2, a3, u4, z5, a6, a7, z8, rfl, ⟨_, _, q3⟩⟩

theorem co_50 : Try.prog.cellsOf 50 = 9 := by kernel_rfl

set_option maxRecDepth 100000 in
theorem cells_97 {fuel : Nat} {cs : List Value} {x : DataW H × List MemPlace} (hl : cs.length = 6) (h : DataW.trod enc Try.prog w base spare held fuel 97 cs = some x) : ∃ (z0 : Int) (z1 : Int) (z2 : Int) (z3 : Int) (z4 : Int) (z5 : Int), cs = [.int .i64 z0, .int .i64 z1, .int .i64 z2, .int .i64 z3, .int .i64 z4, .int .i64 z5] := by
  obtain ⟨ys, n, _, _, _, hyl, hf⟩ := DataW.trod_struct Try.underlying97 h
  match cs, hl with
  | [u0, u1, u2, u3, u4, u5], _ =>
    match ys, hyl with
    | [y0, y1, y2, y3], _ =>
      have q0 : DataW.trod enc Try.prog w base spare held n 3 [u0] = some y0 := fld_of hf (j := 0) rfl rfl rfl co_3
      obtain ⟨z0, hz0, _, _⟩ := DataW.trod_int Try.underlying3 q0
      injection hz0 with hz0
      subst hz0
      have q1 : DataW.trod enc Try.prog w base spare held n 23 [u1, u2] = some y1 := fld_of hf (j := 1) rfl rfl rfl co_23
      obtain ⟨a1, a2, e1⟩ := cells_23 rfl q1
      simp only [List.cons.injEq, and_true] at e1
      obtain ⟨rfl, rfl⟩ := e1
      have q2 : DataW.trod enc Try.prog w base spare held n 3 [u3] = some y2 := fld_of hf (j := 2) rfl rfl rfl co_3
      obtain ⟨z3, hz3, _, _⟩ := DataW.trod_int Try.underlying3 q2
      injection hz3 with hz3
      subst hz3
      have q3 : DataW.trod enc Try.prog w base spare held n 23 [u4, u5] = some y3 := fld_of hf (j := 3) rfl rfl rfl co_23
      obtain ⟨a4, a5, e3⟩ := cells_23 rfl q3
      simp only [List.cons.injEq, and_true] at e3
      obtain ⟨rfl, rfl⟩ := e3
      exact ⟨z0, a1, a2, z3, a4, a5, rfl⟩

theorem co_97 : Try.prog.cellsOf 97 = 6 := by kernel_rfl

theorem co_44 : Try.prog.cellsOf 44 = 1 := by kernel_rfl

theorem co_45 : Try.prog.cellsOf 45 = 1 := by kernel_rfl

set_option maxRecDepth 100000 in
theorem cells_47 {fuel : Nat} {cs : List Value} {x : DataW H × List MemPlace} (hl : cs.length = 2) (h : DataW.trod enc Try.prog w base spare held fuel 47 cs = some x) : ∃ (v0 : Value) (v1 : Value), cs = [v0, v1] ∧ (∃ n x, DataW.trod enc Try.prog w base spare held n 44 [v0] = some x) ∧ (∃ n x, DataW.trod enc Try.prog w base spare held n 45 [v1] = some x) := by
  obtain ⟨ys, n, _, _, _, hyl, hf⟩ := DataW.trod_struct Try.underlying47 h
  match cs, hl with
  | [u0, u1], _ =>
    match ys, hyl with
    | [y0, y1], _ =>
      have q0 : DataW.trod enc Try.prog w base spare held n 44 [u0] = some y0 := fld_of hf (j := 0) rfl rfl rfl co_44
      have q1 : DataW.trod enc Try.prog w base spare held n 45 [u1] = some y1 := fld_of hf (j := 1) rfl rfl rfl co_45
      exact ⟨u0, u1, rfl, ⟨_, _, q0⟩, ⟨_, _, q1⟩⟩

theorem co_47 : Try.prog.cellsOf 47 = 2 := by kernel_rfl

theorem cells_len_23 {fuel : Nat} {v : Value} {x : DataW H × List MemPlace} (h : DataW.trod enc Try.prog w base spare held fuel 23 v.cells.toList = some x) : v.cells.toList.length = 2 := by
  obtain ⟨_, _, _, _, hlen, _, _⟩ := DataW.trod_struct Try.underlying23 h
  rw [hlen]
  exact co_23

theorem cells_len_50 {fuel : Nat} {v : Value} {x : DataW H × List MemPlace} (h : DataW.trod enc Try.prog w base spare held fuel 50 v.cells.toList = some x) : v.cells.toList.length = 9 := by
  obtain ⟨_, _, _, _, hlen, _, _⟩ := DataW.trod_struct Try.underlying50 h
  rw [hlen]
  exact co_50

theorem cells_len_47 {fuel : Nat} {v : Value} {x : DataW H × List MemPlace} (h : DataW.trod enc Try.prog w base spare held fuel 47 v.cells.toList = some x) : v.cells.toList.length = 2 := by
  obtain ⟨_, _, _, _, hlen, _, _⟩ := DataW.trod_struct Try.underlying47 h
  rw [hlen]
  exact co_47

instance : Inhabited Row := ⟨row0⟩
instance : Inhabited Shoal := ⟨shoal0⟩
instance : Inhabited (Reach × Value) := ⟨(reach0, .slice none 0 0)⟩
theorem rd_rows {fuel : Nat} {v : Value} {x : DataW H × List MemPlace} (h : DataW.trod enc Try.prog w base spare held fuel 48 [v] = some x) : ∃ l : List Row, Rd w w.heap.size 2 v l.length (rowsC l) ∧ l.length ≤ maxLen := by
  obtain ⟨l, h1, _, h2⟩ := rd_list (f := rowC) (Good := fun _ => True) rowC_len (by omega) Try.underlying48 co_126 (fun _ cs _ hl ht => by
    obtain ⟨a, b, rfl⟩ := cells_126 hl ht
    exact ⟨⟨a, b⟩, rfl, trivial⟩) h
  exact ⟨l, h1, h2⟩
theorem rd_shoals {fuel : Nat} {v : Value} {x : DataW H × List MemPlace} (h : DataW.trod enc Try.prog w base spare held fuel 45 [v] = some x) : ∃ l : List Shoal, Rd w w.heap.size 6 v l.length (shoalsC l) ∧ l.length ≤ maxLen := by
  obtain ⟨l, h1, _, h2⟩ := rd_list (f := shoalC) (Good := fun _ => True) shoalC_len (by omega) Try.underlying45 co_97 (fun _ cs _ hl ht => by
    obtain ⟨a, b, c, d, e, f, rfl⟩ := cells_97 hl ht
    exact ⟨{ place := a, bed := ⟨b, c⟩, sounded := d, grow := ⟨e, f⟩ }, rfl, trivial⟩) h
  exact ⟨l, h1, h2⟩
theorem zip_fst_snd {α β : Type} : ∀ l : List (α × β), (l.map Prod.fst).zip (l.map Prod.snd) = l
  | [] => rfl
  | (a, b) :: l => by simp [zip_fst_snd l]
theorem rd_reaches {fuel : Nat} {v : Value} {x : DataW H × List MemPlace} (h : DataW.trod enc Try.prog w base spare held fuel 44 [v] = some x) : ∃ (l : List Reach) (vs : List Value), RdReaches w w.heap.size v l vs ∧ l.length ≤ maxLen ∧ ∀ i, i < l.length → (l.getD i reach0).curve.length ≤ maxLen := by
  obtain ⟨l, h1, h3, h2⟩ := rd_list (f := reachC) (Good := fun p => Rd w w.heap.size 2 p.2 p.1.curve.length (rowsC p.1.curve) ∧ p.1.curve.length ≤ maxLen) (fun _ => rfl) (by omega) Try.underlying44 co_50 (fun _ cs _ hl ht => by
    obtain ⟨a, b, c, d, e, f, g, h, i, rfl, n, y, hc⟩ := cells_50 hl ht
    obtain ⟨l, h1, h2⟩ := rd_rows hc
    exact ⟨({ len := a, delay := b, base := ⟨c, d⟩, curve := l, weir := f, bottom := ⟨g, h⟩, flood := i }, e), rfl, h1, h2⟩) h
  refine ⟨l.map Prod.fst, l.map Prod.snd, ⟨by simp, ?_, fun i hi => ?_⟩, by simpa using h2, fun i hi => ?_⟩
  · rw [zip_fst_snd, List.length_map]; exact h1
  · have hi' : i < l.length := by simpa using hi
    have e1 : (l.map Prod.fst).getD i reach0 = l[i].1 := by simp [hi']
    have e2 : (l.map Prod.snd).getD i undef = l[i].2 := by simp [hi']
    rw [e1, e2]
    exact (h3 _ (List.getElem_mem hi')).1
  · have hi' : i < l.length := by simpa using hi
    have e1 : (l.map Prod.fst).getD i reach0 = l[i].1 := by simp [hi']
    rw [e1]
    exact (h3 _ (List.getElem_mem hi')).2
theorem bd_of {v : Value} {d : DataW H} {p : List MemPlace} (h : DataW.Trod enc Try.prog w base spare held 23 v d p) : ∃ b : Bd, v = .agg #[.int .i64 b.lo, .int .i64 b.hi] := by
  obtain ⟨fuel, hf⟩ := h
  obtain ⟨a, b, he⟩ := cells_23 (cells_len_23 hf) hf
  refine ⟨⟨a, b⟩, ?_⟩
  cases v with
  | agg cs =>
    have : cs = #[.int .i64 a, .int .i64 b] := by
      apply Array.ext'
      simpa [Value.cells] using he
    rw [this]
  | _ => simp [Value.cells] at he

theorem reach_of {v : Value} {d : DataW H} {p : List MemPlace} (h : DataW.Trod enc Try.prog w base spare held 50 v d p) : ∃ (x : Reach) (vx : Value), v = .agg (reachV x vx) ∧ Rd w w.heap.size 2 vx x.curve.length (rowsC x.curve) ∧ x.curve.length ≤ maxLen := by
  obtain ⟨fuel, hf⟩ := h
  obtain ⟨a, b, c, d, e, f, g, h, i, he, n, y, hc⟩ := cells_50 (cells_len_50 hf) hf
  obtain ⟨l, h1, h2⟩ := rd_rows hc
  refine ⟨{ len := a, delay := b, base := ⟨c, d⟩, curve := l, weir := f, bottom := ⟨g, h⟩, flood := i }, e, ?_, h1, h2⟩
  cases v with
  | agg cs =>
    have : cs = #[.int .i64 a, .int .i64 b, .int .i64 c, .int .i64 d, e, .int .i64 f, .int .i64 g, .int .i64 h, .int .i64 i] := by
      apply Array.ext'
      simpa [Value.cells] using he
    rw [this]
    rfl
  | _ => simp [Value.cells] at he

theorem river_of {v : Value} {d : DataW H} {p : List MemPlace} (h : DataW.Trod enc Try.prog w base spare held 47 v d p) : ∃ (r : River) (a b : Value) (vs : List Value), v = .agg #[a, b] ∧ RdRiver w w.heap.size a b r vs ∧ r.reaches.length ≤ maxLen ∧ r.shoals.length ≤ maxLen := by
  obtain ⟨fuel, hf⟩ := h
  obtain ⟨a, b, he, ⟨n, y, hc⟩, m, z, hd⟩ := cells_47 (cells_len_47 hf) hf
  obtain ⟨l, vs, h1, h2, _⟩ := rd_reaches hc
  obtain ⟨l', h3, h4⟩ := rd_shoals hd
  refine ⟨⟨l, l'⟩, a, b, vs, ?_, ⟨h1, h3⟩, h2, h4⟩
  cases v with
  | agg cs =>
    have : cs = #[a, b] := by
      apply Array.ext'
      simpa [Value.cells] using he
    rw [this]
  | _ => simp [Value.cells] at he

end
end Go.Proofs.Ytncnlhkmdljgpaa
