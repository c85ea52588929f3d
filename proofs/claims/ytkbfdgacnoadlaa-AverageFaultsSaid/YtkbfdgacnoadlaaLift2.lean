/- From arguments that are slices of structs of integers, or rows of integers of any kind, to the words of the walks. -/
import Derived.Test.YtkbfdgacnoadlaaLift
import Derived.Test.YtkbfdgacnoadlaaTankMath
import Derived.Test.YtkbfdgacnoadlaaDuesMath
import Derived.Deep.Slices
import Derived.Deep.Fields
import Derived.ChangeSame
import Derived.Lib.SmallJoins
import Derived.OpenShut
import Derived.ShutString
import Derived.ChangeOld
namespace Go.Proofs.Ytkbfdgacnoadlaa
open Go.ChangeShapes Go.WideShapes Go.Deep Go.RowKit Go.Joins

section
variable {H : Type} {enc : TypeId × Value → H} {P : Program} {w : World} {base : Nat} {spare : Nat → Bool} {held : Bool}
/-- a slice of structs of one-cell fields, opened to its cells (the guide's extra-structs) -/
theorem open_slice_fields {t e : TypeId} {fs : Array Field} {fuel : Nat} {cs : List Value} {x : DataW H × List MemPlace} (ht : P.underlying t = some (.slice e)) (he : P.underlying e = some (.struct fs))
    (hone : oneCellFields P fs = true) (hC : P.cellsOf e = fs.size) (h : DataW.trod enc P w base spare held fuel t cs = some x) :
    (cs = [.slice none 0 0] ∧ x = (.nil, [])) ∨
    ∃ (a : Addr) (len cap m : Nat) (D : Nat → DataW H) (Pl : Nat → List MemPlace), cs = [.slice (some a) len cap] ∧ base ≤ a.block ∧ len ≤ cap ∧ cap ≤ maxLen ∧ m = (if spare a.block then cap else len) ∧
      x = (.slice ((List.range len).map D) ((List.range (m - len)).map fun j => D (len + j)), MemPlace.row a (m * fs.size) ++ (List.range m).flatMap Pl) ∧
      ∀ i, i < m → ∃ (ys : List (DataW H × List MemPlace)) (n : Nat), D i = .agg (ys.map (·.1)) ∧ Pl i = ys.flatMap (·.2) ∧ ys.length = fs.size ∧
        ∀ (j : Nat) (f : Field), fs[j]? = some f → ∃ (v : Value) (y : DataW H × List MemPlace), w.cell? (a.add (i * fs.size + j)) = some v ∧ ys[j]? = some y ∧ DataW.trod enc P w base spare held n f.type [v] = some y := by
  rcases open_slice ht h with h0 | ⟨a, len, cap, m, n, D, Pl, hcs, hb, hl, hm, hmm, hx, hi⟩
  · exact .inl h0
  · refine .inr ⟨a, len, cap, m, D, Pl, hcs, hb, hl, hm, hmm, by rw [hC] at hx; exact hx, fun i him => ?_⟩
    obtain ⟨cs', hc, ht'⟩ := hi i him
    rw [hC] at hc
    obtain ⟨ys, n', hn', hy, hlen, hyl, hf⟩ := DataW.trod_struct he ht'
    obtain ⟨_, hcl, hat⟩ := World.cells?_some hc
    simp only [Prod.mk.injEq] at hy
    refine ⟨ys, n', hy.1, hy.2, hyl, fun j f hj => ?_⟩
    obtain ⟨ho, hk⟩ := hone_of hone j f hj
    have hjl : j < fs.size := (Array.getElem?_eq_some_iff.1 hj).1
    have hcell := hat j hjl
    have hv : cs'[j]? = some (cs'[j]'(by omega)) := List.getElem?_eq_getElem (by omega)
    have h1 := hf j f hj
    rw [ho, hk] at h1
    have hone' : (cs'.drop j).take 1 = [cs'[j]'(by omega)] := by
      rw [List.drop_eq_getElem_cons (by omega)]
      rfl
    rw [hone'] at h1
    have hys : ys[j]? = some (ys[j]'(by omega)) := List.getElem?_eq_getElem (by omega)
    refine ⟨_, _, ?_, hys, h1.trans hys⟩
    rw [← Go.Deep.add_add, hcell, hv]

/-- rows of cells, one behind the other -/
theorem rd_of_cells {b off n c s : Nat} {B : Nat} (row : Nat → List Value) (hlen : ∀ i, (row i).length = s) (hs : 0 < s) (hB : b < B) (hnc : n ≤ c)
    (hcell : ∀ i, i < n → ∀ j u, (row i)[j]? = some u → w.cell? ⟨b, off + (i * s + j), none⟩ = some u) :
    Rd w B s (.slice (some ⟨b, off, none⟩) n c) n ((List.range n).flatMap row) := by
  refine ⟨by rw [flat_len hlen, List.length_range], _, _, rfl, hnc, fun _ => ⟨b, off, rfl, hB, fun q u hu => ?_⟩⟩
  have hq : q < n * s := by
    have := (List.getElem?_eq_some_iff.1 hu).1
    rwa [flat_len hlen, List.length_range] at this
  have hk : q / s < n := by
    rw [Nat.div_lt_iff_lt_mul hs]
    exact hq
  have e : q = q / s * s + q % s := by rw [Nat.mul_comm]; exact (Nat.div_add_mod q s).symm
  have hg := flat_get hlen (List.range n) (q / s) (by simpa using hk) (q % s) (Nat.mod_lt _ hs)
  rw [← e, List.getElem_range] at hg
  rw [hg] at hu
  have := hcell (q / s) hk (q % s) u hu
  rwa [← e] at this

/-- the integer in a cell -/
def cellI (w : World) (p : Addr) : Int := match w.cell? p with
  | some (.int _ z) => z
  | _ => 0

theorem add_lit_more (x : Addr) (n : Nat) (h : x.spot = none) : x.add n = ⟨x.block, x.off + n, none⟩ := by
  obtain ⟨b, o, s⟩ := x
  subst h
  rw [Addr.add_lit]

theorem rd_of_structs {t e : TypeId} {fs : Array Field} {a : Option Addr} {len cap : Nat} {d : DataW H} {p : List MemPlace} (ht : P.underlying t = some (.slice e)) (he : P.underlying e = some (.struct fs))
    (hone : oneCellFields P fs = true) (hC : P.cellsOf e = fs.size) (hs : 0 < fs.size) (hints : ∀ (j : Nat) (f : Field), fs[j]? = some f → P.underlying f.type = some (.int .i64)) (h : DataW.Trod enc P w base spare held t (.slice a len cap) d p) :
    ∃ f : Nat → Nat → Int, Rd w w.heap.size fs.size (.slice a len cap) len ((List.range len).flatMap fun i => (List.range fs.size).map fun j => Value.int .i64 (f i j)) ∧ ∀ i, i < len → ∀ j, j < fs.size → (Lit.int .i64 (f i j)).wf = true := by
  obtain ⟨fuel, hf⟩ := h
  rcases open_slice_fields ht he hone hC hf with ⟨hcs, _⟩ | ⟨x, l, c, m, D, Pl, hcs, _, hl, _, hm, _, hi⟩
  · simp [Value.cells] at hcs
    obtain ⟨rfl, rfl, rfl⟩ := hcs
    exact ⟨fun _ _ => 0, Rd.nil_ _ _ _, fun i hi => absurd hi (by omega)⟩
  · simp [Value.cells] at hcs
    obtain ⟨rfl, rfl, rfl⟩ := hcs
    have hcell : ∀ i, i < len → ∀ j, j < fs.size → ∃ z, w.cell? (x.add (i * fs.size + j)) = some (.int .i64 z) ∧ (Lit.int .i64 z).wf = true := by
      intro i hi' j hj
      obtain ⟨ys, n, _, _, _, hfld⟩ := hi i (by rw [hm]; split <;> omega)
      obtain ⟨v, y, hc, _, ht'⟩ := hfld j fs[j] (Array.getElem?_eq_getElem hj)
      obtain ⟨z, hv, _, hw⟩ := DataW.trod_int (hints j _ (Array.getElem?_eq_getElem hj)) ht'
      injection hv with hv
      subst hv
      exact ⟨z, hc, hw⟩
    refine ⟨fun i j => cellI w (x.add (i * fs.size + j)), ?_, fun i hi' j hj => ?_⟩
    · rcases Nat.eq_zero_or_pos len with h0 | h0
      · subst h0
        exact ⟨by simp, _, _, rfl, hl, fun h => absurd h (by omega)⟩
      · obtain ⟨z, hz, _⟩ := hcell 0 h0 0 hs
        obtain ⟨hsp, hb⟩ := cell_spot hz
        have e0 : x.add (0 * fs.size + 0) = x := by simp [Addr.add]
        rw [e0] at hsp hb
        have hx : x = ⟨x.block, x.off, none⟩ := by obtain ⟨b, o, s⟩ := x; subst hsp; rfl
        rw [hx]
        refine rd_of_cells _ (fun i => by simp) hs hb hl fun i hi' j u hu => ?_
        have hj : j < fs.size := by
          have := (List.getElem?_eq_some_iff.1 hu).1
          simpa using this
        obtain ⟨z, hz, _⟩ := hcell i hi' j hj
        have hz' := hz
        rw [add_lit_more _ _ hsp] at hz'
        rw [hz']
        simp [hj] at hu
        rw [← hu, cellI, ← hx, hz]
    · obtain ⟨z, hz, hw⟩ := hcell i hi' j hj
      show (Lit.int .i64 (cellI w (x.add (i * fs.size + j)))).wf = true
      rw [cellI, hz]
      exact hw

/-- a row of integers of any kind -/
theorem rd_of_ints {t e : TypeId} {k : IntKind} {a : Option Addr} {len cap : Nat} {d : DataW H} {p : List MemPlace} (ht : P.underlying t = some (.slice e)) (he : P.underlying e = some (.int k)) (hC : P.cellsOf e = 1)
    (h : DataW.Trod enc P w base spare held t (.slice a len cap) d p) :
    ∃ l : List Int, len = l.length ∧ Rd w w.heap.size 1 (.slice a len cap) len (l.map (Value.int k)) ∧ (∀ n ∈ l, (Lit.int k n).wf = true) ∧ len ≤ maxLen := by
  obtain ⟨fuel, hf⟩ := h
  rcases open_ints ht he hC hf with ⟨hcs, _⟩ | ⟨x, l, c, zs, hcs, _, hl, hm, hz, _, hcell, hwf⟩
  · simp [Value.cells] at hcs
    obtain ⟨rfl, rfl, rfl⟩ := hcs
    exact ⟨[], rfl, Rd.nil_ _ _ _, by simp, Nat.zero_le _⟩
  · simp [Value.cells] at hcs
    obtain ⟨rfl, rfl, rfl⟩ := hcs
    have hz' : len ≤ zs.length := by
      rw [hz]
      split <;> omega
    refine ⟨zs.take len, by simp; omega, ⟨by simp; omega, _, _, rfl, hl, fun hn => ?_⟩, fun n hn => hwf n (List.mem_of_mem_take hn), Nat.le_trans hl hm⟩
    have h0 := hcell 0 (by omega)
    obtain ⟨hs, hb⟩ := cell_spot h0
    have e0 : x.add 0 = x := by simp [Addr.add]
    rw [e0] at hs hb
    obtain ⟨b, off, spot⟩ := x
    subst hs
    refine ⟨b, off, rfl, hb, fun j u hu => ?_⟩
    have hj : j < len := by
      have := (List.getElem?_eq_some_iff.1 hu).1
      simp at this
      omega
    have hc := hcell j (by omega)
    rw [Addr.add_lit] at hc
    rw [hc]
    simp [hj] at hu
    obtain ⟨z, hz1, rfl⟩ := hu
    simp [List.getD, hz1]
end

theorem wf_bd {k : IntKind} {n : Int} (h : (Lit.int k n).wf = true) : k.min ≤ n ∧ n ≤ k.max := by
  simpa [Lit.wf] using h
theorem wf_bd8 {n : Int} (h : (Lit.int .u8 n).wf = true) : 0 ≤ n ∧ n ≤ 255 := wf_bd h
theorem wf_bd16 {n : Int} (h : (Lit.int .u16 n).wf = true) : 0 ≤ n ∧ n ≤ 65535 := wf_bd h
theorem wf_bd32 {n : Int} (h : (Lit.int .u32 n).wf = true) : 0 ≤ n ∧ n ≤ 4294967295 := wf_bd h
theorem wf_bd64 {n : Int} (h : (Lit.int .i64 n).wf = true) : -9223372036854775808 ≤ n ∧ n ≤ 9223372036854775807 := wf_bd h

/-- notes, passes, bunkers out of their numbers -/
theorem notes_of (f : Nat → Nat → Int) (n : Nat) : ((List.range n).flatMap fun i => (List.range 3).map fun j => Value.int .i64 (f i j)) = notesV ((List.range n).map fun i => ⟨f i 0, f i 1, f i 2⟩) := by
  rw [notesV, List.flatMap_map]; rfl
theorem passes_of (f : Nat → Nat → Int) (n : Nat) : ((List.range n).flatMap fun i => (List.range 3).map fun j => Value.int .i64 (f i j)) = passesV ((List.range n).map fun i => ⟨f i 0, f i 1, f i 2⟩) := by
  rw [passesV, List.flatMap_map]; rfl
theorem bunkers_of (f : Nat → Nat → Int) (n : Nat) : ((List.range n).flatMap fun i => (List.range 2).map fun j => Value.int .i64 (f i j)) = bksV ((List.range n).map fun i => ⟨f i 0, f i 1⟩) := by
  rw [bksV, List.flatMap_map]; rfl

section
variable {H : Type} {enc : TypeId × Value → H} {w : World} {base : Nat} {spare : Nat → Bool} {held : Bool} {a : Option Addr} {len cap : Nat} {d : DataW H} {p : List MemPlace}
theorem rd_notes {P : Program} {f0 f1 f2 : Field} {t e : TypeId} (ht : P.underlying t = some (.slice e)) (he : P.underlying e = some (.struct #[f0, f1, f2])) (hone : oneCellFields P #[f0, f1, f2] = true) (hC : P.cellsOf e = 3)
    (h0 : P.underlying f0.type = some (.int .i64)) (h1 : P.underlying f1.type = some (.int .i64)) (h2 : P.underlying f2.type = some (.int .i64)) (h : DataW.Trod enc P w base spare held t (.slice a len cap) d p) :
    ∃ l : List Nt, len = l.length ∧ Rd w w.heap.size 3 (.slice a len cap) len (notesV l) ∧ ∀ x ∈ l, (Lit.int .i64 x.k).wf = true ∧ (Lit.int .i64 x.i).wf = true ∧ (Lit.int .i64 x.a).wf = true := by
  obtain ⟨f, hr, hw⟩ := rd_of_structs ht he hone hC (by simp) (fun j g hj => by
    match j, hj with
    | 0, hj => injection hj with hj; subst hj; exact h0
    | 1, hj => injection hj with hj; subst hj; exact h1
    | 2, hj => injection hj with hj; subst hj; exact h2
    | j + 3, hj => simp at hj) h
  refine ⟨(List.range len).map fun i => ⟨f i 0, f i 1, f i 2⟩, by simp, ?_, fun x hx => ?_⟩
  · rw [← notes_of]
    exact hr
  · obtain ⟨i, hi, rfl⟩ := List.mem_map.1 hx
    have hi' : i < len := by simpa using hi
    exact ⟨hw i hi' 0 (by simp), hw i hi' 1 (by simp), hw i hi' 2 (by simp)⟩
theorem rd_passes {P : Program} {f0 f1 f2 : Field} {t e : TypeId} (ht : P.underlying t = some (.slice e)) (he : P.underlying e = some (.struct #[f0, f1, f2])) (hone : oneCellFields P #[f0, f1, f2] = true) (hC : P.cellsOf e = 3)
    (h0 : P.underlying f0.type = some (.int .i64)) (h1 : P.underlying f1.type = some (.int .i64)) (h2 : P.underlying f2.type = some (.int .i64)) (h : DataW.Trod enc P w base spare held t (.slice a len cap) d p) :
    ∃ l : List Ps, len = l.length ∧ Rd w w.heap.size 3 (.slice a len cap) len (passesV l) := by
  obtain ⟨f, hr, hw⟩ := rd_of_structs ht he hone hC (by simp) (fun j g hj => by
    match j, hj with
    | 0, hj => injection hj with hj; subst hj; exact h0
    | 1, hj => injection hj with hj; subst hj; exact h1
    | 2, hj => injection hj with hj; subst hj; exact h2
    | j + 3, hj => simp at hj) h
  refine ⟨(List.range len).map fun i => ⟨f i 0, f i 1, f i 2⟩, by simp, ?_⟩
  rw [← passes_of]
  exact hr
end
end Go.Proofs.Ytkbfdgacnoadlaa
