/- Words for a river that is read: reaches with their curves, shoals, lists of bounds. -/
import Derived.Test.YtfgfenmaommclaaRivMath2
import Derived.Test.YtfgfenmaommclaaFlat
import Derived.Test.YtfgfenmaommclaaBase6
namespace Go.Proofs.Ytfgfenmaommclaa
open Go.RowKit

def bdC (b : Bd) : List Value := [.int .i64 b.lo, .int .i64 b.hi]
def bdsC (l : List Bd) : List Value := l.flatMap bdC
def rowC (r : Row) : List Value := [.int .i64 r.flow, .int .i64 r.level]
def rowsC (l : List Row) : List Value := l.flatMap rowC
def reachC (p : Reach × Value) : List Value := [.int .i64 p.1.len, .int .i64 p.1.delay, .int .i64 p.1.base.lo, .int .i64 p.1.base.hi, p.2, .int .i64 p.1.weir, .int .i64 p.1.bottom.lo, .int .i64 p.1.bottom.hi, .int .i64 p.1.flood]
def shoalC (s : Shoal) : List Value := [.int .i64 s.place, .int .i64 s.bed.lo, .int .i64 s.bed.hi, .int .i64 s.sounded, .int .i64 s.grow.lo, .int .i64 s.grow.hi]
def shoalsC (l : List Shoal) : List Value := l.flatMap shoalC
theorem bdC_len (b : Bd) : (bdC b).length = 2 := rfl
theorem rowC_len (b : Row) : (rowC b).length = 2 := rfl
theorem reachC_len (p : Reach × Value) : (reachC p).length = 9 := rfl
theorem shoalC_len (s : Shoal) : (shoalC s).length = 6 := rfl
theorem bdsC_len (l : List Bd) : (bdsC l).length = l.length * 2 := flat_len bdC_len l
theorem rowsC_len (l : List Row) : (rowsC l).length = l.length * 2 := flat_len rowC_len l
theorem shoalsC_len (l : List Shoal) : (shoalsC l).length = l.length * 6 := flat_len shoalC_len l
theorem bdsC_one (l : List Bd) : ∀ u ∈ bdsC l, u.oneCell' = true := flat_one (by intro x u hu; simp [bdC] at hu; rcases hu with rfl | rfl <;> rfl) l
theorem rowsC_one (l : List Row) : ∀ u ∈ rowsC l, u.oneCell' = true := flat_one (by intro x u hu; simp [rowC] at hu; rcases hu with rfl | rfl <;> rfl) l
theorem shoalsC_one (l : List Shoal) : ∀ u ∈ shoalsC l, u.oneCell' = true := flat_one (by intro x u hu; simp [shoalC] at hu; rcases hu with rfl | rfl | rfl | rfl | rfl | rfl <;> rfl) l
theorem bdsC_snoc (l : List Bd) (b : Bd) : bdsC (l ++ [b]) = bdsC l ++ bdC b := by simp [bdsC]

/-- reaches that are read: vs are their curves -/
structure RdReaches (w : World) (B : Nat) (v : Value) (l : List Reach) (vs : List Value) : Prop where
  len : vs.length = l.length
  rd : Rd w B 9 v l.length ((l.zip vs).flatMap reachC)
  curve : ∀ i, i < l.length → Rd w B 2 (vs.getD i undef) (l.getD i reach0).curve.length (rowsC (l.getD i reach0).curve)
/-- a river that is read -/
structure RdRiver (w : World) (B : Nat) (v u : Value) (r : River) (vs : List Value) : Prop where
  reaches : RdReaches w B v r.reaches vs
  shoals : Rd w B 6 u r.shoals.length (shoalsC r.shoals)
/-- lists of bounds that are read -/
structure RdSides (w : World) (B : Nat) (v : Value) (l : List (List Bd)) (vs : List Value) : Prop where
  len : vs.length = l.length
  rd : Rd w B 1 v l.length vs
  side : ∀ i, i < l.length → Rd w B 2 (vs.getD i undef) (l.getD i []).length (bdsC (l.getD i []))

section
variable {w w' : World} {B B' : Nat} {v u : Value} {l : List Reach} {vs : List Value} {r : River} {s : List (List Bd)}
theorem RdReaches.keep (h : RdReaches w B v l vs) (hk : ∀ p : Addr, p.block < B → w'.cell? p = w.cell? p) : RdReaches w' B v l vs := ⟨h.len, h.rd.keep hk, fun i hi => (h.curve i hi).keep hk⟩
theorem RdReaches.more (h : RdReaches w B v l vs) (hB : B ≤ B') : RdReaches w B' v l vs := ⟨h.len, h.rd.more hB, fun i hi => (h.curve i hi).more hB⟩
theorem RdRiver.keep (h : RdRiver w B v u r vs) (hk : ∀ p : Addr, p.block < B → w'.cell? p = w.cell? p) : RdRiver w' B v u r vs := ⟨h.reaches.keep hk, h.shoals.keep hk⟩
theorem RdRiver.more (h : RdRiver w B v u r vs) (hB : B ≤ B') : RdRiver w B' v u r vs := ⟨h.reaches.more hB, h.shoals.more hB⟩
theorem RdRiver.below (h : RdRiver w B v u r vs) (hb : Below B w w') : RdRiver w' B v u r vs := h.keep fun _ hp => hb.cell hp
theorem RdRiver.go (h : RdRiver w w.heap.size v u r vs) (hb : Below w.heap.size w w') : RdRiver w' w'.heap.size v u r vs := (h.below hb).more hb.size
theorem RdRiver.alloc (h : RdRiver w B v u r vs) (hB : B ≤ w.heap.size) (o : Obj) : RdRiver (w.alloc o) B v u r vs := h.keep fun p hp => World.cell?_alloc_lt w o p (by omega)
theorem RdReaches.below (h : RdReaches w B v l vs) (hb : Below B w w') : RdReaches w' B v l vs := h.keep fun _ hp => hb.cell hp
theorem RdReaches.alloc (h : RdReaches w B v l vs) (hB : B ≤ w.heap.size) (o : Obj) : RdReaches (w.alloc o) B v l vs := h.keep fun p hp => World.cell?_alloc_lt w o p (by omega)
theorem RdReaches.drewN (h : RdReaches w B v l vs) (k : Nat) : RdReaches (w.drewN k) B v l vs := h.keep fun _ _ => rfl
theorem RdRiver.drewN (h : RdRiver w B v u r vs) (k : Nat) : RdRiver (w.drewN k) B v u r vs := h.keep fun _ _ => rfl
theorem RdSides.keep (h : RdSides w B v s vs) (hk : ∀ p : Addr, p.block < B → w'.cell? p = w.cell? p) : RdSides w' B v s vs := ⟨h.len, h.rd.keep hk, fun i hi => (h.side i hi).keep hk⟩
theorem RdSides.more (h : RdSides w B v s vs) (hB : B ≤ B') : RdSides w B' v s vs := ⟨h.len, h.rd.more hB, fun i hi => (h.side i hi).more hB⟩
theorem RdSides.below (h : RdSides w B v s vs) (hb : Below B w w') : RdSides w' B v s vs := h.keep fun _ hp => hb.cell hp
theorem RdSides.go (h : RdSides w w.heap.size v s vs) (hb : Below w.heap.size w w') : RdSides w' w'.heap.size v s vs := (h.below hb).more hb.size
theorem RdSides.alloc (h : RdSides w B v s vs) (hB : B ≤ w.heap.size) (o : Obj) : RdSides (w.alloc o) B v s vs := h.keep fun p hp => World.cell?_alloc_lt w o p (by omega)
theorem RdSides.drewN (h : RdSides w B v s vs) (k : Nat) : RdSides (w.drewN k) B v s vs := h.keep fun _ _ => rfl
end

/-- the cells of an element -/
theorem bds_cells (l : List Bd) (k : Nat) (hk : k < l.length) (w : World) (B : Nat) (A : Option Addr) (n c : Nat) (hr : Rd w B 2 (.slice A n c) n (bdsC l)) :
    ∃ b off, A = some ⟨b, off, none⟩ ∧ b < B ∧ w.cell? ⟨b, off + k * 2, none⟩ = some (.int .i64 (l.getD k bd0).lo) ∧ w.cell? ⟨b, off + k * 2 + 1, none⟩ = some (.int .i64 (l.getD k bd0).hi) := by
  have hl : n * 2 = l.length * 2 := by rw [← hr.len, bdsC_len]
  obtain ⟨b, off, rfl, hb, hc⟩ := hr.at_ (by omega)
  have e : l.getD k bd0 = l[k] := by simp [hk]
  rw [e]
  exact ⟨b, off, rfl, hb, hc (k * 2) _ (flat_get bdC_len l k hk 0 (by omega)), hc (k * 2 + 1) _ (flat_get bdC_len l k hk 1 (by omega))⟩
theorem rows_cells (l : List Row) (k : Nat) (hk : k < l.length) (w : World) (B : Nat) (A : Option Addr) (n c : Nat) (hr : Rd w B 2 (.slice A n c) n (rowsC l)) :
    ∃ b off, A = some ⟨b, off, none⟩ ∧ b < B ∧ w.cell? ⟨b, off + k * 2, none⟩ = some (.int .i64 (l.getD k row0).flow) ∧ w.cell? ⟨b, off + k * 2 + 1, none⟩ = some (.int .i64 (l.getD k row0).level) := by
  have hl : n * 2 = l.length * 2 := by rw [← hr.len, rowsC_len]
  obtain ⟨b, off, rfl, hb, hc⟩ := hr.at_ (by omega)
  have e : l.getD k row0 = l[k] := by simp [hk]
  rw [e]
  exact ⟨b, off, rfl, hb, hc (k * 2) _ (flat_get rowC_len l k hk 0 (by omega)), hc (k * 2 + 1) _ (flat_get rowC_len l k hk 1 (by omega))⟩
/-- the six cells of a shoal -/
structure ShoalAt (w : World) (b o : Nat) (s : Shoal) : Prop where
  c0 : w.cell? ⟨b, o, none⟩ = some (.int .i64 s.place)
  c1 : w.cell? ⟨b, o + 1, none⟩ = some (.int .i64 s.bed.lo)
  c2 : w.cell? ⟨b, o + 2, none⟩ = some (.int .i64 s.bed.hi)
  c3 : w.cell? ⟨b, o + 3, none⟩ = some (.int .i64 s.sounded)
  c4 : w.cell? ⟨b, o + 4, none⟩ = some (.int .i64 s.grow.lo)
  c5 : w.cell? ⟨b, o + 5, none⟩ = some (.int .i64 s.grow.hi)
theorem shoals_cells (l : List Shoal) (k : Nat) (hk : k < l.length) (w : World) (B : Nat) (A : Option Addr) (n c : Nat) (hr : Rd w B 6 (.slice A n c) n (shoalsC l)) :
    ∃ b off, A = some ⟨b, off, none⟩ ∧ b < B ∧ ShoalAt w b (off + k * 6) (l.getD k shoal0) := by
  have hl : n * 6 = l.length * 6 := by rw [← hr.len, shoalsC_len]
  obtain ⟨b, off, rfl, hb, hc⟩ := hr.at_ (by omega)
  have e : l.getD k shoal0 = l[k] := by simp [hk]
  rw [e]
  have g := fun j hj => flat_get shoalC_len l k hk j hj
  exact ⟨b, off, rfl, hb, hc (k * 6) _ (g 0 (by omega)), hc (k * 6 + 1) _ (g 1 (by omega)), hc (k * 6 + 2) _ (g 2 (by omega)), hc (k * 6 + 3) _ (g 3 (by omega)), hc (k * 6 + 4) _ (g 4 (by omega)), hc (k * 6 + 5) _ (g 5 (by omega))⟩
/-- the nine cells of a reach -/
structure ReachAt (w : World) (b o : Nat) (x : Reach) (v : Value) : Prop where
  c0 : w.cell? ⟨b, o, none⟩ = some (.int .i64 x.len)
  c1 : w.cell? ⟨b, o + 1, none⟩ = some (.int .i64 x.delay)
  c2 : w.cell? ⟨b, o + 2, none⟩ = some (.int .i64 x.base.lo)
  c3 : w.cell? ⟨b, o + 3, none⟩ = some (.int .i64 x.base.hi)
  c4 : w.cell? ⟨b, o + 4, none⟩ = some v
  c5 : w.cell? ⟨b, o + 5, none⟩ = some (.int .i64 x.weir)
  c6 : w.cell? ⟨b, o + 6, none⟩ = some (.int .i64 x.bottom.lo)
  c7 : w.cell? ⟨b, o + 7, none⟩ = some (.int .i64 x.bottom.hi)
  c8 : w.cell? ⟨b, o + 8, none⟩ = some (.int .i64 x.flood)
theorem reaches_cells {l : List Reach} {vs : List Value} {w : World} {B : Nat} {A : Option Addr} {n c : Nat} (hr : RdReaches w B (.slice A n c) l vs) (k : Nat) (hk : k < l.length) :
    ∃ b off, A = some ⟨b, off, none⟩ ∧ b < B ∧ ReachAt w b (off + k * 9) (l.getD k reach0) (vs.getD k undef) := by
  obtain ⟨hv, hrd, _⟩ := hr
  have hn : n = l.length := by obtain ⟨_, _, _, e, _⟩ := hrd; injection e
  subst hn
  have hz : k < (l.zip vs).length := by rw [List.length_zip, hv]; omega
  obtain ⟨b, off, rfl, hb, hc⟩ := hrd.at_ (by omega)
  have e : l.getD k reach0 = l[k] := by simp [hk]
  have e' : vs.getD k undef = vs[k]'(by omega) := by simp [show k < vs.length by omega]
  have g := fun j hj => flat_get reachC_len (l.zip vs) k hz j hj
  simp only [List.getElem_zip] at g
  rw [e, e']
  exact ⟨b, off, rfl, hb, hc (k * 9) _ (g 0 (by omega)), hc (k * 9 + 1) _ (g 1 (by omega)), hc (k * 9 + 2) _ (g 2 (by omega)), hc (k * 9 + 3) _ (g 3 (by omega)), hc (k * 9 + 4) _ (g 4 (by omega)), hc (k * 9 + 5) _ (g 5 (by omega)), hc (k * 9 + 6) _ (g 6 (by omega)), hc (k * 9 + 7) _ (g 7 (by omega)), hc (k * 9 + 8) _ (g 8 (by omega))⟩
/-- a list among lists of bounds -/
theorem sides_cell {l : List (List Bd)} {vs : List Value} {w : World} {B : Nat} {A : Option Addr} {n c : Nat} (hr : RdSides w B (.slice A n c) l vs) (k : Nat) (hk : k < l.length) :
    ∃ b off, A = some ⟨b, off, none⟩ ∧ b < B ∧ w.cell? ⟨b, off + k, none⟩ = some (vs.getD k undef) := by
  obtain ⟨hv, hrd, _⟩ := hr
  have hn : n = l.length := by obtain ⟨_, _, _, e, _⟩ := hrd; injection e
  subst hn
  obtain ⟨b, off, rfl, hb, hc⟩ := hrd.at_ (by omega)
  exact ⟨b, off, rfl, hb, hc k _ (by simp [show k < vs.length by omega])⟩
end Go.Proofs.Ytfgfenmaommclaa
