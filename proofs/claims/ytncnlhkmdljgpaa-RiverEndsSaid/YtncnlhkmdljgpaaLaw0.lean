/- River: words for the laws' walks: what Bed and Depth return in every case, what a copy of a forecast tells in a drawn region. -/
import Derived.Test.YtncnlhkmdljgpaaW13
import Derived.Test.YtncnlhkmdljgpaaW12
import Derived.Test.YtncnlhkmdljgpaaW8
import Derived.Test.YtncnlhkmdljgpaaW7
import Derived.Test.YtncnlhkmdljgpaaW3
set_option linter.unusedVariables false
namespace Go.Proofs.Ytncnlhkmdljgpaa
open Go Go.RowKit

theorem mono_riv {k : Nat} {rv : River} : Mono fun r w => ∃ a b vs, r k = .agg #[a, b] ∧ RdRiver w w.heap.size a b rv vs := fun _ _ _ hb ⟨a, b, vs, h1, h2⟩ => ⟨a, b, vs, h1, h2.go hb⟩
theorem mono_sid {k : Nat} {l : List (List Bd)} : Mono fun r w => ∃ v ss, r k = v ∧ RdSides w w.heap.size v l ss := fun _ _ _ hb ⟨v, ss, h1, h2⟩ => ⟨v, ss, h1, h2.go hb⟩
theorem Fine.curves {rv : River} {sides : List (List Bd)} (h : Fine rv sides) : CurvesB rv.reaches := fun i hi => Nat.le_trans (h.curve i hi) (by decide)
theorem Fine.sidesB {rv : River} {sides : List (List Bd)} (h : Fine rv sides) : SidesB sides := fun i hi => Nat.le_trans (h.side i hi) (by decide)
theorem in_bel (n lo hi : Int) (w : World) : Calls Try.prog 35 #[.int .i64 n, .int .i64 lo, .int .i64 hi] w fun e w' => e = .returned (.bool (inB lo hi n)) ∧ Below w.heap.size w w' :=
  (in_any n lo hi w).mono fun e w' h => ⟨h.1, by rw [← h.2]; exact Below.refl _ _⟩
/-- what Bed returns -/
def bedErr (rv : River) (p t : Int) : Int := if riverB rv = false then 2 else if inB 0 (placesOf rv.reaches - 1) p = false then 7 else if inB (-400) 400 t = false then 3 else 0
def bedRes (rv : River) (p t : Int) : Bd := if bedErr rv p t = 0 then bedAt rv p t else bd0
theorem bed_bad {rv : River} {p t : Int} (h : riverB rv = false) : bedErr rv p t = 2 ∧ bedRes rv p t = bd0 := by simp [bedRes, bedErr, h]
theorem bed_none {rv : River} {p t : Int} (h : riverB rv = true) (hp : inB 0 (placesOf rv.reaches - 1) p = false) : bedErr rv p t = 7 ∧ bedRes rv p t = bd0 := by simp [bedRes, bedErr, h, hp]
theorem bed_range {rv : River} {p t : Int} (h : riverB rv = true) (hp : inB 0 (placesOf rv.reaches - 1) p = true) (ht : inB (-400) 400 t = false) : bedErr rv p t = 3 ∧ bedRes rv p t = bd0 := by simp [bedRes, bedErr, h, hp, ht]
theorem bed_ok {rv : River} {p t : Int} (h : riverB rv = true) (hp : inB 0 (placesOf rv.reaches - 1) p = true) (ht : inB (-400) 400 t = true) : bedErr rv p t = 0 ∧ bedRes rv p t = bedAt rv p t := by simp [bedRes, bedErr, h, hp, ht]
theorem pbed_any (rv : River) (v u : Value) (vs : List Value) (p t : Int) (w : World) (B : Nat) (hr : RdRiver w B v u rv vs) (hB : B ≤ w.heap.size) (hl : rv.reaches.length ≤ 1048576) (hl2 : rv.shoals.length ≤ 1048576) (hcv : CurvesB rv.reaches) :
    Calls Try.prog 32 #[.agg #[v, u], .int .i64 p, .int .i64 t] w fun e w' => e = .returned (.tuple #[.agg #[.int .i64 (bedRes rv p t).lo, .int .i64 (bedRes rv p t).hi], .int .i64 (bedErr rv p t)]) ∧ Below w.heap.size w w' := by
  cases h : riverB rv
  · rw [(bed_bad h).1, (bed_bad h).2]; exact pbed_bad rv v u vs p t w B hr hB hl hl2 hcv h
  · cases hp : inB 0 (placesOf rv.reaches - 1) p
    · rw [(bed_none h hp).1, (bed_none h hp).2]; exact pbed_none rv v u vs p t w B hr hB hl hl2 hcv h hp
    · cases ht : inB (-400) 400 t
      · rw [(bed_range h hp ht).1, (bed_range h hp ht).2]; exact pbed_range rv v u vs p t w B hr hB hl hl2 hcv h hp ht
      · rw [(bed_ok h hp ht).1, (bed_ok h hp ht).2]; exact pbed_ok rv v u vs p t w B hr hB hl hl2 hcv h hp ht
/-- what Depth returns -/
def depErr (rv : River) (sides : List (List Bd)) (p t : Int) : Int := if startErr rv sides ≠ 0 then startErr rv sides else if inB 0 (placesOf rv.reaches - 1) p = false then 7 else if inB 0 (((sides.getD 0 []).length : Nat) - 1 : Int) t = false then 3 else 0
def depRes (rv : River) (sides : List (List Bd)) (p t : Int) : Bd := if depErr rv sides p t = 0 then depthAt rv sides p t else bd0
section
variable {rv : River} {sides : List (List Bd)} {p t : Int}
theorem depr_open (h : startErr rv sides ≠ 0) : depErr rv sides p t = startErr rv sides ∧ depRes rv sides p t = bd0 := by simp [depRes, depErr, h]
theorem depr_none (h : startErr rv sides = 0) (hp : inB 0 (placesOf rv.reaches - 1) p = false) : depErr rv sides p t = 7 ∧ depRes rv sides p t = bd0 := by simp [depRes, depErr, h, hp]
theorem depr_range (h : startErr rv sides = 0) (hp : inB 0 (placesOf rv.reaches - 1) p = true) (ht : inB 0 (((sides.getD 0 []).length : Nat) - 1 : Int) t = false) : depErr rv sides p t = 3 ∧ depRes rv sides p t = bd0 := by simp [depRes, depErr, h, hp, ht, -List.getD_eq_getElem?_getD]
theorem depr_ok (h : startErr rv sides = 0) (hp : inB 0 (placesOf rv.reaches - 1) p = true) (ht : inB 0 (((sides.getD 0 []).length : Nat) - 1 : Int) t = true) : depErr rv sides p t = 0 ∧ depRes rv sides p t = depthAt rv sides p t := by simp [depRes, depErr, h, hp, ht, -List.getD_eq_getElem?_getD]
end
theorem dep_any (r : River) (sides : List (List Bd)) (v u s : Value) (vs ss : List Value) (w : World) (B : Nat) (hr : RdRiver w B v u r vs) (hs : RdSides w B s sides ss) (hB : B ≤ w.heap.size) (hl : r.reaches.length ≤ 1048576) (hl2 : r.shoals.length ≤ 1048576) (hcv : CurvesB r.reaches) (hl3 : sides.length ≤ 1048576) (hsb : SidesB sides) (p t : Int) :
    Calls Try.prog 33 #[.agg #[v, u], s, .int .i64 p, .int .i64 t] w fun e w' => e = .returned (.tuple #[.agg #[.int .i64 (depRes r sides p t).lo, .int .i64 (depRes r sides p t).hi], .int .i64 (depErr r sides p t)]) ∧ Below w.heap.size w w' := by
  by_cases h : startErr r sides = 0
  · cases hp : inB 0 (placesOf r.reaches - 1) p
    · rw [(depr_none h hp).1, (depr_none h hp).2]; exact dep_none r sides v u s vs ss w B hr hs hB hl hl2 hcv hl3 hsb p t h hp
    · cases ht : inB 0 (((sides.getD 0 []).length : Nat) - 1 : Int) t
      · rw [(depr_range h hp ht).1, (depr_range h hp ht).2]; exact dep_range r sides v u s vs ss w B hr hs hB hl hl2 hcv hl3 hsb p t h hp ht
      · rw [(depr_ok h hp ht).1, (depr_ok h hp ht).2]; exact dep_ok r sides v u s vs ss w B hr hs hB hl hl2 hcv hl3 hsb p t h hp ht
  · rw [(depr_open h).1, (depr_open h).2]; exact dep_open r sides v u s vs ss w B hr hs hB hl hl2 hcv hl3 hsb p t h
end Go.Proofs.Ytncnlhkmdljgpaa
