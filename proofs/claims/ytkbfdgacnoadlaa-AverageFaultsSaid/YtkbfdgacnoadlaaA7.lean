/- What an interest is worth, saved with, and made good; and the lists of these. -/
import Derived.Test.YtkbfdgacnoadlaaA6
import Derived.Test.YtkbfdgacnoadlaaBase4
import Derived.Deep.DeepCutAuto
import Derived.Deep.RegionWith
namespace Go.Proofs.Ytkbfdgacnoadlaa
open Go.RowKit

/-- an interest as a value -/
def intV (f : Nat → Int) : Value := .agg #[.int .i64 (f 0), .int .i64 (f 1), .int .i64 (f 2), .int .i64 (f 3), .int .i64 (f 4)]
def Small (f : Nat → Int) : Prop := ∀ j, j < 5 → 0 ≤ f j ∧ f j ≤ 100000000000000
def worthI (f : Nat → Int) : Int := f 1 - f 2
def savedI (f : Nat → Int) : Int := f 1 - f 2 - f 3
def goodI (c : Int) (f : Nat → Int) : Int := f 3 + f 4 + f 4 * c / 10000

set_option maxHeartbeats 1000000 in
theorem worth_any (f : Nat → Int) (hf : Small f) (w : World) :
    Calls Try.prog 39 #[intV f] w fun e w' => e = .returned (.int .i64 (worthI f)) ∧ Below w.heap.size w w' := by
  have h1 := hf 1 (by omega)
  have h2 := hf 2 (by omega)
  unfold intV worthI
  go_enter Try.func39, Try.ntmps39
  go_wp2
  go_ret
  exact ⟨rfl, (Below.refl _ _).alloc (Nat.le_refl _) _⟩

set_option maxHeartbeats 1000000 in
theorem saved_any (f : Nat → Int) (hf : Small f) (w : World) :
    Calls Try.prog 38 #[intV f] w fun e w' => e = .returned (.int .i64 (savedI f)) ∧ Below w.heap.size w w' := by
  have h1 := hf 1 (by omega)
  have h2 := hf 2 (by omega)
  have h3 := hf 3 (by omega)
  have hw := fun W => worth_any f hf W
  unfold intV at hw ⊢
  have Hw := Lib.hid hw
  unfold savedI
  have hwi : IntKind.i64.wrap (worthI f - f 3) = worthI f - f 3 := IntWalk.i64_in _ ⟨by unfold worthI; omega, by unfold worthI; omega⟩
  have Hfin := Lib.hid (show worthI f - f 3 = f 1 - f 2 - f 3 from rfl)
  clear hw
  have hsz := World.size_alloc w (.cells #[.int .i64 (f 0), .int .i64 (f 1), .int .i64 (f 2), .int .i64 (f 3), .int .i64 (f 4)] 95)
  clear hsz
  have hn0 := Blk.new w 95 #[.int .i64 (f 0), .int .i64 (f 1), .int .i64 (f 2), .int .i64 (f 3), .int .i64 (f 4)]
  go_enter Try.func38, Try.ntmps38
  go_wp2_with fail
  have b0 : Below w.heap.size w (w.alloc (.cells #[.int .i64 (f 0), .int .i64 (f 1), .int .i64 (f 2), .int .i64 (f 3), .int .i64 (f 4)] 95)) := (Below.refl _ _).alloc (Nat.le_refl _) _
  generalize w.alloc (.cells #[.int .i64 (f 0), .int .i64 (f 1), .int .i64 (f 2), .int .i64 (f 3), .int .i64 (f 4)] 95) = w1 at hn0 b0 ⊢
  have n0 := hn0.cell 0
  have n1 := hn0.cell 1
  have n2 := hn0.cell 2
  have n3 := hn0.cell 3
  have n4 := hn0.cell 4
  have hlt := hn0.lt
  simp only [List.getElem?_toArray, List.getElem?_cons_zero, List.getElem?_cons_succ] at n0 n1 n2 n3 n4
  go_region_held3 (fun w' => w'.cell? ⟨w.heap.size, 0, none⟩ = some (.int .i64 (f 0)) ∧ w'.cell? ⟨w.heap.size, 1, none⟩ = some (.int .i64 (f 1)) ∧ w'.cell? ⟨w.heap.size, 2, none⟩ = some (.int .i64 (f 2)) ∧ w'.cell? ⟨w.heap.size, 3, none⟩ = some (.int .i64 (f 3)) ∧ w'.cell? ⟨w.heap.size, 4, none⟩ = some (.int .i64 (f 4)))
      (first
        | go_keep
        | (go_split_ands
           refine ⟨?_, ?_, ?_, ?_, ?_⟩ <;> (rw [hb.cell (by simpa using hlt)]; assumption)))
      (first
        | (go_at_call 39; refine (Hw.out _).mono ?_; rintro e w' ⟨rfl, hb⟩))
  go_wp2_with fail
  go_ret
  exact ⟨rfl, b0.drew.trans (hb.mono b0.size)⟩

set_option maxHeartbeats 1000000 in
theorem good_any (f : Nat → Int) (hf : Small f) (c : Int) (hc0 : 0 ≤ c) (hc1 : c ≤ 10000) (w : World) :
    Calls Try.prog 41 #[intV f, .int .i64 c] w fun e w' => e = .returned (.int .i64 (goodI c f)) ∧ Below w.heap.size w w' := by
  have h3 := hf 3 (by omega)
  have h4 := hf 4 (by omega)
  have m0 := Int.mul_nonneg h4.1 hc0
  have m1 : f 4 * c ≤ f 4 * 10000 := Int.mul_le_mul_of_nonneg_left hc1 h4.1
  unfold intV goodI
  go_enter Try.func41, Try.ntmps41
  go_wp2
  go_ret
  exact ⟨rfl, (Below.refl _ _).alloc (Nat.le_refl _) _⟩

set_option maxHeartbeats 1000000 in
theorem adj2_any (f : Nat → Int) (hf : Small f) (c : Int) (hc0 : 0 ≤ c) (hc1 : c ≤ 10000) (q : Nat) (w : World) (hq : q < w.heap.size) (hc : w.cell? ⟨q, 0, none⟩ = some (.int .i64 c)) :
    Calls Try.prog 40 #[intV f, .pointer (some ⟨q, 0, none⟩)] w fun e w' => e = .returned (.int .i64 (goodI c f)) ∧ Below w.heap.size w w' := by
  have hg := fun W => good_any f hf c hc0 hc1 W
  unfold intV at hg ⊢
  have Hg := Lib.hid hg
  clear hg
  go_enter Try.func40, Try.ntmps40
  go_wp2_with (go_at_call 41; refine (Hg.out _).mono ?_; rintro e w' ⟨rfl, hb⟩)
  go_ret
  exact ⟨rfl, ((Below.refl _ _).alloc (Nat.le_refl _) _).trans (hb.mono (by simp))⟩
end Go.Proofs.Ytkbfdgacnoadlaa
