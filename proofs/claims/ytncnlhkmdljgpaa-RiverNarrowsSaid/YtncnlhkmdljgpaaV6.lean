/- River: the melt of an hour. -/
import Derived.Test.YtncnlhkmdljgpaaV2
import Derived.BigRegion
import Derived.Deep.RegionHeld3
import Derived.Handy

namespace Go.Proofs.Ytncnlhkmdljgpaa
open Go.RowKit

/-- a world that has grown, and in which block g was written -/
theorem grown_set' {w a : World} {g i : Nat} {u : Value} (h : w.grownBy a (some g)) : w.grownBy (a.setCell ⟨g, i, none⟩ u) (some g) :=
  h.trans (grown_set a g i u)

theorem keepc {w W : World} {b o : Nat} {v : Value} (hb : b < w.heap.size) (hc : w.cell? ⟨b, o, none⟩ = some v) (hB : Below w.heap.size w W) : W.cell? ⟨b, o, none⟩ = some v :=
  (hB.cell (p := ⟨b, o, none⟩) hb).trans hc
theorem _root_.Go.World.grownBy.setNew {w a : World} {row : Option Nat} (h : w.grownBy a row) (k i : Nat) (hk : w.heap.size ≤ k) (u : Value) : w.grownBy (a.setCell ⟨k, i, none⟩ u) row :=
  ⟨h.os, h.tape, h.output, by have := h.size; simp [World.setCell]; omega, fun j hj hne => (Below.heap_setCell a _ u j (fun e => by have : j = k := e; omega)).trans (h.block j hj hne)⟩
theorem warmth_bd {rate t : Int} (h1 : 0 ≤ rate ∧ rate ≤ 100) (h2 : -500 ≤ t ∧ t ≤ 500) : 0 ≤ warmth rate t ∧ warmth rate t ≤ 50000 := by
  have a := warmth_nonneg (t := t) h1.1
  have b := Int.mul_le_mul_of_nonneg_right (show max 0 t ≤ 500 by omega) h1.1
  unfold warmth at a ⊢
  omega
set_option maxHeartbeats 4000000 in
set_option maxRecDepth 100000 in
theorem melt_any (g : Nat) (lo hi rate tl th : Int) (w : World) (hq : Blk w g 118 #[.int .i64 lo, .int .i64 hi, .int .i64 rate])
    (h1 : 0 ≤ lo ∧ lo ≤ 1000000) (h2 : 0 ≤ hi ∧ hi ≤ 1000000) (h3 : 0 ≤ rate ∧ rate ≤ 100) (h4 : -500 ≤ tl ∧ tl ≤ 500) (h5 : -500 ≤ th ∧ th ≤ 500) :
    Calls Try.prog 59 #[.pointer (some ⟨g, 0, none⟩), .agg #[.int .i64 tl, .int .i64 th]] w fun e w' =>
      e = .returned (.agg #[.int .i64 (min lo (warmth rate tl)), .int .i64 (min hi (warmth rate th))]) ∧ Blk w' g 118 #[.int .i64 (max 0 (lo - warmth rate th)), .int .i64 (max 0 (hi - warmth rate tl)), .int .i64 rate] ∧ w.grownBy w' (some g) := by
  have b1 := warmth_bd h3 h4
  have b2 := warmth_bd h3 h5
  obtain ⟨M1, eM1⟩ : ∃ M, M = max 0 th := ⟨_, rfl⟩
  obtain ⟨M2, eM2⟩ : ∃ M, M = max 0 tl := ⟨_, rfl⟩
  obtain ⟨F, eF⟩ : ∃ M, M = warmth rate th := ⟨_, rfl⟩
  obtain ⟨S, eS⟩ : ∃ M, M = warmth rate tl := ⟨_, rfl⟩
  have m1 : (if 0 < th then th else 0) = M1 := by rw [eM1]; omega
  have m2 : (if 0 < tl then tl else 0) = M2 := by rw [eM2]; omega
  have p1 : IntKind.i64.wrap (M1 * rate) = F := by rw [eF, warmth, ← eM1]; exact IntWalk.i64_in _ ⟨by rw [warmth, ← eM1] at b2; omega, by rw [warmth, ← eM1] at b2; omega⟩
  have p2 : IntKind.i64.wrap (M2 * rate) = S := by rw [eS, warmth, ← eM2]; exact IntWalk.i64_in _ ⟨by rw [warmth, ← eM2] at b1; omega, by rw [warmth, ← eM2] at b1; omega⟩
  have m3 : (if S < lo then S else lo) = min lo S := by omega
  have m4 : (if F < hi then F else hi) = min hi F := by omega
  have m5 : (if F < lo then lo - F else 0) = max 0 (lo - F) := by omega
  have m6 : (if S < hi then hi - S else 0) = max 0 (hi - S) := by omega
  have m5' : (if 0 < lo - F then lo - F else 0) = max 0 (lo - F) := by omega
  have m6' : (if 0 < hi - S then hi - S else 0) = max 0 (hi - S) := by omega
  rw [← eF] at b2 ⊢
  rw [← eS] at b1 ⊢
  obtain ⟨N1, eN1⟩ : ∃ N, N = min lo S := ⟨_, rfl⟩
  obtain ⟨N2, eN2⟩ : ∃ N, N = min hi F := ⟨_, rfl⟩
  obtain ⟨N3, eN3⟩ : ∃ N, N = max 0 (lo - F) := ⟨_, rfl⟩
  obtain ⟨N4, eN4⟩ : ∃ N, N = max 0 (hi - S) := ⟨_, rfl⟩
  rw [← eN1] at m3 ⊢
  rw [← eN2] at m4 ⊢
  rw [← eN3] at m5 m5' ⊢
  rw [← eN4] at m6 m6' ⊢
  clear eM1 eM2 eF eS eN1 eN2 eN3 eN4
  have w3 : IntKind.i64.wrap (lo - F) = lo - F := IntWalk.i64_in _ ⟨by omega, by omega⟩
  have w4 : IntKind.i64.wrap (hi - S) = hi - S := IntWalk.i64_in _ ⟨by omega, by omega⟩
  have hql := hq.lt
  have y0 := hq.cell 0
  have y1 := hq.cell 1
  have y2 := hq.cell 2
  have z0 := hq.frozen 0
  have z1 := hq.frozen 1
  simp only [List.getElem?_toArray, List.getElem?_cons_zero, List.getElem?_cons_succ] at y0 y1 y2
  obtain ⟨W1, eW1⟩ : ∃ W1, W1 = (w.alloc (.cells #[.int .i64 tl, .int .i64 th] 23)).alloc (.cells #[.int .i64 0, .int .i64 0] 23) := ⟨_, rfl⟩
  have x0 : W1.cell? ⟨w.heap.size, 0, none⟩ = some (.int .i64 tl) := by rw [eW1]; go_simp
  have x1 : W1.cell? ⟨w.heap.size, 1, none⟩ = some (.int .i64 th) := by rw [eW1]; go_simp
  have k1 : Below w.heap.size w W1 := by rw [eW1]; exact ((Below.refl _ _).alloc (Nat.le_refl _) _).alloc (by simp) _
  have k2 : W1.heap.size = w.heap.size + 2 := by rw [eW1]; simp
  have y0' := keepc hql y0 k1
  have y1' := keepc hql y1 k1
  have y2' := keepc hql y2 k1
  have T1 : Blk W1 (w.heap.size + 1) 23 #[.int .i64 0, .int .i64 0] := by
    rw [eW1]
    simpa using Blk.new (w.alloc (.cells #[.int .i64 tl, .int .i64 th] 23)) 23 #[.int .i64 0, .int .i64 0]
  have EW := Lib.hid eW1
  clear eW1
  go_enter Try.func59, Try.ntmps59
  go_wp2_with fail
  rw [← EW.out]
  go_quiet (fail)
  have k3 : Below w.heap.size w (W1.drewN nq) := below_drewN k1 nq
  have k4 : (W1.drewN nq).heap.size = w.heap.size + 2 := k2
  have T2 := T1.drewN nq
  obtain ⟨W2, eW2⟩ : ∃ W2, W2 = W1.drewN nq := ⟨_, rfl⟩
  rw [← eW2] at k3 k4 T2 ⊢
  clear eW2 x0 x1 k1 k2 T1 y0' y1' y2'
  have y0' := keepc hql y0 k3
  have y1' := keepc hql y1 k3
  have v0 : (W2.alloc (.cells #[.int .i64 0, .int .i64 0] 23)).cell? ⟨g, 0, none⟩ = some (.int .i64 lo) := (World.cell?_alloc_lt W2 _ ⟨g, 0, none⟩ (by show g < _; omega)).trans y0'
  have v1 : (W2.alloc (.cells #[.int .i64 0, .int .i64 0] 23)).cell? ⟨g, 1, none⟩ = some (.int .i64 hi) := (World.cell?_alloc_lt W2 _ ⟨g, 1, none⟩ (by show g < _; omega)).trans y1'
  go_wp2_with fail
  go_region
  go_wp2_with fail
  have q3 : Blk ((W2.alloc (.cells #[.int .i64 N1, .int .i64 N2] 23)).drew) g 118 #[.int .i64 lo, .int .i64 hi, .int .i64 rate] := ((hq.below k3 hql).alloc _).drew
  have g3 : w.grownBy ((W2.alloc (.cells #[.int .i64 N1, .int .i64 N2] 23)).drew) (some g) := grown_below (World.grownBy.refl w _) ((k3.alloc (by omega) _).drew)
  have s3 : ((W2.alloc (.cells #[.int .i64 N1, .int .i64 N2] 23)).drew).heap.size = w.heap.size + 3 := by simp [World.drew]; omega
  have r3 : Blk ((W2.alloc (.cells #[.int .i64 N1, .int .i64 N2] 23)).drew) (w.heap.size + 2) 23 #[.int .i64 N1, .int .i64 N2] := by
    have := Blk.new W2 23 #[.int .i64 N1, .int .i64 N2]
    rw [k4] at this
    exact this.drew
  have t3 : Blk ((W2.alloc (.cells #[.int .i64 N1, .int .i64 N2] 23)).drew) (w.heap.size + 1) 23 #[.int .i64 0, .int .i64 0] := (Blk.alloc T2 _).drew
  obtain ⟨W3, eW3⟩ : ∃ W, W = (W2.alloc (.cells #[.int .i64 N1, .int .i64 N2] 23)).drew := ⟨_, rfl⟩
  rw [← eW3] at q3 g3 s3 r3 t3 ⊢
  clear eW3 v0 v1 y0' y1' y0 y1 y2 z0 z1 k3 k4 T2
  have y0 := q3.cell 0
  have y1 := q3.cell 1
  have z0 := q3.frozen 0
  have z1 := q3.frozen 1
  simp only [List.getElem?_toArray, List.getElem?_cons_zero, List.getElem?_cons_succ] at y0 y1
  have r0 := r3.cell 0
  have r1 := r3.cell 1
  have t0 := t3.cell 0
  have t1 := t3.cell 1
  have t4 := t3.frozen 0
  have t5 := t3.frozen 1
  simp only [List.getElem?_toArray, List.getElem?_cons_zero, List.getElem?_cons_succ] at r0 r1 t0 t1
  go_region
  go_wp2_with fail
  have c1 := ((t3.far (p := ⟨g, 0, none⟩) (by show w.heap.size + 1 ≠ g; omega) (.int .i64 N3)).far (p := ⟨g, 1, none⟩) (by show w.heap.size + 1 ≠ g; omega) (.int .i64 N4)).set_ 0 (.int .i64 N1)
  have c2 := c1.set_ 1 (.int .i64 N2)
  have e0 := c1.cell 0
  have e1 := c2.cell 1
  simp only [List.setIfInBounds_toArray, List.set_cons_zero, List.set_cons_succ, List.getElem?_toArray, List.getElem?_cons_zero, List.getElem?_cons_succ] at e0 e1
  refine bodyPost_ret (v := .agg #[.int .i64 N1, .int .i64 N2]) (by simp [results, Try.results59, go_sem, e0, e1]) rfl ⟨rfl, ?_, ?_⟩
  · exact ((((q3.set_ 0 _).set_ 1 _).far (p := ⟨w.heap.size + 1, 0, none⟩) (by show g ≠ w.heap.size + 1; omega) _).far (p := ⟨w.heap.size + 1, 1, none⟩) (by show g ≠ w.heap.size + 1; omega) _).drew
  · have a1 := grown_set' (grown_set' g3 (i := 0) (u := .int .i64 N3)) (i := 1) (u := .int .i64 N4)
    exact grown_drew ((a1.setNew (w.heap.size + 1) 0 (by omega) _).setNew (w.heap.size + 1) 1 (by omega) _)
end Go.Proofs.Ytncnlhkmdljgpaa
