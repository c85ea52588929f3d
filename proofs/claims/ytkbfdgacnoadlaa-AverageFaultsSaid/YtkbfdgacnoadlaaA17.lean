/- The document's examples: known() returns true. -/
import Derived.Test.YtkbfdgacnoadlaaA5
import Derived.Test.YtkbfdgacnoadlaaA10
import Derived.Test.YtkbfdgacnoadlaaA12
import Derived.Test.YtkbfdgacnoadlaaA16
import Derived.KernelRfl
namespace Go.Proofs.Ytkbfdgacnoadlaa
open Go.RowKit

def exNotes : List Nt := [⟨1, 0, 600000⟩, ⟨1, 1, 300000⟩, ⟨1, 2, 100000⟩, ⟨3, 2, 50000⟩, ⟨4, 0, 20000⟩]
def exAccs : List Acc := [⟨600000, 20400, 42240, 21840⟩, ⟨300000, 0, 21120, 21120⟩, ⟨100000, 50000, 7040, -42960⟩]
theorem ex_adj : adjSpec ((3 : Nat) : Int) 200 exNotes = (exAccs, 70400, 0, 0) := by kernel_rfl
theorem ex_early : (earlyErr ((3 : Nat) : Int) 200 exNotes).2 = 0 := by kernel_rfl
theorem ex_blameErr : blameErr [1000, 5000, 0] [7000, 3000, 0] [100000000000000, 0, 0] = 0 := by kernel_rfl
theorem ex_blame : blameL [1000, 5000, 0] [7000, 3000, 0] [100000000000000, 0, 0] = [3200, -3200, 0] := by kernel_rfl
def exSds : List Sd := [⟨0, 900, 910⟩, ⟨120, 700, 720⟩]
def exBks : List Bk := [⟨60, 50⟩]
theorem ex_burnErr : burnErr exSds exBks 0 1 = 0 := by kernel_rfl
theorem ex_burn : burnSpec exSds exBks 0 1 = (230, 260) := by kernel_rfl
def exTf : Tf := ⟨500, 10, 3, 0, 0, 100000000000000⟩
def exPs : List Ps := [⟨0, 1250, 110⟩]
theorem ex_tf : tfErr exTf = 0 := by kernel_rfl
theorem ex_dues : duesSpec exTf ((1 : Nat) : Int) exPs = ([629], 0, 0) := by kernel_rfl

set_option maxHeartbeats 1000000 in
theorem notes_any (w : World) : Calls Try.prog 34 #[] w fun e w' => e = .returned (.slice (some ⟨w.heap.size, 0, none⟩) 5 5) ∧ w' = w.alloc (.cells (notesV exNotes).toArray 30) := by
  go_enter Try.func34, Try.ntmps34
  go_wp2
  go_ret
  exact ⟨rfl, rfl⟩

set_option maxHeartbeats 4000000 in
set_option maxRecDepth 100000 in
theorem known_any (w : World) : Calls Try.prog 14 #[] w fun e w' => e = .returned (.bool true) ∧ Below w.heap.size w w' := by
  go_enter Try.func14, Try.ntmps14
  go_wp2_with fail
  refine (notes_any _).mono ?_
  rintro e w1 ⟨rfl, hw1⟩
  have hr1 : Rd w1 w1.heap.size 3 (.slice (some ⟨w.heap.size, 0, none⟩) 5 5) exNotes.length (notesV exNotes) := by
    rw [hw1]
    have := Rd.made w 30 3 5 (notesV exNotes).toArray rfl
    exact this.more (by simp)
  have b1 : Below w.heap.size w w1 := by rw [hw1]; exact (Below.refl _ _).alloc (Nat.le_refl _) _
  clear hw1
  go_wp2_with fail
  refine (adjust_late 3 200 exNotes _ _ _ hr1 (Nat.le_refl _) ex_early).mono ?_
  rw [ex_adj]
  rintro e w2 ⟨v2, rfl, ho2, hb2⟩
  have b2 := b1.trans (hb2.mono b1.size)
  obtain ⟨ga, ca, rfl, ga1, ga2⟩ := ho2.form (by decide)
  have a0 := ho2.cellAt 8 (by decide)
  have a1 := ho2.cellAt 9 (by decide)
  have a2 := ho2.cellAt 10 (by decide)
  have a3 := ho2.cellAt 11 (by decide)
  simp only [accsV, exAccs, accV, List.flatMap_cons, List.cons_append, List.nil_append, List.getElem?_cons_succ, List.getElem?_cons_zero] at a0 a1 a2 a3
  clear hb2 hr1
  have A0 := Lib.hid a0
  have A1 := Lib.hid a1
  have A2 := Lib.hid a2
  have A3 := Lib.hid a3
  clear a0 a1 a2 a3
  have ra : Rd (((w2.alloc (.cells #[.int .i64 1000, .int .i64 5000, .int .i64 0] 3)).alloc (.cells #[.int .i64 7000, .int .i64 3000, .int .i64 0] 3)).alloc (.cells #[.int .i64 100000000000000, .int .i64 0, .int .i64 0] 3)) (w2.heap.size + 3) 1 (.slice (some ⟨w2.heap.size, 0, none⟩) 3 3) [1000, 5000, 0].length (ints [1000, 5000, 0]) :=
    (((Rd.made_at w2 _ rfl 3 1 3 #[.int .i64 1000, .int .i64 5000, .int .i64 0] rfl).alloc (by simp) _).alloc (by simp) _).more (by omega)
  have rb : Rd (((w2.alloc (.cells #[.int .i64 1000, .int .i64 5000, .int .i64 0] 3)).alloc (.cells #[.int .i64 7000, .int .i64 3000, .int .i64 0] 3)).alloc (.cells #[.int .i64 100000000000000, .int .i64 0, .int .i64 0] 3)) (w2.heap.size + 3) 1 (.slice (some ⟨w2.heap.size + 1, 0, none⟩) 3 3) [7000, 3000, 0].length (ints [7000, 3000, 0]) :=
    ((Rd.made_at (w2.alloc _) (w2.heap.size + 1) (by simp) 3 1 3 #[.int .i64 7000, .int .i64 3000, .int .i64 0] rfl).alloc (by simp) _).more (by omega)
  have rc : Rd (((w2.alloc (.cells #[.int .i64 1000, .int .i64 5000, .int .i64 0] 3)).alloc (.cells #[.int .i64 7000, .int .i64 3000, .int .i64 0] 3)).alloc (.cells #[.int .i64 100000000000000, .int .i64 0, .int .i64 0] 3)) (w2.heap.size + 3) 1 (.slice (some ⟨w2.heap.size + 2, 0, none⟩) 3 3) [100000000000000, 0, 0].length (ints [100000000000000, 0, 0]) :=
    (Rd.made_at ((w2.alloc _).alloc _) (w2.heap.size + 2) (by simp) 3 1 3 #[.int .i64 100000000000000, .int .i64 0, .int .i64 0] rfl).more (by omega)
  go_wp2_with fail
  refine (blame_ok [1000, 5000, 0] [7000, 3000, 0] [100000000000000, 0, 0] _ _ _ _ (w2.heap.size + 3) ra rb rc (by simp) ex_blameErr).mono ?_
  rw [ex_blame]
  rintro e w3 ⟨v3, rfl, ho3, hb3⟩
  have c3 : Below w2.heap.size w2 w3 := ((((Below.refl _ _).alloc (Nat.le_refl _) _).alloc (by simp) _).alloc (by simp; omega) _).trans (hb3.mono (by simp; omega))
  obtain ⟨gb, cb, rfl, gb1, gb2⟩ := ho3.form (by decide)
  have d0 := ho3.cellAt 0 (by decide)
  have d1 := ho3.cellAt 1 (by decide)
  simp only [ints, List.map_cons, List.getElem?_cons_succ, List.getElem?_cons_zero] at d0 d1
  have D0 := Lib.hid d0
  have D1 := Lib.hid d1
  clear hb3 ra rb rc d0 d1 ho3
  have r1 : Rd ((w3.alloc (.cells (sdsV exSds).toArray 78)).alloc (.cells (bksV exBks).toArray 80)) (w3.heap.size + 2) 3 (.slice (some ⟨w3.heap.size, 0, none⟩) 2 2) exSds.length (sdsV exSds) :=
    ((Rd.made_at w3 _ rfl 78 3 2 (sdsV exSds).toArray rfl).alloc (by simp) _).more (by omega)
  have r2 : Rd ((w3.alloc (.cells (sdsV exSds).toArray 78)).alloc (.cells (bksV exBks).toArray 80)) (w3.heap.size + 2) 2 (.slice (some ⟨w3.heap.size + 1, 0, none⟩) 1 1) exBks.length (bksV exBks) :=
    (Rd.made_at (w3.alloc _) (w3.heap.size + 1) (by simp) 80 2 1 (bksV exBks).toArray rfl).more (by omega)
  go_wp2_with fail
  refine (burned_any exSds exBks 0 1 _ _ _ (w3.heap.size + 2) (w3.heap.size + 2) r1 (by simp) r2 (by simp) (by decide) (by decide)).mono ?_
  rw [ex_burn, ex_burnErr]
  rintro e w4 ⟨rfl, hb4⟩
  have c4 : Below w3.heap.size w3 w4 := (((Below.refl _ _).alloc (Nat.le_refl _) _).alloc (by simp) _).trans (hb4.mono (by simp; omega))
  clear hb4 r1 r2
  have r3 : Rd ((w4.alloc (.cells #[.int .i64 230, .int .i64 260] 72)).alloc (.cells (passesV exPs).toArray 46)) (w4.heap.size + 2) 3 (.slice (some ⟨w4.heap.size + 1, 0, none⟩) 1 1) exPs.length (passesV exPs) :=
    (Rd.made_at (w4.alloc _) (w4.heap.size + 1) (by simp) 46 3 1 (passesV exPs).toArray rfl).more (by omega)
  have hx4 := Blk.new w4 72 #[.int .i64 230, .int .i64 260]
  go_wp2_with fail
  refine (dues_late exTf 1 exPs _ _ (w4.heap.size + 2) r3 (by simp) ex_tf (by decide) (by decide)).mono ?_
  rw [ex_dues]
  rintro e w5 ⟨v5, rfl, ho5, hb5⟩
  have c5 : Below w4.heap.size w4 w5 := (((Below.refl _ _).alloc (Nat.le_refl _) _).alloc (by simp) _).trans (hb5.mono (by simp; omega))
  have hx5 := (hx4.alloc (.cells (passesV exPs).toArray 46)).below hb5 (hx4.alloc _).lt
  have x0 := hx5.cell 0
  have x1 := hx5.cell 1
  obtain ⟨gd, cd, rfl, gd1, gd2⟩ := ho5.form (by decide)
  have e0 := ho5.cellAt 0 (by decide)
  simp only [ints, List.map_cons, List.getElem?_cons_zero, List.getElem?_toArray, List.getElem?_cons_succ] at e0 x0 x1
  have t3 := c4.trans (c5.mono c4.size)
  have t2 := c3.trans (t3.mono c3.size)
  have y0 := keepc ga2 A0.out t2
  have y1 := keepc ga2 A1.out t2
  have y2 := keepc ga2 A2.out t2
  have y3 := keepc ga2 A3.out t2
  have y4 := keepc gb2 D0.out t3
  have y5 := keepc gb2 D1.out t3
  clear hb5 r3 hx4 hx5 ho5
  go_wp2_with fail
  go_ret
  refine ⟨?_, b2.trans (t2.mono b2.size)⟩
  first | rfl | (simp; done) | (refine ret_bool ?_; decide)
end Go.Proofs.Ytkbfdgacnoadlaa
