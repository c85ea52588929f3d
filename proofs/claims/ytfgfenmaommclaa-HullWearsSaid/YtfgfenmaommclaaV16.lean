/- River: all flows; the level of a reach in an hour; how many hours there are. -/
import Derived.Test.YtfgfenmaommclaaV9
import Derived.Test.YtfgfenmaommclaaV12
import Derived.Test.YtfgfenmaommclaaTail
namespace Go.Proofs.Ytfgfenmaommclaa
open Go Go.RowKit Go.Sort

/-- what Flows leaves -/
def FlowsPost (w : World) (r : River) (sides : List (List Bd)) (e : Ending) (w' : World) : Prop :=
  (∃ v fs, e = .returned (.tuple #[v, .int .i64 (startErr r sides)]) ∧ (startErr r sides ≠ 0 → v = .slice none 0 0) ∧ (startErr r sides = 0 → RdSides w' w'.heap.size v (flowsUp r.reaches sides sides.length) fs)) ∧ Below w.heap.size w w'
theorem Stream.sides {w : World} {base g : Nat} {v u vf : Value} {fs : List Value} {F : List (List Bd)} (h : Stream w base g v u vf fs F) : RdSides w w.heap.size vf F fs := h.rows.sides

/-- what is known of a river with its flows, in any world that has it still -/
structure StreamOk (w : World) (B g : Nat) (r : River) (sides : List (List Bd)) (v u vf : Value) (vs fs : List Value) : Prop where
  ok : StartOk r sides
  blk : Blk w g 165 #[v, u, vf]
  gB : g < B
  river : RdRiver w B v u r vs
  flows : RdSides w B vf (flowsUp r.reaches sides sides.length) fs
theorem StreamOk.below {w w' : World} {B g : Nat} {r : River} {sides : List (List Bd)} {v u vf : Value} {vs fs : List Value} (h : StreamOk w B g r sides v u vf vs fs) (hb : Below B w w') : StreamOk w' B g r sides v u vf vs fs :=
  ⟨h.ok, h.blk.below hb h.gB, h.gB, h.river.below hb, h.flows.below hb⟩

set_option maxHeartbeats 1000000 in
theorem flow_any {w : World} {B g : Nat} {r : River} {sides : List (List Bd)} {v u vf : Value} {vs fs : List Value} (h : StreamOk w B g r sides v u vf vs fs) (i : Nat) (t : Int) (hi : i < r.reaches.length) (ht : t < (sides.getD 0 []).length) :
    Calls Try.prog 70 #[.pointer (some ⟨g, 0, none⟩), .int .i64 i, .int .i64 t] w fun e w' => e = .returned (.agg #[.int .i64 (flowIn r.reaches sides i t).lo, .int .i64 (flowIn r.reaches sides i t).hi]) ∧ Below w.heap.size w w' := by
  by_cases hneg : t < 0
  · rw [flowIn_neg _ _ _ hneg]
    exact flow_early g i t r.reaches v u vf vs w B h.blk h.river.reaches hi hneg
  · have e5 : t = (t.toNat : Int) := by omega
    rw [e5]
    have hm := h.ok.many
    have e6 := flow_late g i t.toNat (flowsUp r.reaches sides sides.length) v u vf fs w B h.blk h.flows (by rw [flowsUp_len]; omega) (by rw [flowsUp_at _ _ (by omega), flowsOf_len]; omega)
    rw [flowsUp_at _ _ (by omega), flowsOf_at _ _ (by omega)] at e6
    exact e6

set_option maxHeartbeats 4000000 in
set_option maxRecDepth 100000 in
theorem slevel_any {w : World} {B g : Nat} {r : River} {sides : List (List Bd)} {v u vf : Value} {vs fs : List Value} (h : StreamOk w B g r sides v u vf vs fs) (hB : B ≤ w.heap.size) (i : Nat) (t : Int) (hi : i < r.reaches.length) (ht : t < (sides.getD 0 []).length) :
    Calls Try.prog 74 #[.pointer (some ⟨g, 0, none⟩), .int .i64 i, .int .i64 t] w fun e w' => e = .returned (.agg #[.int .i64 (levelAt (r.reaches.getD i reach0) (flowIn r.reaches sides i t)).lo, .int .i64 (levelAt (r.reaches.getD i reach0) (flowIn r.reaches sides i t)).hi]) ∧ Below w.heap.size w w' := by
  obtain ⟨A, c, rfl, hnc⟩ := h.river.reaches.shape
  obtain ⟨A', c', rfl, hnc'⟩ := h.river.shoals.shape
  obtain ⟨W1, eW1⟩ : ∃ W, W = w.alloc (.cells #[.int .i64 0, .int .i64 0] 25) := ⟨_, rfl⟩
  have b1 : Below w.heap.size w W1 := by rw [eW1]; exact (Below.refl _ _).alloc (Nat.le_refl _) _
  have q1 : Blk W1 w.heap.size 25 #[.int .i64 0, .int .i64 0] := by rw [eW1]; exact Blk.new w _ _
  have h1 := h.below (b1.mono hB)
  have hB1 := Nat.le_trans hB b1.size
  have EW := Lib.hid eW1
  clear eW1 h
  have hreach := h1.ok.river.reach i hi
  have hfb := flowIn_small h1.ok i t hi ht
  have hfl := fun (d : Nat) (os : Array Obj) => Calls.regrown_of (d := d) (os := os) (w := W1) (flow_any (h1.below ((below_regrown W1 d os).mono hB1)) i t hi ht)
  obtain ⟨b, off, rfl, hb, ⟨c0, c1, c2, c3, c4, c5, c6, c7, c8⟩⟩ := reaches_cells h1.river.reaches i hi
  have hcur := h1.river.reaches.curve i hi
  have hlv := fun (d : Nat) (os : Array Obj) => Calls.regrown_of (d := d) (os := os) (w := W1) (level_any (r.reaches.getD i reach0) _ (flowIn r.reaches sides i t) (grow (redrawn W1 d) os) B (hcur.below ((below_regrown W1 d os).mono hB1)) (Nat.le_trans hB1 (below_regrown W1 d os).size) hreach (by omega))
  obtain ⟨Ak, ck, ek, _⟩ := hcur.shape
  rw [ek] at c4 hlv
  unfold reachV at hlv
  obtain ⟨f, ef⟩ : ∃ f, f = flowIn r.reaches sides i t := ⟨_, rfl⟩
  rw [← ef] at hfl hlv ⊢
  obtain ⟨x, ex⟩ : ∃ x, x = r.reaches.getD i reach0 := ⟨_, rfl⟩
  rw [← ex] at c0 c1 c2 c3 c4 c5 c6 c7 c8 hlv ⊢
  obtain ⟨⟨ll, lh⟩, el⟩ : ∃ y, y = levelAt x f := ⟨_, rfl⟩
  rw [← el] at hlv ⊢
  show Calls _ _ _ _ fun e w' => e = .returned (.agg #[.int .i64 ll, .int .i64 lh]) ∧ _
  simp only at hlv
  have Hfl := Lib.hid hfl
  have Hlv := Lib.hid hlv
  have y0 := h1.blk.cell 0
  simp only [List.getElem?_toArray, List.getElem?_cons_zero] at y0
  have r0 := cell_regrown y0
  have d0 := cell_regrown c0
  have d1 := cell_regrown c1
  have d2 := cell_regrown c2
  have d3 := cell_regrown c3
  have d4 := cell_regrown c4
  have d5 := cell_regrown c5
  have d6 := cell_regrown c6
  have d7 := cell_regrown c7
  have d8 := cell_regrown c8
  have i0 : (0 : Int) ≤ (i : Int) := by omega
  have i1 : (i : Int) < (r.reaches.length : Int) := by omega
  clear hfl hlv ef ex el ek hcur c0 c1 c2 c3 c4 c5 c6 c7 c8 y0 h1 hfb hreach ht
  go_enter Try.func74, Try.ntmps74
  go_wp2_with fail
  rw [← EW.out]
  refine wp_region_tail_below 13 (by kernel_rfl) (by kernel_rfl) ?_
  simp only [List.take_succ_cons, List.take_zero, List.drop_succ_cons, List.drop_zero]
  repeat (go_big_quiet_step (first | (go_at_call 70; with_reducible exact Hfl.out _ _) | (go_at_call 93; with_reducible exact Hlv.out _ _)))
  refine wpQuiet_nil ?_
  intro _ hw'
  obtain ⟨⟨dq, osq⟩, hw''⟩ := hw'
  subst hw''
  have hb10 := below_regrown W1 dq osq
  obtain ⟨W5, eW5⟩ : ∃ W, W = grow (redrawn W1 dq) osq := ⟨_, rfl⟩
  rw [← eW5] at hb10 ⊢
  clear eW5 r0 d0 d1 d2 d3 d4 d5 d6 d7 d8
  have q5 := q1.below hb10 q1.lt
  have z0 := q5.cell 0
  have z1 := q5.cell 1
  have z2 := q5.frozen 0
  have z3 := q5.frozen 1
  have k4 := (q5.set_ 0 (.int .i64 ll)).cell 0
  have k5 := ((q5.set_ 0 (.int .i64 ll)).set_ 1 (.int .i64 lh)).cell 1
  simp only [List.setIfInBounds_toArray, List.set_cons_zero, List.set_cons_succ, List.getElem?_toArray, List.getElem?_cons_zero, List.getElem?_cons_succ] at z0 z1 k4 k5
  go_wp2_with fail
  refine bodyPost_ret (v := .agg #[.int .i64 ll, .int .i64 lh]) (by simp [results, Try.results74, go_sem, k4, k5]) rfl ⟨rfl, ?_⟩
  exact ((b1.trans (hb10.mono b1.size)).setCell (p := ⟨w.heap.size, 0, none⟩) (Nat.le_refl _) _).setCell (p := ⟨w.heap.size, 1, none⟩) (Nat.le_refl _) _

set_option maxHeartbeats 1000000 in
theorem hours_any {w : World} {B g : Nat} {r : River} {sides : List (List Bd)} {v u vf : Value} {vs fs : List Value} (h : StreamOk w B g r sides v u vf vs fs) :
    Calls Try.prog 73 #[.pointer (some ⟨g, 0, none⟩)] w fun e w' => e = .returned (.int .i64 (sides.getD 0 []).length) ∧ w = w' := by
  have hm := h.ok.many
  have hsome := h.ok.river.some
  have h0 : 0 < (flowsUp r.reaches sides sides.length).length := by rw [flowsUp_len]; omega
  obtain ⟨A, c, rfl, hnc⟩ := h.flows.rd.shape
  obtain ⟨b, off, rfl, hb, c0⟩ := sides_cell h.flows 0 h0
  obtain ⟨Ak, ck, ek, _⟩ := (h.flows.side 0 h0).shape
  rw [ek, Nat.add_zero, flowsUp_at _ _ (by omega), flowsOf_len] at c0
  rw [flowsUp_len] at hnc h0
  have y0 := h.blk.cell 2
  simp only [List.getElem?_toArray, List.getElem?_cons_zero, List.getElem?_cons_succ] at y0
  rw [flowsUp_len] at y0
  have i1 : (0 : Int) < (sides.length : Int) := by omega
  clear ek h
  go_enter Try.func73, Try.ntmps73
  go_wp2_with fail
  go_ret
  exact ⟨rfl, rfl⟩
end Go.Proofs.Ytfgfenmaommclaa
