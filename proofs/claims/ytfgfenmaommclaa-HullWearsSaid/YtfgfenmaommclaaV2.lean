/- River: up, Floor, Ceil; whether a reach is valid, by the program and by the reference. -/
import Derived.Test.YtfgfenmaommclaaV1
namespace Go.Proofs.Ytfgfenmaommclaa
open Go.RowKit

set_option maxHeartbeats 1000000 in
theorem up_any (n k : Int) (w : World) (hk : 1 ≤ k) (hk2 : k ≤ 9223372036854775807) (h1 : -9223372036854775807 ≤ n) (h2 : n ≤ 9223372036854775807) :
    Calls Try.prog 101 #[.int .i64 n, .int .i64 k] w fun e w' => e = .returned (.int .i64 (ceilD n k)) ∧ Below w.heap.size w w' := by
  have hd := fun W => down_any (-n) k W hk hk2 (by omega) (by omega)
  have hb : -9223372036854775807 ≤ floorD (-n) k ∧ floorD (-n) k ≤ 9223372036854775807 := by
    unfold floorD
    rw [Int.le_ediv_iff_mul_le (by omega)]
    refine ⟨?_, Int.ediv_le_of_le_mul (by omega) ?_⟩
    · have := Int.mul_le_mul_of_nonneg_left hk (show (0:Int) ≤ 9223372036854775807 by omega)
      omega
    · have := Int.mul_le_mul_of_nonneg_left hk (show (0:Int) ≤ 9223372036854775807 by omega)
      omega
  obtain ⟨F, hF⟩ : ∃ F, F = floorD (-n) k := ⟨_, rfl⟩
  have hc : ceilD n k = -F := by rw [hF]; rfl
  rw [← hF] at hd hb
  rw [hc]
  have Hd := Lib.hid hd
  clear hF hc hd
  have w1 : wrap64 (-n) = -n := IntWalk.wrap64_in _ ⟨by omega, by omega⟩
  go_enter Try.func101, Try.ntmps101
  go_wp2_with fail
  refine (Hd.out _).mono ?_
  rintro e w1 ⟨rfl, hb1⟩
  go_wp2_with fail
  go_ret
  exact ⟨ret_int (by first | rfl | (unfold wrap64; omega)), hb1⟩

theorem quo_mul (n k : Int) (hk : 1 ≤ k) (h1 : -9223372036854775807 ≤ n) (h2 : n ≤ 9223372036854775807) : -9223372036854775807 ≤ n.tdiv k * k ∧ n.tdiv k * k ≤ 9223372036854775807 ∧ (n < n.tdiv k * k → -9223372036854775806 ≤ n.tdiv k) ∧ (n.tdiv k * k < n → n.tdiv k ≤ 9223372036854775806) := by
  have h3 := Int.tmod_add_mul_tdiv n k
  rw [Int.mul_comm] at h3
  have hq := quo_bd n k hk h1 h2
  have h4 : 0 ≤ n → 0 ≤ n.tmod k ∧ n.tmod k ≤ n := fun hn => ⟨Int.tmod_nonneg _ hn, by have := Int.tdiv_nonneg (a := n) (b := k) hn (by omega); have := Int.mul_nonneg this (show 0 ≤ k by omega); omega⟩
  have h5 : n < 0 → n.tmod k ≤ 0 ∧ n ≤ n.tmod k := fun hn => by
    have e1 : (-n).tmod k = -(n.tmod k) := Int.neg_tmod _ _
    have e2 : (-n).tdiv k = -(n.tdiv k) := Int.neg_tdiv _ _
    have a := Int.tmod_nonneg (a := -n) k (by omega)
    have b := Int.tdiv_nonneg (a := -n) (b := k) (by omega) (by omega)
    have c := Int.mul_nonneg b (show 0 ≤ k by omega)
    rw [e2, Int.neg_mul] at c
    omega
  have h6 : n.tdiv k * k < n → n.tdiv k ≤ 9223372036854775806 := fun h => by
    rcases Int.lt_or_le (n.tdiv k) 9223372036854775807 with hl | hl
    · omega
    · have := Int.mul_le_mul_of_nonneg_left hk (show 0 ≤ n.tdiv k by omega)
      omega
  rcases Int.lt_or_le n 0 with hn | hn
  · have := h5 hn
    exact ⟨by omega, by omega, fun h => hq.2.2 (by omega), h6⟩
  · have := h4 hn
    exact ⟨by omega, by omega, fun h => by omega, h6⟩

/-- a reach as a value -/
def reachV (x : Reach) (v : Value) : Array Value := #[.int .i64 x.len, .int .i64 x.delay, .int .i64 x.base.lo, .int .i64 x.base.hi, v, .int .i64 x.weir, .int .i64 x.bottom.lo, .int .i64 x.bottom.hi, .int .i64 x.flood]
theorem reachB_form (x : Reach) : reachB x = (inB 1 5000 x.len && (inB 0 200 x.delay && (bdOk 0 10000000000 x.base && (inB 2 30 (x.curve.length : Int) && ((inB 0 10000 x.weir && inB 0 10000 x.flood) && (bdOk 0 10000 x.bottom && curveB x.curve)))))) := by
  unfold reachB
  cases inB 1 5000 x.len <;> cases inB 0 200 x.delay <;> cases bdOk 0 10000000000 x.base <;> cases inB 2 30 (x.curve.length : Int) <;> cases inB 0 10000 x.weir <;> cases inB 0 10000 x.flood <;> cases bdOk 0 10000 x.bottom <;> rfl
def errB (b : Bool) : Int := if b then 0 else 2
theorem curve_false {c : List Row} {k : Nat} (hk : k < c.length) (h : rowAtB c k = false) : curveB c = false := by
  rcases Bool.eq_false_or_eq_true (curveB c) with h1 | h1
  · rw [curve_row h1 hk] at h; cases h
  · exact h1
def RowsTo (c : List Row) (k : Nat) : Prop := ∀ j, j < k → rowAtB c j = true
theorem RowsTo.succ {c : List Row} {k : Nat} (h : RowsTo c k) (hk : rowAtB c k = true) : RowsTo c (k + 1) := fun j hj => by
  rcases (by omega : j < k ∨ j = k) with h1 | rfl
  · exact h j h1
  · exact hk
theorem RowsTo.all {c : List Row} (h : RowsTo c c.length) : curveB c = true := List.all_eq_true.2 fun k hk => h k (List.mem_range.1 hk)
theorem RowsTo.low {c : List Row} {k : Nat} (h : RowsTo c k) : (0 ≤ lowF c k ∧ lowF c k ≤ 10000000001) ∧ 0 ≤ lowL c k ∧ lowL c k ≤ 10000 := by
  induction k with
  | zero => simp [lowF, lowL]
  | succ k ih =>
    have h1 := ih fun j hj => h j (by omega)
    have h2 := rowB_iff.1 (h k (by omega))
    simp only [lowF, lowL, Nat.add_eq_zero_iff, Nat.one_ne_zero, and_false, if_false, Nat.add_sub_cancel] at h1 h2 ⊢
    omega
theorem low_succ (c : List Row) (k : Nat) : lowF c (k + 1) = (c.getD k row0).flow + 1 ∧ lowL c (k + 1) = (c.getD k row0).level := by
  simp [lowF, lowL]
/-- the reference's test of a row -/
theorem row_ref {c : List Row} {k : Nat} (h : RowsTo c k) : rowAtB c k = ((inB 0 10000000000 (c.getD k row0).flow && inB 0 10000 (c.getD k row0).level) && !(decide (0 < k) && (decide ((c.getD k row0).flow ≤ (c.getD (k - 1) row0).flow) || decide ((c.getD k row0).level < (c.getD (k - 1) row0).level)))) := by
  have hl := h.low
  unfold rowAtB rowB
  rw [Bool.eq_iff_iff]
  simp only [Bool.and_eq_true, inB_iff, Bool.not_eq_true', Bool.and_eq_false_iff, Bool.or_eq_false_iff, decide_eq_false_iff_not]
  cases k with
  | zero => simp [lowF, lowL]
  | succ k =>
    simp only [lowF, lowL, Nat.add_eq_zero_iff, Nat.one_ne_zero, and_false, if_false, Nat.add_sub_cancel] at hl ⊢
    omega

set_option maxHeartbeats 4000000 in
set_option maxRecDepth 100000 in
theorem checkReach_any (x : Reach) (v : Value) (w : World) (B : Nat) (hr : Rd w B 2 v x.curve.length (rowsC x.curve)) (hB : B ≤ w.heap.size) (hl : x.curve.length ≤ 1048576) :
    Calls Try.prog 86 #[.agg (reachV x v)] w fun e w' => e = .returned (.int .i64 (errB (reachB x))) ∧ Below w.heap.size w w' := by
  rw [reachB_form]
  obtain ⟨A, c, rfl, hnc⟩ := hr.shape
  unfold reachV
  have hn0 := Blk.new w 98 (reachV x (.slice A x.curve.length c))
  have b0 : Below w.heap.size w (w.alloc (.cells (reachV x (.slice A x.curve.length c)) 98)) := (Below.refl _ _).alloc (Nat.le_refl _) _
  unfold reachV at hn0 b0
  have n4 := hn0.cell 4
  simp only [List.getElem?_toArray, List.getElem?_cons_zero, List.getElem?_cons_succ] at n4
  go_enter Try.func86, Try.ntmps86
  go_wp2_with fail
  refine (within_one x.len 1 5000 _ _ (by simp)).mono ?_
  rintro e w1 ⟨rfl, hb1⟩
  have hn1 := hn0.below hb1 hn0.lt
  have b1 := b0.trans (hb1.mono b0.size)
  have m1_1 := hn1.cell 1
  simp only [List.getElem?_toArray, List.getElem?_cons_zero, List.getElem?_cons_succ] at m1_1
  clear hb1 hn0 b0
  rcases Bool.eq_false_or_eq_true (inB 1 5000 x.len) with h1 | h1
  rotate_left
  · rw [h1]
    go_wp2_with fail
    go_ret
    exact ⟨ret_int (by simp only [h1]; rfl), b1⟩
  rw [h1]
  go_wp2_with fail
  refine (within_one x.delay 0 200 _ _ (by simp)).mono ?_
  rintro e w2 ⟨rfl, hb2⟩
  have hn2 := hn1.below hb2 hn1.lt
  have b2 := b1.trans (hb2.mono b1.size)
  have m2_2 := hn2.cell 2
  have m2_3 := hn2.cell 3
  simp only [List.getElem?_toArray, List.getElem?_cons_zero, List.getElem?_cons_succ] at m2_2 m2_3
  clear hb2 hn1 b1
  rcases Bool.eq_false_or_eq_true (inB 0 200 x.delay) with h2 | h2
  rotate_left
  · rw [h2]
    go_wp2_with fail
    go_ret
    exact ⟨ret_int (by simp only [h1, h2]; rfl), b2⟩
  rw [h2]
  go_wp2_with fail
  refine (isValid_one x.base 0 10000000000 _ _ (by simp)).mono ?_
  rintro e w3 ⟨rfl, hb3⟩
  have hn3 := hn2.below hb3 hn2.lt
  have b3 := b2.trans (hb3.mono b2.size)
  have m3_4 := hn3.cell 4
  simp only [List.getElem?_toArray, List.getElem?_cons_zero, List.getElem?_cons_succ] at m3_4
  clear hb3 hn2 b2
  rcases Bool.eq_false_or_eq_true (bdOk 0 10000000000 x.base) with h3 | h3
  rotate_left
  · rw [h3]
    go_wp2_with fail
    go_ret
    exact ⟨ret_int (by simp only [h1, h2, h3]; rfl), b3⟩
  rw [h3]
  go_wp2_with fail
  refine (within_one (x.curve.length : Int) 2 30 _ _ (by simp)).mono ?_
  rintro e w4 ⟨rfl, hb4⟩
  have hn4 := hn3.below hb4 hn3.lt
  have b4 := b3.trans (hb4.mono b3.size)
  have m4_5 := hn4.cell 5
  have m4_8 := hn4.cell 8
  simp only [List.getElem?_toArray, List.getElem?_cons_zero, List.getElem?_cons_succ] at m4_5 m4_8
  clear hb4 hn3 b3
  rcases Bool.eq_false_or_eq_true (inB 2 30 (x.curve.length : Int)) with h4 | h4
  rotate_left
  · rw [h4]
    go_wp2_with fail
    go_ret
    exact ⟨ret_int (by simp only [h1, h2, h3, h4]; rfl), b4⟩
  rw [h4]
  go_wp2_with fail
  refine (within_two x.weir x.flood 0 10000 _ _ (by simp)).mono ?_
  rintro e w5 ⟨rfl, hb5⟩
  have hn5 := hn4.below hb5 hn4.lt
  have b5 := b4.trans (hb5.mono b4.size)
  have m5_6 := hn5.cell 6
  have m5_7 := hn5.cell 7
  simp only [List.getElem?_toArray, List.getElem?_cons_zero, List.getElem?_cons_succ] at m5_6 m5_7
  clear hb5 hn4 b4
  rcases Bool.eq_false_or_eq_true ((inB 0 10000 x.weir && inB 0 10000 x.flood)) with h5 | h5
  rotate_left
  · rw [h5]
    go_wp2_with fail
    go_ret
    exact ⟨ret_int (by simp only [h1, h2, h3, h4, h5]; rfl), b5⟩
  rw [h5]
  go_wp2_with fail
  refine (isValid_one x.bottom 0 10000 _ _ (by simp)).mono ?_
  rintro e w6 ⟨rfl, hb6⟩
  have hn6 := hn5.below hb6 hn5.lt
  have b6 := b5.trans (hb6.mono b5.size)
  have m6_4 := hn6.cell 4
  simp only [List.getElem?_toArray, List.getElem?_cons_zero, List.getElem?_cons_succ] at m6_4
  clear hb6 hn5 b5
  rcases Bool.eq_false_or_eq_true (bdOk 0 10000 x.bottom) with h6 | h6
  rotate_left
  · rw [h6]
    go_wp2_with fail
    go_ret
    exact ⟨ret_int (by simp only [h1, h2, h3, h4, h5, h6]; rfl), b6⟩
  rw [h6]
  have hbs := b6.size
  have hl30 := inB_iff.1 h4
  have He : Hid (∀ b, errB (inB 1 5000 x.len && (inB 0 200 x.delay && (bdOk 0 10000000000 x.base && (inB 2 30 (x.curve.length : Int) && ((inB 0 10000 x.weir && inB 0 10000 x.flood) && (bdOk 0 10000 x.bottom && b)))))) = errB b) := Lib.hid fun b => by simp only [h1, h2, h3, h4, h5, h6, Bool.true_and]
  clear h1 h2 h3 h4 h5 h6
  have hr6 := hr.below (b6.mono hB)
  have hq := Blk.new w6 113 #[.int .i64 (-1), .int .i64 0]
  have bq : Below w.heap.size w (w6.alloc (.cells #[.int .i64 (-1), .int .i64 0] 113)) := b6.alloc hbs _
  have n4 := (hn6.alloc (.cells #[.int .i64 (-1), .int .i64 0] 113)).cell 4
  simp only [List.getElem?_toArray, List.getElem?_cons_zero, List.getElem?_cons_succ] at n4
  go_wp2_with fail
  go_loopw [6, 55] (fun _ i wr => ∃ k : Nat, k ≤ x.curve.length ∧ i = .int .i64 k ∧ Hid (RowsTo x.curve k) ∧ Blk wr w6.heap.size 113 #[.int .i64 (lowF x.curve k - 1), .int .i64 (lowL x.curve k)] ∧ Below w.heap.size w wr) (fun _ i _ => x.curve.length - (intOf i).toNat)
  case atStart => exact ⟨0, Nat.zero_le _, rfl, (fun j hj => absurd hj (by omega)), hq, bq⟩
  case round =>
    clear hq bq n4
    obtain ⟨k, hk, rfl, Hok, hq, hbw⟩ := hrel
    by_cases hlt : k < x.curve.length
    · obtain ⟨b, off, rfl, hb, c0, c1⟩ := rows_cells x.curve k hlt _ B _ _ _ (hr.below (hbw.mono hB))
      obtain ⟨⟨l1, l2⟩, l3, l4⟩ := Hok.out.low
      have hgood := fun h => Hok.out.succ h
      have hbad := fun h => curve_false hlt h
      have hls := low_succ x.curve k
      unfold rowAtB rowB at hgood hbad
      obtain ⟨f, ef⟩ : ∃ f, f = (x.curve.getD k row0).flow := ⟨_, rfl⟩
      obtain ⟨lv, elv⟩ : ∃ f, f = (x.curve.getD k row0).level := ⟨_, rfl⟩
      obtain ⟨F, eF⟩ : ∃ f, f = lowF x.curve k := ⟨_, rfl⟩
      obtain ⟨L, eL⟩ : ∃ f, f = lowL x.curve k := ⟨_, rfl⟩
      rw [← ef, ← elv, ← eF, ← eL] at hgood hbad
      rw [← ef, ← elv] at hls
      rw [← ef] at c0
      rw [← elv] at c1
      rw [← eF] at hq l1 l2
      rw [← eL] at hq l3 l4
      have Hgood := Lib.hid hgood
      have Hbad := Lib.hid hbad
      have Hls := Lib.hid hls
      clear hgood hbad hls ef elv eF eL
      have hsz := hbw.size
      have hx := Blk.new wr 113 #[.int .i64 f, .int .i64 lv]
      have hq0 := hq.alloc (.cells #[.int .i64 f, .int .i64 lv] 113)
      have bx : Below w.heap.size w (wr.alloc (.cells #[.int .i64 f, .int .i64 lv] 113)) := hbw.alloc hsz _
      have hql := hq.lt
      have z0 := hq0.cell 0
      simp only [List.getElem?_toArray, List.getElem?_cons_zero] at z0
      clear hq hbw
      go_wp2_with fail
      refine (within_one f F 10000000000 _ _ (by simp)).mono ?_
      rintro e u1 ⟨rfl, hb1⟩
      have hx1 := hx.below hb1 hx.lt
      have hq1 := hq0.below hb1 hq0.lt
      have bx1 := bx.trans (hb1.mono bx.size)
      have z0 := hq1.cell 1
      have z1 := hx1.cell 1
      have z2 := hx1.cell 0
      have y0 := hq1.frozen 0
      have y1 := hq1.frozen 1
      simp only [List.getElem?_toArray, List.getElem?_cons_zero, List.getElem?_cons_succ] at z0 z1 z2
      clear hx hq0 bx hb1
      rcases Bool.eq_false_or_eq_true (inB F 10000000000 f) with g1 | g1
      rotate_left
      · rw [g1]
        go_wp2_with fail
        go_ret
        exact ⟨ret_int (by rw [He.out, Hbad.out (by rw [g1]; rfl)]; rfl), bx1⟩
      rw [g1]
      go_wp2_with fail
      refine (within_one lv L 10000 _ _ (by simp)).mono ?_
      rintro e u2 ⟨rfl, hb2⟩
      have hx2 := hx1.below hb2 hx1.lt
      have hq2 := hq1.below hb2 hq1.lt
      have bx2 := bx1.trans (hb2.mono bx1.size)
      have hq2l := hq2.lt
      have z0 := hq2.cell 0
      have z1 := hx2.cell 1
      have z2 := hx2.cell 0
      have z3 := hq2.cell 1
      have y0 := hq2.frozen 0
      have y1 := hq2.frozen 1
      simp only [List.getElem?_toArray, List.getElem?_cons_zero, List.getElem?_cons_succ] at z0 z1 z2 z3
      clear hx1 hq1 bx1 hb2
      rcases Bool.eq_false_or_eq_true (inB L 10000 lv) with g2 | g2
      rotate_left
      · rw [g2]
        go_wp2_with fail
        go_ret
        exact ⟨ret_int (by rw [He.out, Hbad.out (by rw [g1, g2]; rfl)]; rfl), bx2⟩
      rw [g2]
      have Hg := Lib.hid (Hgood.out (by rw [g1, g2]; rfl))
      go_wp2_with fail
      go_roundw
      case rel =>
        refine ⟨k + 1, by omega, by go_num, Hg, ?_, (bx2.setCell (p := ⟨w6.heap.size, 0, none⟩) hbs _).setCell (p := ⟨w6.heap.size, 1, none⟩) hbs _⟩
        rw [Hls.out.1, Hls.out.2, show f + 1 - 1 = f by omega]
        exact (hq2.set_ 0 _).set_ 1 _
      case measure => simp [intOf]; omega
    · go_wp2_with fail
      go_ret
      obtain rfl : k = x.curve.length := by omega
      exact ⟨ret_int (by rw [He.out, Hok.out.all]; rfl), hbw⟩
end Go.Proofs.Ytfgfenmaommclaa
