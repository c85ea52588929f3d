/- River: whether a reach is valid, by the reference. -/
import Derived.Test.YtncnlhkmdljgpaaV2
namespace Go.Proofs.Ytncnlhkmdljgpaa
open Go.RowKit

theorem reachB_form2 (x : Reach) : reachB x = (inB 1 5000 x.len && (inB 0 200 x.delay && (bdOk 0 10000000000 x.base && (inB 2 30 (x.curve.length : Int) && (inB 0 10000 x.weir && (bdOk 0 10000 x.bottom && (inB 0 10000 x.flood && curveB x.curve))))))) := rfl
theorem ints_pos {k : Nat} (h : 0 < k) : decide (0 < (k : Int)) = true ∧ decide (0 < k) = true := by simp; omega

set_option maxHeartbeats 8000000 in
set_option maxRecDepth 100000 in
theorem rreach_any (x : Reach) (v : Value) (w : World) (B : Nat) (hr : Rd w B 2 v x.curve.length (rowsC x.curve)) (hB : B ≤ w.heap.size) (hl : x.curve.length ≤ 1048576) :
    Calls Try.prog 29 #[.agg (reachV x v)] w fun e w' => e = .returned (.bool (reachB x)) ∧ Below w.heap.size w w' := by
  rw [reachB_form2]
  obtain ⟨A, c, rfl, hnc⟩ := hr.shape
  unfold reachV
  have hn0 := Blk.new w 50 (reachV x (.slice A x.curve.length c))
  have b0 : Below w.heap.size w (w.alloc (.cells (reachV x (.slice A x.curve.length c)) 50)) := (Below.refl _ _).alloc (Nat.le_refl _) _
  unfold reachV at hn0 b0
  go_enter Try.func29, Try.ntmps29
  go_wp2_with fail
  refine (in_any _ _ _ _).mono ?_
  rintro e w' ⟨rfl, rfl⟩
  rcases Bool.eq_false_or_eq_true (inB 1 5000 x.len) with h1 | h1
  rotate_left
  · rw [h1]
    go_wp2_with fail
    go_ret
    exact ⟨ret_bool (by simp only [h1]; rfl), b0⟩
  rw [h1]
  go_wp2_with fail
  refine (in_any _ _ _ _).mono ?_
  rintro e w' ⟨rfl, rfl⟩
  rcases Bool.eq_false_or_eq_true (inB 0 200 x.delay) with h2 | h2
  rotate_left
  · rw [h2]
    go_wp2_with fail
    go_ret
    exact ⟨ret_bool (by simp only [h1, h2]; rfl), b0⟩
  rw [h2]
  go_wp2_with fail
  refine (rvalid_any x.base 0 10000000000 _).mono ?_
  rintro e w3 ⟨rfl, hb3⟩
  have hn3 := hn0.below hb3 hn0.lt
  have b3 := b0.trans (hb3.mono b0.size)
  clear hb3 hn0 b0
  have m3_4 := hn3.cell 4
  have m3_5 := hn3.cell 5
  have m3_8 := hn3.cell 8
  simp only [List.getElem?_toArray, List.getElem?_cons_zero, List.getElem?_cons_succ] at m3_4 m3_5 m3_8
  have m3_6 := hn3.cell 6
  have m3_7 := hn3.cell 7
  simp only [List.getElem?_toArray, List.getElem?_cons_zero, List.getElem?_cons_succ] at m3_6 m3_7
  rcases Bool.eq_false_or_eq_true (bdOk 0 10000000000 x.base) with h3 | h3
  rotate_left
  · rw [h3]
    go_wp2_with fail
    go_ret
    exact ⟨ret_bool (by simp only [h1, h2, h3]; rfl), b3⟩
  rw [h3]
  go_wp2_with fail
  refine (in_any _ _ _ _).mono ?_
  rintro e w' ⟨rfl, rfl⟩
  rcases Bool.eq_false_or_eq_true (inB 2 30 (x.curve.length : Int)) with h4 | h4
  rotate_left
  · rw [h4]
    go_wp2_with fail
    go_ret
    exact ⟨ret_bool (by simp only [h1, h2, h3, h4]; rfl), b3⟩
  rw [h4]
  go_wp2_with fail
  refine (in_any _ _ _ _).mono ?_
  rintro e w' ⟨rfl, rfl⟩
  rcases Bool.eq_false_or_eq_true (inB 0 10000 x.weir) with h5 | h5
  rotate_left
  · rw [h5]
    go_wp2_with fail
    go_ret
    exact ⟨ret_bool (by simp only [h1, h2, h3, h4, h5]; rfl), b3⟩
  rw [h5]
  go_wp2_with fail
  refine (rvalid_any x.bottom 0 10000 _).mono ?_
  rintro e w6 ⟨rfl, hb6⟩
  have hn6 := hn3.below hb6 hn3.lt
  have b6 := b3.trans (hb6.mono b3.size)
  clear hb6 hn3 b3
  have m6_8 := hn6.cell 8
  have m6_4 := hn6.cell 4
  simp only [List.getElem?_toArray, List.getElem?_cons_zero, List.getElem?_cons_succ] at m6_8 m6_4
  rcases Bool.eq_false_or_eq_true (bdOk 0 10000 x.bottom) with h6 | h6
  rotate_left
  · rw [h6]
    go_wp2_with fail
    go_ret
    exact ⟨ret_bool (by simp only [h1, h2, h3, h4, h5, h6]; rfl), b6⟩
  rw [h6]
  go_wp2_with fail
  refine (in_any _ _ _ _).mono ?_
  rintro e w' ⟨rfl, rfl⟩
  rcases Bool.eq_false_or_eq_true (inB 0 10000 x.flood) with h7 | h7
  rotate_left
  · rw [h7]
    go_wp2_with fail
    go_ret
    exact ⟨ret_bool (by simp only [h1, h2, h3, h4, h5, h6, h7]; rfl), b6⟩
  rw [h7]
  have hbs := b6.size
  have hl30 := inB_iff.1 h4
  have He : Hid (∀ b, (inB 1 5000 x.len && (inB 0 200 x.delay && (bdOk 0 10000000000 x.base && (inB 2 30 (x.curve.length : Int) && (inB 0 10000 x.weir && (bdOk 0 10000 x.bottom && (inB 0 10000 x.flood && b))))))) = b) := Lib.hid fun b => by simp only [h1, h2, h3, h4, h5, h6, h7, Bool.true_and]
  clear h1 h2 h3 h4 h5 h6 h7
  have hr6 := hr.below (b6.mono hB)
  go_wp2_with fail
  go_loopw [3] (fun i wr => ∃ k : Nat, k ≤ x.curve.length ∧ i = .int .i64 k ∧ Hid (RowsTo x.curve k) ∧ Blk wr w.heap.size 50 (reachV x (.slice A x.curve.length c)) ∧ Below w.heap.size w wr) (fun i _ => x.curve.length - (intOf i).toNat)
  case atStart => exact ⟨0, Nat.zero_le _, rfl, (fun j hj => absurd hj (by omega)), hn6, b6⟩
  case round =>
    clear hn6 m6_8 m6_4 m3_4 m3_5 m3_6 m3_7 m3_8
    obtain ⟨k, hk, rfl, Hok, hq, hbw⟩ := hrel
    unfold reachV at hq
    have n4 := hq.cell 4
    simp only [List.getElem?_toArray, List.getElem?_cons_zero, List.getElem?_cons_succ] at n4
    by_cases hlt : k < x.curve.length
    · obtain ⟨b, off, rfl, hb, c0, c1⟩ := rows_cells x.curve k hlt _ B _ _ _ (hr.below (hbw.mono hB))
      obtain ⟨⟨l1, l2⟩, l3, l4⟩ := Hok.out.low
      have hgood := fun h => Hok.out.succ h
      have hbad := fun h => curve_false hlt h
      rw [row_ref Hok.out] at hgood hbad
      obtain ⟨f, ef⟩ : ∃ f, f = (x.curve.getD k row0).flow := ⟨_, rfl⟩
      obtain ⟨lv, elv⟩ : ∃ f, f = (x.curve.getD k row0).level := ⟨_, rfl⟩
      rw [← ef, ← elv] at hgood hbad
      rw [← ef] at c0
      rw [← elv] at c1
      clear ef elv
      have hk0 : (0 : Int) ≤ (k : Int) := by omega
      have hki : (k : Int) < (x.curve.length : Int) := by omega
      by_cases hz : 0 < k
      · obtain ⟨_, _, e1, _, p0, p1⟩ := rows_cells x.curve (k - 1) (by omega) _ B _ _ _ (hr.below (hbw.mono hB))
        injection e1 with e1
        injection e1 with e1 e2
        subst e1 e2
        have hz' := ints_pos hz
        obtain ⟨hz1, hz2⟩ := hz'
        have hki1 : (0 : Int) ≤ (k : Int) - 1 := by omega
        have hki2 : (k : Int) - 1 < (x.curve.length : Int) := by omega
        have hki3 : ((k : Int) - 1).toNat = k - 1 := by omega
        have hki4 : IntKind.i64.wrap ((k : Int) - 1) = (k : Int) - 1 := IntWalk.i64_in _ ⟨by omega, by omega⟩
        obtain ⟨pf, epf⟩ : ∃ f, f = (x.curve.getD (k - 1) row0).flow := ⟨_, rfl⟩
        obtain ⟨pl, epl⟩ : ∃ f, f = (x.curve.getD (k - 1) row0).level := ⟨_, rfl⟩
        rw [← epf, ← epl, hz2] at hgood hbad
        rw [← epf] at p0
        rw [← epl] at p1
        clear epf epl hz2
        have Hgood := Lib.hid hgood
        have Hbad := Lib.hid hbad
        clear hgood hbad
        go_wp2_with fail
        refine (in_any _ _ _ _).mono ?_
        rintro e w' ⟨rfl, rfl⟩
        rcases Bool.eq_false_or_eq_true (inB 0 10000000000 f) with g1 | g1
        rotate_left
        · rw [g1]
          go_wp2_with fail
          go_ret
          exact ⟨ret_bool (by rw [He.out, Hbad.out (by rw [g1]; rfl)]), hbw⟩
        rw [g1]
        go_wp2_with fail
        refine (in_any _ _ _ _).mono ?_
        rintro e w' ⟨rfl, rfl⟩
        rcases Bool.eq_false_or_eq_true (inB 0 10000 lv) with g2 | g2
        rotate_left
        · rw [g2]
          go_wp2_with fail
          go_ret
          exact ⟨ret_bool (by rw [He.out, Hbad.out (by rw [g1, g2]; rfl)]), hbw⟩
        rw [g2]
        rcases Bool.eq_false_or_eq_true (decide (f ≤ pf)) with g3 | g3
        · go_wp2_with fail
          go_quiet (fail)
          go_wp2_with fail
          go_ret
          exact ⟨ret_bool (by rw [He.out, Hbad.out (by rw [g1, g2, g3]; rfl)]), below_drewN hbw _⟩
        · rcases Bool.eq_false_or_eq_true (decide (lv < pl)) with g4 | g4
          · go_wp2_with fail
            go_quiet (fail)
            go_wp2_with fail
            go_ret
            exact ⟨ret_bool (by rw [He.out, Hbad.out (by rw [g1, g2, g3, g4]; rfl)]), below_drewN hbw _⟩
          · have Hg := Lib.hid (Hgood.out (by rw [g1, g2, g3, g4]; rfl))
            go_wp2_with fail
            go_quiet (fail)
            go_wp2_with fail
            go_roundw
            case rel => exact ⟨k + 1, by omega, by go_num, Hg, hq.drewN _, below_drewN hbw _⟩
            case measure => simp [intOf]; omega
      · have hz1 : decide (0 < (k : Int)) = false := by simp; omega
        have hz2 : decide (0 < k) = false := by simpa using hz
        rw [hz2] at hgood hbad
        have Hgood := Lib.hid hgood
        have Hbad := Lib.hid hbad
        clear hgood hbad
        go_wp2_with fail
        refine (in_any _ _ _ _).mono ?_
        rintro e w' ⟨rfl, rfl⟩
        rcases Bool.eq_false_or_eq_true (inB 0 10000000000 f) with g1 | g1
        rotate_left
        · rw [g1]
          go_wp2_with fail
          go_ret
          exact ⟨ret_bool (by rw [He.out, Hbad.out (by rw [g1]; rfl)]), hbw⟩
        rw [g1]
        go_wp2_with fail
        refine (in_any _ _ _ _).mono ?_
        rintro e w' ⟨rfl, rfl⟩
        rcases Bool.eq_false_or_eq_true (inB 0 10000 lv) with g2 | g2
        rotate_left
        · rw [g2]
          go_wp2_with fail
          go_ret
          exact ⟨ret_bool (by rw [He.out, Hbad.out (by rw [g1, g2]; rfl)]), hbw⟩
        rw [g2]
        have Hg := Lib.hid (Hgood.out (by rw [g1, g2]; rfl))
        go_wp2_with fail
        go_quiet (fail)
        go_wp2_with fail
        go_roundw
        case rel => exact ⟨k + 1, by omega, by go_num, Hg, hq.drewN _, below_drewN hbw _⟩
        case measure => simp [intOf]; omega
    · go_wp2_with fail
      go_ret
      obtain rfl : k = x.curve.length := by omega
      exact ⟨ret_bool (by rw [He.out, Hok.out.all]), hbw⟩
end Go.Proofs.Ytncnlhkmdljgpaa
