/- River: whether a river is valid, by the program and by the reference. -/
import Derived.Test.YtfgfenmaommclaaV4
import Derived.Lib.QuietBelow
namespace Go.Proofs.Ytfgfenmaommclaa
open Go Go.RowKit

def shoalV (s : Shoal) : Array Value := #[.int .i64 s.place, .int .i64 s.bed.lo, .int .i64 s.bed.hi, .int .i64 s.sounded, .int .i64 s.grow.lo, .int .i64 s.grow.hi]
theorem riverB_form (r : River) : riverB r = (inB 1 20 (r.reaches.length : Int) && (decide (r.shoals.length ≤ 40) && (r.reaches.all reachB && r.shoals.all (shoalB (placesOf r.reaches))))) := rfl

set_option maxHeartbeats 4000000 in
set_option maxRecDepth 100000 in
theorem check_any (r : River) (v u : Value) (vs : List Value) (w : World) (B : Nat) (hr : RdRiver w B v u r vs) (hB : B ≤ w.heap.size) (hl : r.reaches.length ≤ 1048576) (hs : r.shoals.length ≤ 1048576) (hcv : CurvesB r.reaches) :
    Calls Try.prog 65 #[.agg #[v, u]] w fun e w' => e = .returned (.int .i64 (errB (riverB r))) ∧ Below w.heap.size w w' := by
  rw [riverB_form]
  obtain ⟨A, c, rfl, hnc⟩ := hr.reaches.shape
  obtain ⟨A', c', rfl, hnc'⟩ := hr.shoals.shape
  have hn0 := Blk.new w 49 #[.slice A r.reaches.length c, .slice A' r.shoals.length c']
  have b0 : Below w.heap.size w (w.alloc (.cells #[.slice A r.reaches.length c, .slice A' r.shoals.length c'] 49)) := (Below.refl _ _).alloc (Nat.le_refl _) _
  have Hcv := Lib.hid hcv
  clear hcv
  go_enter Try.func65, Try.ntmps65
  go_wp2_with fail
  refine (within_one (r.reaches.length : Int) 1 20 _ _ (by simp)).mono ?_
  rintro e w1 ⟨rfl, hb1⟩
  have hn1 := hn0.below hb1 hn0.lt
  have b1 := b0.trans (hb1.mono b0.size)
  have m0 := hn1.cell 0
  have m1 := hn1.cell 1
  simp only [List.getElem?_toArray, List.getElem?_cons_zero, List.getElem?_cons_succ] at m0 m1
  clear hb1 hn0 b0
  rcases Bool.eq_false_or_eq_true (inB 1 20 (r.reaches.length : Int)) with h1 | h1
  rotate_left
  · rw [h1]
    go_wp2_with fail
    go_ret
    exact ⟨ret_int (by simp only [h1]; rfl), b1⟩
  rw [h1]
  by_cases h2 : r.shoals.length ≤ 40
  rotate_left
  · have h2' : decide ((40 : Int) < (r.shoals.length : Int)) = true := by simp; omega
    have h3 : decide (r.shoals.length ≤ 40) = false := by simpa using h2
    go_wp2_with fail
    go_ret
    exact ⟨ret_int (by simp only [h1, h3]; rfl), b1⟩
  have h2' : decide ((40 : Int) < (r.shoals.length : Int)) = false := by simp; omega
  have h3 : decide (r.shoals.length ≤ 40) = true := by simpa using h2
  have hb1s := b1.size
  go_wp2_with fail
  refine (contains_reaches r.reaches _ vs _ B (hr.reaches.below (b1.mono hB)) (by omega) hl Hcv.out).mono ?_
  rintro e w2 ⟨rfl, hb2⟩
  have hn2 := hn1.below hb2 hn1.lt
  have b2 := b1.trans (hb2.mono b1.size)
  have m0 := hn2.cell 0
  have m1 := hn2.cell 1
  simp only [List.getElem?_toArray, List.getElem?_cons_zero, List.getElem?_cons_succ] at m0 m1
  clear hb2 hn1 b1 hb1s
  rcases Bool.eq_false_or_eq_true (r.reaches.all reachB) with h4 | h4
  rotate_left
  · rw [h4]
    go_wp2_with fail
    go_ret
    exact ⟨ret_int (by simp only [h1, h3, h4]; rfl), b2⟩
  rw [h4]
  have He : Hid (∀ b, errB (inB 1 20 (r.reaches.length : Int) && (decide (r.shoals.length ≤ 40) && (r.reaches.all reachB && b))) = errB b) := Lib.hid fun b => by simp only [h1, h3, h4, Bool.true_and]
  have hln := lens_reach hl h4
  obtain ⟨p1, p2⟩ := hln r.reaches.length (Nat.le_refl _)
  rw [List.take_length] at p1 p2
  have Hln := Lib.hid hln
  clear h1 h3 h4 hln
  have hb2s := b2.size
  go_wp2_with fail
  refine (length_any r _ _ vs _ B (hr.below (b2.mono hB)) (by omega) hl Hln.out).mono ?_
  rintro e w3 ⟨rfl, hb3⟩
  have hn3 := hn2.below hb3 hn2.lt
  have b3 := b2.trans (hb3.mono b2.size)
  have m1 := hn3.cell 1
  simp only [List.getElem?_toArray, List.getElem?_cons_zero, List.getElem?_cons_succ] at m1
  clear hb3 hn2 b2 hb2s hn3
  obtain ⟨N, eN⟩ : ∃ N, N = placesOf r.reaches := ⟨_, rfl⟩
  rw [← eN] at p1 p2 ⊢
  have HN := Lib.hid eN
  clear eN
  have hb3s := b3.size
  go_wp2_with fail
  go_loopw [6, 31] (fun _ i wr => ∃ k : Nat, k ≤ r.shoals.length ∧ i = .int .i64 k ∧ Hid ((r.shoals.take k).all (shoalB N) = true) ∧ Below w.heap.size w wr) (fun _ i _ => r.shoals.length - (intOf i).toNat)
  case atStart => exact ⟨0, Nat.zero_le _, rfl, rfl, b3⟩
  case round =>
    clear b3 m1
    obtain ⟨k, hk, rfl, Hal, hbw⟩ := hrel
    by_cases hlt : k < r.shoals.length
    · obtain ⟨b, off, rfl, hb, ⟨c0, c1, c2, c3, c4, c5⟩⟩ := shoals_cells r.shoals k hlt _ B _ _ _ (hr.shoals.below (hbw.mono hB))
      have htk := fun h => take_len (f := shoalB N) (d := shoal0) hlt Hal.out h
      have hfl := fun h => all_not (f := shoalB N) (d := shoal0) hlt h
      obtain ⟨s, es⟩ : ∃ s, s = r.shoals.getD k shoal0 := ⟨_, rfl⟩
      rw [← es] at c0 c1 c2 c3 c4 c5 htk hfl
      have Htk := Lib.hid htk
      have Hfl := Lib.hid hfl
      clear htk hfl es
      have hsz := hbw.size
      have hx0 := Blk.new wr 100 (shoalV s)
      have b0 : Below w.heap.size w (wr.alloc (.cells (shoalV s) 100)) := hbw.alloc hsz _
      unfold shoalV at hx0 b0
      clear hbw
      go_wp2_with fail
      refine (within_one s.place 0 (N - 1) _ _ (by simp)).mono ?_
      rintro e x1 ⟨rfl, hb1⟩
      have hx1 := hx0.below hb1 hx0.lt
      have b1 := b0.trans (hb1.mono b0.size)
      have y1 := hx1.cell 1
      have y2 := hx1.cell 2
      simp only [List.getElem?_toArray, List.getElem?_cons_zero, List.getElem?_cons_succ] at y1 y2
      clear hb1 hx0 b0
      rcases Bool.eq_false_or_eq_true (inB 0 (N - 1) s.place) with h1 | h1
      rotate_left
      · rw [h1]
        go_wp2_with fail
        go_ret
        exact ⟨ret_int (by rw [He.out, ← HN.out, Hfl.out (by unfold shoalB; simp only [h1]; rfl)]; rfl), b1⟩
      rw [h1]
      go_wp2_with fail
      refine (isValid_one s.bed 0 10000 _ _ (by simp)).mono ?_
      rintro e x2 ⟨rfl, hb2⟩
      have hx2 := hx1.below hb2 hx1.lt
      have b2 := b1.trans (hb2.mono b1.size)
      have y3 := hx2.cell 3
      simp only [List.getElem?_toArray, List.getElem?_cons_zero, List.getElem?_cons_succ] at y3
      clear hb2 hx1 b1
      rcases Bool.eq_false_or_eq_true (bdOk 0 10000 s.bed) with h2 | h2
      rotate_left
      · rw [h2]
        go_wp2_with fail
        go_ret
        exact ⟨ret_int (by rw [He.out, ← HN.out, Hfl.out (by unfold shoalB; simp only [h1, h2]; rfl)]; rfl), b2⟩
      rw [h2]
      go_wp2_with fail
      refine (within_one s.sounded (-400) 400 _ _ (by simp)).mono ?_
      rintro e x3 ⟨rfl, hb3⟩
      have hx3 := hx2.below hb3 hx2.lt
      have b3 := b2.trans (hb3.mono b2.size)
      have y4 := hx3.cell 4
      have y5 := hx3.cell 5
      simp only [List.getElem?_toArray, List.getElem?_cons_zero, List.getElem?_cons_succ] at y4 y5
      clear hb3 hx2 b2
      rcases Bool.eq_false_or_eq_true (inB (-400) 400 s.sounded) with h3 | h3
      rotate_left
      · rw [h3]
        go_wp2_with fail
        go_ret
        exact ⟨ret_int (by rw [He.out, ← HN.out, Hfl.out (by unfold shoalB; simp only [h1, h2, h3]; rfl)]; rfl), b3⟩
      rw [h3]
      go_wp2_with fail
      refine (isValid_one s.grow (-500) 500 _ _ (by simp)).mono ?_
      rintro e x4 ⟨rfl, hb4⟩
      have hx4 := hx3.below hb4 hx3.lt
      have b4 := b3.trans (hb4.mono b3.size)
      clear hb4 hx3 b3
      rcases Bool.eq_false_or_eq_true (bdOk (-500) 500 s.grow) with h4 | h4
      rotate_left
      · rw [h4]
        go_wp2_with fail
        go_ret
        exact ⟨ret_int (by rw [He.out, ← HN.out, Hfl.out (by unfold shoalB; simp only [h1, h2, h3, h4]; rfl)]; rfl), b4⟩
      rw [h4]
      have Hg := Lib.hid (Htk.out (by unfold shoalB; simp only [h1, h2, h3, h4]; rfl))
      go_wp2_with fail
      go_roundw
      case rel => exact ⟨k + 1, by omega, by go_num, Hg, b4⟩
      case measure => simp [intOf]; omega
    · go_wp2_with fail
      go_ret
      have h := Hal.out
      rw [List.take_of_length_le (by omega)] at h
      exact ⟨ret_int (by rw [He.out, ← HN.out, h]; rfl), hbw⟩

theorem below_of_same {P : Program} {f : FuncId} {args : Array Value} {w : World} {v : Value} (h : Calls P f args w fun e w' => e = .returned v ∧ w = w') : Calls P f args w fun e w' => e = .returned v ∧ Below w.heap.size w w' :=
  h.mono fun _ _ ⟨h1, h2⟩ => ⟨h1, by subst h2; exact Below.refl _ _⟩
end Go.Proofs.Ytfgfenmaommclaa
