/- The program's checks of bunkers. -/
import Derived.Test.YtkbfdgacnoadlaaA6
import Derived.Test.YtkbfdgacnoadlaaTankMath
namespace Go.Proofs.Ytkbfdgacnoadlaa
open Go.RowKit

theorem within_two (x y lo hi : Int) (w : World) (g : Nat) (hg : g = w.heap.size) :
    Calls Try.prog 35 #[.int .i64 lo, .int .i64 hi, .slice (some ⟨g, 0, none⟩) 2 2] (w.alloc (.cells #[.int .i64 x, .int .i64 y] 3)) fun e w' => e = .returned (.bool ([x, y].all (inB lo hi))) ∧ Below w.heap.size w w' := by
  refine (within_any [x, y] lo hi _ 2 _ (g + 1) (Rd.made_at w g hg _ 1 2 #[.int .i64 x, .int .i64 y] rfl) (by simp [hg]) (by omega)).mono ?_
  rintro e w1 ⟨rfl, hb⟩
  exact ⟨rfl, ((Below.refl _ _).alloc (Nat.le_refl _) _).trans (hb.mono (by simp))⟩

set_option maxHeartbeats 1000000 in
theorem bunker_any (x : Bk) (w : World) :
    Calls Try.prog 59 #[.agg #[.int .i64 x.m, .int .i64 x.l]] w fun e w' => e = .returned (.bool (!bkOk x)) ∧ Below w.heap.size w w' := by
  obtain ⟨m, l⟩ := x
  have hn0 := Blk.new w 80 #[.int .i64 m, .int .i64 l]
  have b0 : Below w.heap.size w (w.alloc (.cells #[.int .i64 m, .int .i64 l] 80)) := (Below.refl _ _).alloc (Nat.le_refl _) _
  rcases Bool.eq_false_or_eq_true (inB 0 1000000 m) with h1 | h1
  · have hf : (!bkOk ⟨m, l⟩) = !inB 1 10000000 l := by simp [bkOk, h1]
    rw [hf]
    rcases Bool.eq_false_or_eq_true (inB 1 10000000 l) with h2 | h2
    all_goals
      rw [h2]
      go_enter Try.func59, Try.ntmps59
      go_wp2_with fail
      refine (within_one _ 0 _ _ _ (by simp)).mono ?_
      rintro e w1 ⟨rfl, hb1⟩
      rw [h1]
      have hn1 := (hn0.below hb1 hn0.lt).cell 1
      have b1 := b0.trans (hb1.mono (by simp))
      simp only [List.getElem?_toArray, List.getElem?_cons_zero, List.getElem?_cons_succ] at hn1
      clear hb1 hn0 b0
      go_wp2_with fail
      refine (within_one _ 1 _ _ _ rfl).mono ?_
      rintro e w2 ⟨rfl, hb2⟩
      rw [h2]
      go_wp2_with fail
      go_ret
      exact ⟨rfl, b1.trans (hb2.mono b1.size)⟩
  · have hf : (!bkOk ⟨m, l⟩) = true := by simp [bkOk, h1]
    rw [hf]
    go_enter Try.func59, Try.ntmps59
    go_wp2_with fail
    refine (within_one _ 0 _ _ _ (by simp)).mono ?_
    rintro e w1 ⟨rfl, hb1⟩
    rw [h1]
    go_wp2_with fail
    go_ret
    exact ⟨rfl, b0.trans (hb1.mono (by simp))⟩

set_option maxHeartbeats 1000000 in
theorem index_bunkers (l : List Bk) (v : Value) (w : World) (B : Nat) (hr : Rd w B 2 v l.length (bksV l)) (hB : B ≤ w.heap.size) (hn : l.length ≤ 1048576) :
    Calls Try.prog 63 #[v, .func (.func 59) #[] #[]] w fun e w' => (∃ r : Int, e = .returned (.int .i64 r) ∧ decide (0 ≤ r) = !l.all bkOk) ∧ Below w.heap.size w w' := by
  obtain ⟨A, c, rfl, hnc⟩ := hr.shape
  go_enter Try.func63, Try.ntmps63
  go_wp2
  go_loopw [5, 8] (fun _ i wr => ∃ k : Nat, k ≤ l.length ∧ i = .int .i64 k ∧ Hid ((l.take k).all bkOk = true) ∧ Below w.heap.size w wr) (fun _ i _ => l.length - (intOf i).toNat)
  case atStart => exact ⟨0, Nat.zero_le _, rfl, rfl, Below.refl _ _⟩
  case round =>
    obtain ⟨k, hk, rfl, Hal, hbw⟩ := hrel
    by_cases hlt : k < l.length
    · obtain ⟨b, off, rfl, hb, c0, c1⟩ := bks_cells l k hlt _ B _ _ _ (hr.below (hbw.mono hB))
      have hcall := bunker_any l[k]
      have htk := List.take_succ_eq_append_getElem hlt
      have hfl := fun h => all_false_at (f := bkOk) hlt h
      obtain ⟨x, hx⟩ : ∃ x, x = l[k] := ⟨_, rfl⟩
      rw [← hx] at c0 c1 hcall htk hfl
      have Htk := Lib.hid htk
      have Hcall := Lib.hid hcall
      have Hfl := Lib.hid hfl
      clear htk hcall hx hfl
      rcases Bool.eq_false_or_eq_true (bkOk x) with hx | hx
      · go_wp2_with fail
        refine (Hcall.out _).mono ?_
        rintro e w1 ⟨rfl, hb1⟩
        rw [hx]
        go_wp2_with fail
        go_roundw
        case rel => exact ⟨k + 1, by omega, by go_num, Lib.hid (by rw [Htk.out, List.all_append, Hal.out]; simp [hx]), hbw.trans (hb1.mono hbw.size)⟩
        case measure => simp [intOf]; omega
      · go_wp2_with fail
        refine (Hcall.out _).mono ?_
        rintro e w1 ⟨rfl, hb1⟩
        rw [hx]
        go_wp2_with fail
        go_ret
        exact ⟨⟨_, rfl, by rw [Hfl.out hx]; simp⟩, hbw.trans (hb1.mono hbw.size)⟩
    · go_wp2_with fail
      go_ret
      have h := Hal.out
      rw [List.take_of_length_le (by omega)] at h
      exact ⟨⟨_, rfl, by rw [h]; rfl⟩, hbw⟩

set_option maxHeartbeats 1000000 in
theorem contains_bunkers (l : List Bk) (v : Value) (w : World) (B : Nat) (hr : Rd w B 2 v l.length (bksV l)) (hB : B ≤ w.heap.size) (hn : l.length ≤ 1048576) :
    Calls Try.prog 58 #[v, .func (.func 59) #[] #[]] w fun e w' => e = .returned (.bool (!l.all bkOk)) ∧ Below w.heap.size w w' := by
  go_enter Try.func58, Try.ntmps58
  go_wp2_with (go_at_call 63; refine (index_bunkers l _ _ B hr hB hn).mono ?_; rintro e w' ⟨⟨r, rfl, hr'⟩, hb⟩)
  go_ret
  exact ⟨ret_bool (by simp), hb⟩
end Go.Proofs.Ytkbfdgacnoadlaa
