/- The program's gather: the sums of all interests, or the first note with an error. -/
import Derived.Test.YtkbfdgacnoadlaaA1
import Derived.Test.YtkbfdgacnoadlaaNotes
import Derived.StillTailTactics
namespace Go.Proofs.Ytkbfdgacnoadlaa
open Go.RowKit

theorem Rd.made_at (w : World) (g : Nat) (hg : g = w.heap.size) (e : TypeId) (size n : Nat) (cs : Array Value) (hn : cs.size = n * size) : Rd (w.alloc (.cells cs e)) (g + 1) size (.slice (some ⟨g, 0, none⟩) n n) n cs.toList := by
  subst hg
  exact Rd.made w e size n cs hn
/-- within, asked of one number -/
theorem within_one (x lo hi : Int) (w : World) (g : Nat) (hg : g = w.heap.size) :
    Calls Try.prog 35 #[.int .i64 lo, .int .i64 hi, .slice (some ⟨g, 0, none⟩) 1 1] (w.alloc (.cells #[.int .i64 x] 3)) fun e w' => e = .returned (.bool (inB lo hi x)) ∧ Below w.heap.size w w' := by
  refine (within_any [x] lo hi _ 1 _ (g + 1) (Rd.made_at w g hg _ 1 1 #[.int .i64 x] rfl) (by simp [hg]) (by omega)).mono ?_
  rintro e w1 ⟨rfl, hb⟩
  exact ⟨ret_bool (by simp), ((Below.refl _ _).alloc (Nat.le_refl _) _).trans (hb.mono (by simp))⟩

theorem interest_info : (Try.prog.info? 95).map (fun i => (i.zero, i.size, i.bytes)) = some (some (.agg #[.int .i64 0, .int .i64 0, .int .i64 0, .int .i64 0, .int .i64 0]), 5, 40) := by kernel_rfl

theorem made_ints (n : Nat) : (madeCells (Value.agg #[Value.int .i64 0, .int .i64 0, .int .i64 0, .int .i64 0, .int .i64 0]).cells (n * 5)).toList = ints (List.replicate (n * 5) 0) := by
  apply List.ext_getElem
  · simp [madeCells, ints]
  · intro k h1 h2
    have hc : (Value.agg #[Value.int .i64 0, .int .i64 0, .int .i64 0, .int .i64 0, .int .i64 0]).cells = #[Value.int .i64 0, .int .i64 0, .int .i64 0, .int .i64 0, .int .i64 0] := rfl
    simp only [hc]
    have hk : k % 5 < 5 := Nat.mod_lt _ (by omega)
    simp only [madeCells, Array.getElem_toList, Array.getElem_map, Array.getElem_range, ints, List.getElem_map, List.getElem_replicate]
    rcases (by omega : k % 5 = 0 ∨ k % 5 = 1 ∨ k % 5 = 2 ∨ k % 5 = 3 ∨ k % 5 = 4) with h | h | h | h | h <;> simp [h]

set_option maxHeartbeats 2000000 in
set_option maxRecDepth 100000 in
theorem gather_any (n : Nat) (l : List Nt) (v : Value) (w : World) (B : Nat) (hr : Rd w B 3 v l.length (notesV l)) (hB : B ≤ w.heap.size) (hlen : l.length ≤ 300) (hn1 : 1 ≤ n) (hn2 : n ≤ 40) :
    Calls Try.prog 36 #[.int .i64 n, v] w fun e w' => ∃ v', e = .returned (.tuple #[v', .int .i64 (firstErr n l 0).1, .int .i64 (firstErr n l 0).2]) ∧
      (((firstErr n l 0).2 = 0 ∧ w'.ownsRow w.heap.size 95 5 v' n (ints (tab n l))) ∨ ((firstErr n l 0).2 ≠ 0 ∧ v' = .slice none 0 0)) ∧ Below w.heap.size w w' := by
  obtain ⟨A, c, rfl, hnc⟩ := hr.shape
  obtain ⟨i0, hi0, hz0, hz1, hz2⟩ := info_parts interest_info
  go_enter Try.func36, Try.ntmps36
  go_wp2_with (at_make; refine wpList_make_full _ rfl _ _ 90 rfl w.heap.size 95 i0 _ 5 Try.underlying90 hi0 hz0 hz1 .i64 .i64 _ _ n rfl rfl rfl rfl (by rw [hz2]; omega) (by simp only [maxLen]; omega) (Nat.le_refl _) ?_; intro w1 hown1 hg1)
  rw [made_ints, ← tab_nil] at hown1
  have hb1 : Below w.heap.size w w1 := (Below.refl _ _).grown hg1 (Nat.le_refl _) (by simp)
  clear hg1 hi0 hz0 hz1 hz2
  go_loopw [4, 5, 6, 7, 8, 13] (fun r r5 r6 _ _ i wr => ∃ k : Nat, k ≤ l.length ∧ i = .int .i64 k ∧ r = .slice (some ⟨w.heap.size, 0, none⟩) n n ∧ r5 = .int .i64 0 ∧ r6 = .int .i64 0 ∧ Hid (∀ x ∈ l.take k, noteErr n x = 0) ∧
      wr.ownsRow w.heap.size 95 5 (.slice (some ⟨w.heap.size, 0, none⟩) n n) n (ints (tab n (l.take k))) ∧ Below w.heap.size w wr) (fun _ _ _ _ _ i _ => l.length - (intOf i).toNat)
  case atStart => exact ⟨0, Nat.zero_le _, rfl, rfl, rfl, rfl, Lib.hid (by simp), by simpa using hown1, hb1⟩
  case round =>
    obtain ⟨k, hk, rfl, rfl, rfl, rfl, Hok, hown, hbw⟩ := hrel
    by_cases hlt : k < l.length
    · obtain ⟨b, off, rfl, hb, c0, c1, c2⟩ := notes_cells l k hlt _ B _ _ _ (hr.below (hbw.mono hB))
      have hat := fun h => firstErr_at (n := n) l 0 k hlt Hok.out h
      have htk := List.take_succ_eq_append_getElem hlt
      obtain ⟨x, hx⟩ : ∃ x, x = l[k] := ⟨_, rfl⟩
      rw [← hx] at c0 c1 c2 hat htk
      clear hx
      obtain ⟨kk, ii, aa⟩ := x
      simp only at c0 c1 c2
      have Hat := Lib.hid hat
      have Htk := Lib.hid htk
      clear hat htk
      have hsz := hbw.size
      by_cases h1 : kk < 1
      · have e0 : noteErr n ⟨kk, ii, aa⟩ = 2 := by simp [noteErr, h1]
        have hd : decide (kk < 1) = true := by simpa using h1
        have Hf := Lib.hid (Hat.out (by rw [e0]; omega))
        have He := Lib.hid e0
        clear e0
        go_wp2_with fail
        go_ret3
        exact ⟨_, by rw [Hf.out, He.out]; simp, .inr ⟨by rw [Hf.out, He.out]; simp, rfl⟩, hbw.alloc hsz _⟩
      · have h1' : decide (kk < 1) = false := by simpa using h1
        by_cases h2 : 4 < kk
        · have e0 : noteErr n ⟨kk, ii, aa⟩ = 2 := by simp [noteErr, h2]
          have Hf := Lib.hid (Hat.out (by rw [e0]; omega))
          have He := Lib.hid e0
          clear e0
          go_wp2_with fail
          go_ret3
          exact ⟨_, by rw [Hf.out, He.out]; simp, .inr ⟨by rw [Hf.out, He.out]; simp, rfl⟩, hbw.alloc hsz _⟩
        · rcases Bool.eq_false_or_eq_true (inB 0 ((n : Int) - 1) ii) with h3 | h3
          · rcases Bool.eq_false_or_eq_true (inB 1 100000000000 aa) with h4 | h4
            · have e0 : noteErr n ⟨kk, ii, aa⟩ = 0 := by simp [noteErr, h1, h2, h3, h4]
              have He := Lib.hid e0
              clear e0
              obtain ⟨i0, i1⟩ := inB_iff.1 h3
              obtain ⟨a0, a1⟩ := inB_iff.1 h4
              obtain ⟨i, rfl⟩ := Int.eq_ofNat_of_zero_le i0
              obtain ⟨j, rfl⟩ := Int.eq_ofNat_of_zero_le (show 0 ≤ kk by omega)
              have hn0 := Blk.new wr 30 #[.int .i64 j, .int .i64 i, .int .i64 aa]
              go_wp2_with fail
              refine (within_one i 0 _ _ _ (by simp)).mono ?_
              rintro e w2 ⟨rfl, hb2⟩
              rw [h3]
              have hn2 := hn0.below hb2 hn0.lt
              have hown2 := own_below (hown.alloc (.cells #[.int .i64 j, .int .i64 i, .int .i64 aa] 30)) hb2 (Nat.le_refl _)
              have hbw2 : Below w.heap.size w w2 := (hbw.alloc hsz _).trans (hb2.mono (by simp; omega))
              have n2 := hn2.cell 2
              clear hb2 hn0
              simp only [List.getElem?_toArray, List.getElem?_cons_zero, List.getElem?_cons_succ] at n2
              go_wp2_with fail
              refine (within_one aa 1 _ _ _ rfl).mono ?_
              rintro e w3 ⟨rfl, hb3⟩
              rw [h4]
              have hn3 := hn2.below hb3 hn2.lt
              have hown3 := own_below hown2 hb3 (Nat.le_refl _)
              have hbw3 : Below w.heap.size w w3 := hbw2.trans (hb3.mono hbw2.size)
              clear n2 hn2 hb3 hown2 hown hbw hbw2
              have n0 := hn3.cell 0
              have n1 := hn3.cell 1
              have n2 := hn3.cell 2
              simp only [List.getElem?_toArray, List.getElem?_cons_zero, List.getElem?_cons_succ] at n0 n1 n2
              obtain ⟨ht, hta⟩ := tab_at (n := n) (l.take k) (show i < n by omega) (show j < 5 by omega)
              have hcell : w3.cell? ⟨w.heap.size, i * 5 + j, none⟩ = some (.int .i64 (ofL (l.take k) j i)) := by
                rw [hown3.cellAt (i * 5 + j) (by rw [tab_len] at ht; exact ht), ints_get _ _ ht, hta]
              have hfz := hown3.frozenAt (i * 5 + j)
              obtain ⟨o0, o1⟩ := ofL_bd Hok.out j i
              have ol : (l.take k).length ≤ 300 := by rw [List.length_take]; omega
              have htab := tab_snoc n (l.take k) ⟨(j : Int), (i : Int), aa⟩ (i := i) (j := j) rfl rfl (by omega)
              rw [← Htk.out] at htab
              obtain ⟨old, eo⟩ : ∃ old, old = ofL (l.take k) j i := ⟨_, rfl⟩
              rw [← eo] at hcell o0 o1 htab
              have Htab := Lib.hid htab
              clear eo ht hta htab
              obtain ⟨st, gst⟩ := hown3.stored (i * 5 + j) (.int .i64 (old + aa))
              have hst : (ints (tab n (l.take k))).set (i * 5 + j) (.int .i64 (old + aa)) = ints (tab n (l.take (k + 1))) := by rw [Htab.out]; simp [ints]
              rw [hst] at st
              clear hst
              have hbw4 := hbw3.grown gst hbw3.size (fun k hk => by injection hk with hk; omega)
              have hnx : ∀ x ∈ l.take (k + 1), noteErr n x = 0 := by
                rw [Htk.out]
                intro x hx
                rcases List.mem_append.1 hx with h | h
                · exact Hok.out x h
                · rw [List.mem_singleton.1 h]
                  exact He.out
              have Hnx := Lib.hid hnx
              clear hnx
              have i2 : (i : Int) < (n : Int) := by omega
              have i3 : IntKind.i64.wrap (old + aa) = old + aa := IntWalk.i64_in _ ⟨by omega, by omega⟩
              have j0 : (0 : Int) ≤ (j : Int) := Int.natCast_nonneg _
              have j1 : (j : Int) < 5 := by omega
              go_wp2_with fail
              go_still_tail 13, (by kernel_rfl)
              change wpList _ _ _ _ _ w3.drew
              go_wp2_with fail
              go_roundw
              case rel => exact ⟨k + 1, by omega, by go_num, rfl, rfl, rfl, Hnx, st.drew, hbw4.drew⟩
              case measure => simp [intOf]; omega
            · have e0 : noteErr n ⟨kk, ii, aa⟩ = 3 := by simp [noteErr, h1, h2, h3, h4]
              have Hf := Lib.hid (Hat.out (by rw [e0]; omega))
              have He := Lib.hid e0
              clear e0
              have hn0 := Blk.new wr 30 #[.int .i64 kk, .int .i64 ii, .int .i64 aa]
              go_wp2_with fail
              refine (within_one ii 0 _ _ _ (by simp)).mono ?_
              rintro e w2 ⟨rfl, hb2⟩
              rw [h3]
              have hn2 := hn0.below hb2 hn0.lt
              have hbw2 : Below w.heap.size w w2 := (hbw.alloc hsz _).trans (hb2.mono (by simp; omega))
              have n2 := hn2.cell 2
              clear hb2 hn0
              simp only [List.getElem?_toArray, List.getElem?_cons_zero, List.getElem?_cons_succ] at n2
              go_wp2_with fail
              refine (within_one aa 1 _ _ _ rfl).mono ?_
              rintro e w3 ⟨rfl, hb3⟩
              rw [h4]
              go_wp2_with fail
              go_ret3
              exact ⟨_, by rw [Hf.out, He.out]; simp, .inr ⟨by rw [Hf.out, He.out]; simp, rfl⟩, hbw2.trans (hb3.mono hbw2.size)⟩
          · have e0 : noteErr n ⟨kk, ii, aa⟩ = 7 := by simp [noteErr, h1, h2, h3]
            have Hf := Lib.hid (Hat.out (by rw [e0]; omega))
            have He := Lib.hid e0
            clear e0
            go_wp2_with fail
            refine (within_one ii 0 _ _ _ (by simp)).mono ?_
            rintro e w2 ⟨rfl, hb2⟩
            rw [h3]
            go_wp2_with fail
            go_ret3
            exact ⟨_, by rw [Hf.out, He.out]; simp, .inr ⟨by rw [Hf.out, He.out]; simp, rfl⟩, (hbw.alloc hsz _).trans (hb2.mono (by simp; omega))⟩
    · obtain rfl : k = l.length := by omega
      go_wp2_with fail
      go_ret3
      have hok := Hok.out
      rw [List.take_length] at hok hown
      rw [firstErr_ok l 0 hok]
      exact ⟨_, rfl, .inl ⟨rfl, hown⟩, hbw⟩
end Go.Proofs.Ytkbfdgacnoadlaa
