/- The program's open: a tank with all fuel that was taken up to each sounding, or the error. -/
import Derived.Test.YtkbfdgacnoadlaaA13
import Derived.Test.YtkbfdgacnoadlaaBase4
namespace Go.Proofs.Ytkbfdgacnoadlaa
open Go.RowKit

def OkTo (l : List Sd) (k : Nat) : Prop := ∀ j (hj : j < l.length), j < k → sdOk (prevM l j) l[j] = true
theorem OkTo.succ {l : List Sd} {k : Nat} (h : OkTo l k) (hk : k < l.length) (hs : sdOk (prevM l k) l[k] = true) : OkTo l (k + 1) := by
  intro j hj hjk
  rcases (by omega : j < k ∨ j = k) with h1 | rfl
  · exact h j hj h1
  · exact hs
theorem OkTo.all {l : List Sd} (h : OkTo l l.length) : sdsOk (-1) l = true := (sdsOk_iff l).2 fun k hk => h k hk hk
theorem not_ok {l : List Sd} {k : Nat} (hk : k < l.length) (hs : sdOk (prevM l k) l[k] = false) : sdsOk (-1) l = false := by
  rcases Bool.eq_false_or_eq_true (sdsOk (-1) l) with h | h
  · rw [(sdsOk_iff l).1 h k hk] at hs
    cases hs
  · exact h
/-- what open leaves: a tank in new memory, or the error -/
def OpenPost (w : World) (vs : Value) (l : List Sd) (b : List Bk) (e : Ending) (w' : World) : Prop :=
  ((tankErr l b ≠ 0 ∧ e = .returned (.tuple #[.pointer none, .int .i64 (tankErr l b)])) ∨
   (tankErr l b = 0 ∧ ∃ g v, e = .returned (.tuple #[.pointer (some ⟨g, 0, none⟩), .int .i64 0]) ∧ Blk w' g 125 #[vs, v] ∧ w.heap.size ≤ g ∧ w'.ownsRow w.heap.size 3 1 v l.length (ints (takenTo l b l.length)))) ∧ Below w.heap.size w w'
theorem OpenPost.bad {w w' : World} {vs : Value} {l : List Sd} {b : List Bk} {y : Int} (h : tankErr l b = y) (hy : y ≠ 0) (hb : Below w.heap.size w w') : OpenPost w vs l b (.returned (.tuple #[.pointer none, .int .i64 y])) w' :=
  ⟨.inl ⟨by rw [h]; exact hy, by rw [h]⟩, hb⟩

set_option maxHeartbeats 1000000 in
set_option maxRecDepth 100000 in
theorem open_early (l : List Sd) (b : List Bk) (vs vb : Value) (w : World) (B C : Nat) (hr : Rd w B 3 vs l.length (sdsV l)) (hs : Rd w C 2 vb b.length (bksV b)) (hC : C ≤ w.heap.size)
    (hl : l.length ≤ 1048576) (hbl : b.length ≤ 1048576) (hbad : 100 < l.length ∨ 100 < b.length ∨ l.length = 0 ∨ b.all bkOk = false) :
    Calls Try.prog 52 #[vs, vb] w (OpenPost w vs l b) := by
  obtain ⟨A, c, rfl, hnc⟩ := hr.shape
  obtain ⟨A', c', rfl, hnc'⟩ := hs.shape
  by_cases h1 : 100 < l.length
  · have he : tankErr l b = 5 := by simp [tankErr, h1]
    have He := Lib.hid he
    have h1' : decide ((100 : Int) < (l.length : Int)) = true := by simp; omega
    clear he hbad
    go_enter Try.func52, Try.ntmps52
    go_wp2_with fail
    go_ret2
    exact .bad He.out (by omega) (Below.refl _ _)
  · have h1' : decide ((100 : Int) < (l.length : Int)) = false := by simp; omega
    by_cases h2 : 100 < b.length
    · have he : tankErr l b = 5 := by simp [tankErr, h2]
      have He := Lib.hid he
      clear he hbad
      go_enter Try.func52, Try.ntmps52
      go_wp2_with fail
      go_ret2
      exact .bad He.out (by omega) (Below.refl _ _)
    · by_cases h3 : l.length = 0
      · have he : tankErr l b = 4 := by simp [tankErr, h2, h3]
        have He := Lib.hid he
        have h3' : ((l.length : Int) == 0) = true := by simp [h3]
        clear he hbad h3
        go_enter Try.func52, Try.ntmps52
        go_wp2_with fail
        go_ret2
        exact .bad He.out (by omega) (Below.refl _ _)
      · have h4 : b.all bkOk = false := by
          rcases hbad with h | h | h | h
          · exact absurd h h1
          · exact absurd h h2
          · exact absurd h h3
          · exact h
        have he : tankErr l b = 2 := by rw [tankErr, if_neg h1, if_neg h2, if_neg h3, if_pos h4]
        have He := Lib.hid he
        have h3' : ((l.length : Int) == 0) = false := by simp; intro h; subst h; simp at h3
        clear he hbad h3
        go_enter Try.func52, Try.ntmps52
        go_wp2_with fail
        refine (contains_bunkers b _ _ C hs hC hbl).mono ?_
        rintro e w1 ⟨rfl, hb1⟩
        rw [h4]
        go_wp2_with fail
        go_ret2
        exact .bad He.out (by omega) hb1

set_option maxHeartbeats 4000000 in
set_option maxRecDepth 100000 in
theorem open_late (l : List Sd) (b : List Bk) (vs vb : Value) (w : World) (B C : Nat) (hr : Rd w B 3 vs l.length (sdsV l)) (hB : B ≤ w.heap.size) (hs : Rd w C 2 vb b.length (bksV b)) (hC : C ≤ w.heap.size)
    (h1 : l.length ≤ 100) (h2 : b.length ≤ 100) (h3 : 0 < l.length) (h4 : b.all bkOk = true) :
    Calls Try.prog 52 #[vs, vb] w (OpenPost w vs l b) := by
  obtain ⟨A, c, rfl, hnc⟩ := hr.shape
  obtain ⟨A', c', rfl, hnc'⟩ := hs.shape
  have he : tankErr l b = if sdsOk (-1) l = false then 2 else 0 := by rw [tankErr, if_neg (by omega), if_neg (by omega), if_neg (by omega), if_neg (by simp [h4])]
  have He := Lib.hid he
  have h3' : ((l.length : Int) == 0) = false := by simp; intro h; subst h; simp at h3
  have hbo : ∀ y ∈ b, bkOk y = true := fun y hy => List.all_eq_true.1 h4 y hy
  have Hbo := Lib.hid hbo
  clear he hbo
  have hl0 : decide ((100 : Int) < (l.length : Int)) = false := by simp; omega
  go_enter Try.func52, Try.ntmps52
  go_wp2_with fail
  refine (contains_bunkers b _ _ C hs hC (by omega)).mono ?_
  rintro e w1 ⟨rfl, hb1⟩
  rw [h4]
  have hr1 := hr.below (hb1.mono hB)
  have hs1 := hs.below (hb1.mono hC)
  have hB1 : B ≤ w1.heap.size := by have := hb1.size; omega
  have hC1 : C ≤ w1.heap.size := by have := hb1.size; omega
  have hq1 := Blk.new w1 125 #[.slice A l.length c, .slice none 0 0]
  obtain ⟨vs, evs⟩ : ∃ v : Value, v = .slice A l.length c := ⟨_, rfl⟩
  go_wp2_with fail
  go_loopw [4, 5, 7, 9, 10, 12, 34] (fun r4 r5 p _ _ _ i wr => ∃ (k : Nat) (pm : Int) (v : Value), k ≤ l.length ∧ i = .int .i64 k ∧ r4 = .pointer none ∧ r5 = .int .i64 0 ∧ p = .int .i64 pm ∧ -1 ≤ pm ∧ pm ≤ 1000000 ∧ Hid (pm = prevM l k) ∧ Hid (OkTo l k) ∧
      Blk wr w1.heap.size 125 #[vs, v] ∧ wr.ownsRow (w1.heap.size + 1) 3 1 v k (ints (takenTo l b k)) ∧ Below w1.heap.size w1 wr) (fun _ _ _ _ _ _ i _ => l.length - (intOf i).toNat)
  case atStart => exact ⟨0, -1, _, Nat.zero_le _, rfl, rfl, rfl, rfl, by omega, by omega, rfl, (fun j hj h => absurd h (by omega)), by rw [evs]; exact hq1, own_nil _ _ _ _, (Below.refl _ _).alloc (Nat.le_refl _) _⟩
  case round =>
    clear hq1
    obtain ⟨k, pm, v, hk, rfl, rfl, rfl, rfl, hp0, hp1, Hpm, Hok, hq, hown, hbw⟩ := hrel
    by_cases hlt : k < l.length
    · obtain ⟨bb, off, rfl, hbb, c0, c1, c2⟩ := sds_cells l k hlt _ B _ _ _ (hr1.below (hbw.mono hB1))
      have hbad := fun h => not_ok (l := l) hlt h
      have hgood := fun h => OkTo.succ Hok.out hlt h
      have hts := takenTo_succ l b hlt
      have hps := prevM_succ l hlt
      obtain ⟨x, hx⟩ : ∃ x, x = l[k] := ⟨_, rfl⟩
      rw [← hx] at c0 c1 c2 hbad hgood hts hps
      rw [← Hpm.out] at hbad hgood
      clear hx
      obtain ⟨m, lo, hi⟩ := x
      simp only at c0 c1 c2 hts hps
      have Hbad := Lib.hid hbad
      have Hgood := Lib.hid hgood
      have Hts := Lib.hid hts
      have Hps := Lib.hid hps
      clear hbad hgood hts hps
      have hsz := hbw.size
      have hn0 := Blk.new wr 78 #[.int .i64 m, .int .i64 lo, .int .i64 hi]
      have hb0 : Below w1.heap.size w1 (wr.alloc (.cells #[.int .i64 m, .int .i64 lo, .int .i64 hi] 78)) := hbw.alloc hsz _
      have hq0 := hq.alloc (.cells #[.int .i64 m, .int .i64 lo, .int .i64 hi] 78)
      have ho0 := hown.alloc (.cells #[.int .i64 m, .int .i64 lo, .int .i64 hi] 78)
      go_wp2_with fail
      refine (within_one m (pm + 1) _ _ _ (by simp)).mono ?_
      rintro e w2 ⟨rfl, hb2⟩
      have hn2 := hn0.below hb2 hn0.lt
      have hq2 := hq0.below hb2 hq0.lt
      have ho2 := own_below ho0 hb2 (Nat.le_refl _)
      have hw2 : Below w1.heap.size w1 w2 := hb0.trans (hb2.mono hb0.size)
      clear hn0 hq0 ho0 hb0 hb2 hq hown hbw c0 c1 c2
      have n0 := hn2.cell 0
      have n1 := hn2.cell 1
      have n2 := hn2.cell 2
      simp only [List.getElem?_toArray, List.getElem?_cons_zero, List.getElem?_cons_succ] at n0 n1 n2
      rcases Bool.eq_false_or_eq_true (inB (pm + 1) 1000000 m) with g1 | g1
      · rw [g1]
        go_wp2_with fail
        refine (within_two lo hi 0 _ _ _ rfl).mono ?_
        rintro e w3 ⟨rfl, hb3⟩
        have hn3 := hn2.below hb3 hn2.lt
        have hq3 := hq2.below hb3 hq2.lt
        have ho3 := own_below ho2 hb3 (Nat.le_refl _)
        have hw3 : Below w1.heap.size w1 w3 := hw2.trans (hb3.mono hw2.size)
        clear hn2 hq2 ho2 hw2 hb3 n0 n1 n2
        have n0 := hn3.cell 0
        have n1 := hn3.cell 1
        have n2 := hn3.cell 2
        simp only [List.getElem?_toArray, List.getElem?_cons_zero, List.getElem?_cons_succ] at n0 n1 n2
        rcases Bool.eq_false_or_eq_true ([lo, hi].all (inB 0 10000000)) with g2 | g2
        · rw [g2]
          by_cases g3 : hi < lo
          · have g3' : decide (hi < lo) = true := by simpa using g3
            have hb : sdOk pm ⟨m, lo, hi⟩ = false := by simp only [sdOk, g1, g2, Bool.true_and]; simp; omega
            go_wp2_with fail
            go_ret2
            exact .bad (by rw [He.out, if_pos (Hbad.out hb)]) (by omega) (hb1.trans (hw3.mono hb1.size))
          · have g3' : decide (hi < lo) = false := by simpa using g3
            have hb : sdOk pm ⟨m, lo, hi⟩ = true := by simp only [sdOk, g1, g2, Bool.true_and]; simp; omega
            obtain ⟨m0, m1⟩ := inB_iff.1 g1
            have Hok2 := Lib.hid (Hgood.out hb)
            clear hb
            have h3s := hw3.size
            have hn3l := hn3.lt
            obtain ⟨wo, rfl⟩ : ∃ wo : World, wo = wr := ⟨_, rfl⟩
            go_wp2_with fail
            go_loopw [10, 12, 69] (fun t _ j wq => ∃ i : Nat, i ≤ b.length ∧ j = .int .i64 i ∧ t = .int .i64 (takenAt (b.take i) m) ∧ Below w3.heap.size w3 wq) (fun _ _ j _ => b.length - (intOf j).toNat)
            case atStart => exact ⟨0, Nat.zero_le _, rfl, rfl, Below.refl _ _⟩
            case round =>
              obtain ⟨i, hi2, rfl, rfl, hbi⟩ := hrel
              by_cases hlti : i < b.length
              · obtain ⟨by_, oy, rfl, hby, y0, y1⟩ := bks_cells b i hlti _ C _ _ _ (hs1.below ((hw3.trans (hbi.mono h3s)).mono hC1))
                have hyb := Hbo.out _ (List.getElem_mem hlti)
                have htk := List.take_succ_eq_append_getElem hlti
                obtain ⟨t0, t1⟩ := takenAt_bd (b := b.take i) (fun y hy => Hbo.out y (List.mem_of_mem_take hy)) m
                have tl : (b.take i).length ≤ 100 := by rw [List.length_take]; omega
                obtain ⟨y, hy⟩ : ∃ y, y = b[i] := ⟨_, rfl⟩
                rw [← hy] at y0 y1 hyb htk
                clear hy
                obtain ⟨ym, yl⟩ := y
                simp only [bkOk, Bool.and_eq_true, inB_iff] at hyb
                simp only at y0 y1
                obtain ⟨⟨q0, q1⟩, q2, q3⟩ := hyb
                have hsn := takenAt_snoc (b.take i) ⟨ym, yl⟩ m
                rw [← htk] at hsn
                simp only at hsn
                have hni := (hn3.below hbi hn3l).cell 0
                simp only [List.getElem?_toArray, List.getElem?_cons_zero] at hni
                have hsi := hbi.size
                have hwi : wo.heap.size < wr.heap.size := by omega
                obtain ⟨T, eT⟩ : ∃ T, T = takenAt (b.take i) m := ⟨_, rfl⟩
                rw [← eT] at t0 t1 hsn
                rw [← eT]
                have Hsn := Lib.hid hsn
                clear hsn htk eT n0 n1 n2
                by_cases hle : ym ≤ m
                · go_wp2_with fail
                  go_roundw
                  case rel => exact ⟨i + 1, by omega, by go_num, by rw [Hsn.out, if_pos hle], hbi.alloc hsi _⟩
                  case measure => simp [intOf]; omega
                · go_wp2_with fail
                  go_roundw
                  case rel => exact ⟨i + 1, by omega, by go_num, by rw [Hsn.out, if_neg hle, Int.add_zero], hbi.alloc hsi _⟩
                  case measure => simp [intOf]; omega
              · obtain rfl : i = b.length := by omega
                have hq4 := hq3.below hbi hq3.lt
                have ho4 := own_below ho3 hbi (Nat.le_refl _)
                have hw4 : Below w1.heap.size w1 wr := hw3.trans (hbi.mono h3s)
                have h4s := hw4.size
                have htt : takenAt (b.take b.length) m = takenAt b m := by rw [List.take_length]
                rw [htt]
                obtain ⟨T, eT⟩ : ∃ T, T = takenAt b m := ⟨_, rfl⟩
                have hts := Hts.out
                rw [← eT] at hts
                rw [← eT]
                have Hts2 := Lib.hid hts
                clear eT htt hts n0 n1 n2 hq3 ho3 hn3
                have kq0 := hq4.cell 1
                simp only [List.getElem?_toArray, List.getElem?_cons_zero, List.getElem?_cons_succ] at kq0
                have hq4l := hq4.lt
                go_wp2_with (at_builtin; refine wpList_push int_elem rfl (.tmp 87) (.tmp 89) rfl rfl ho4 _ rfl rfl (by simp [Value.oneCell']) (by simp only [maxLen]; omega) (by omega) (by omega) ?_; intro v9 w9 hown9 hg9 _; obtain ⟨g9, cap9, rfl, q91, q92⟩ := hown9.form (by omega); have hq9 := hq4.push ho4 hg9 (by omega); have k9 := hq9.cell 1; have z9 := hq9.frozen 1; simp only [List.getElem?_toArray, List.getElem?_cons_zero, List.getElem?_cons_succ] at k9)
                have hw9 := Below.push hw4 ho4 hg9 (by omega) (by omega)
                go_roundw
                case rel =>
                  refine ⟨k + 1, m, .slice (some ⟨g9, 0, none⟩) (k + 1) cap9, by omega, by go_num, rfl, rfl, rfl, by omega, by omega, Hps.out.symm, Hok2.out, ?_, ?_, hw9.setCell (Nat.le_refl _) _⟩
                  · have := hq9.set_ 1 (.slice (some ⟨g9, 0, none⟩) (k + 1) cap9)
                    simpa using this
                  · rw [Hts2.out]
                    have := own_far hown9 (grown_set w9 w1.heap.size 1 (.slice (some ⟨g9, 0, none⟩) (k + 1) cap9)) (by omega)
                    simpa [ints] using this
                case measure => simp [intOf]; omega
        · rw [g2]
          have hb : sdOk pm ⟨m, lo, hi⟩ = false := by simp only [sdOk, g2, Bool.false_and, Bool.and_false]
          go_wp2_with fail
          go_ret2
          exact .bad (by rw [He.out, if_pos (Hbad.out hb)]) (by omega) (hb1.trans (hw3.mono hb1.size))
      · rw [g1]
        have hb : sdOk pm ⟨m, lo, hi⟩ = false := by simp only [sdOk, g1, Bool.false_and]
        go_wp2_with fail
        go_ret2
        exact .bad (by rw [He.out, if_pos (Hbad.out hb)]) (by omega) (hb1.trans (hw2.mono hb1.size))
    · obtain rfl : k = l.length := by omega
      go_wp2_with fail
      go_ret2
      refine ⟨.inr ⟨by rw [He.out, Hok.out.all]; rfl, _, _, rfl, by rw [← evs]; exact hq, hb1.size, own_less hown (by have := hb1.size; omega)⟩, hb1.trans (hbw.mono hb1.size)⟩
end Go.Proofs.Ytkbfdgacnoadlaa
