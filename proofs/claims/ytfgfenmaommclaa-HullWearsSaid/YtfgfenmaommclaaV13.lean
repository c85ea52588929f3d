/- River: a place of a river: its reach, and the shoals there. -/
import Derived.Test.YtfgfenmaommclaaV5
import Derived.Test.YtfgfenmaommclaaPush2
namespace Go.Proofs.Ytfgfenmaommclaa
open Go.RowKit

/-- a place as a value -/
def placeV (x : Reach) (v : Value) (i : Int) (u : Value) : Array Value := #[.int .i64 x.len, .int .i64 x.delay, .int .i64 x.base.lo, .int .i64 x.base.hi, v, .int .i64 x.weir, .int .i64 x.bottom.lo, .int .i64 x.bottom.hi, .int .i64 x.flood, .int .i64 i, u]
theorem shoal_info : (Try.prog.info? 100).map (fun i => (i.zero, i.size, i.bytes)) = some (some (.agg #[.int .i64 0, .int .i64 0, .int .i64 0, .int .i64 0, .int .i64 0, .int .i64 0]), 6, 48) := by kernel_rfl
theorem shoal_elem : Elem Try.prog 47 100 6 48 := Elem.mk' Try.underlying47 shoal_info rfl (by omega)
theorem shoalsAt_snoc (l : List Shoal) (s : Shoal) (p : Int) : shoalsAt (l ++ [s]) p = if s.place = p then shoalsAt l p ++ [s] else shoalsAt l p := by
  unfold shoalsAt
  rw [List.filter_append]
  by_cases h : s.place = p <;> simp [h]
theorem shoalsAt_take (l : List Shoal) (p : Int) {k : Nat} (hk : k < l.length) : shoalsAt (l.take (k + 1)) p = if (l.getD k shoal0).place = p then shoalsAt (l.take k) p ++ [l.getD k shoal0] else shoalsAt (l.take k) p := by
  have e : l.getD k shoal0 = l[k] := by simp [hk]
  rw [List.take_succ_eq_append_getElem hk, shoalsAt_snoc, e]
theorem shoalsAt_len (l : List Shoal) (p : Int) (k : Nat) : (shoalsAt (l.take k) p).length ≤ l.length := by
  unfold shoalsAt
  have h1 := List.length_filter_le (fun s : Shoal => decide (s.place = p)) (l.take k)
  rw [List.length_take] at h1
  omega
theorem shoalsC_snoc (l : List Shoal) (s : Shoal) : shoalsC (l ++ [s]) = shoalsC l ++ shoalC s := by simp [shoalsC]
/-- what find leaves -/
def FindPost (w : World) (r : River) (vs : List Value) (p : Int) (e : Ending) (w' : World) : Prop :=
  ((inB 0 (placesOf r.reaches - 1) p = false ∧ ∃ z, e = .returned (.tuple #[z, .bool false])) ∨
   (inB 0 (placesOf r.reaches - 1) p = true ∧ ∃ u n c, e = .returned (.tuple #[.agg (placeV (r.reaches.getD (reachOf r.reaches p) reach0) (vs.getD (reachOf r.reaches p) undef) (reachOf r.reaches p : Nat) (.slice u n c)), .bool true]) ∧
      w'.ownsRow w.heap.size 100 6 (.slice u n c) (shoalsAt r.shoals p).length (shoalsC (shoalsAt r.shoals p)))) ∧ Below w.heap.size w w'

set_option maxHeartbeats 8000000 in
set_option maxRecDepth 100000 in
theorem find_any (r : River) (v u : Value) (vs : List Value) (p : Int) (w : World) (B : Nat) (hr : RdRiver w B v u r vs) (hB : B ≤ w.heap.size) (hok : riverB r = true) :
    Calls Try.prog 71 #[.agg #[v, u], .int .i64 p] w (FindPost w r vs p) := by
  have hR := riverB_ok hok
  have hall : r.reaches.all reachB = true := by
    simp only [riverB, Bool.and_eq_true] at hok
    exact hok.2.2.1
  obtain ⟨A, c, rfl, hnc⟩ := hr.reaches.shape
  obtain ⟨A', c', rfl, hnc'⟩ := hr.shoals.shape
  have hsm := hR.some
  have hfw := hR.few
  have hpl := hR.places
  have hln := fun W (h : RdRiver W B (.slice A r.reaches.length c) (.slice A' r.shoals.length c') r vs) (hB : B ≤ W.heap.size) => length_any r _ _ vs W B h hB (by omega) (lens_reach (by omega) hall)
  have hrq := fun i (hi : i < r.reaches.length) => (hR.reach i hi).len
  have hxl : ∀ x ∈ r.reaches, 0 ≤ x.len := fun x hx => by have := (reachB_ok (List.all_eq_true.1 hall x hx)).len; omega
  have Hln := Lib.hid hln
  have Hrq := Lib.hid hrq
  have Hxl := Lib.hid hxl
  clear hln hrq hxl hR hok hall
  obtain ⟨N, eN⟩ : ∃ N, N = placesOf r.reaches := ⟨_, rfl⟩
  rw [← eN] at hpl Hln
  have HN := Lib.hid eN
  clear eN
  have hn0 := (Blk.new w 49 #[.slice A r.reaches.length c, .slice A' r.shoals.length c']).alloc (.cells #[.int .i64 0, .int .i64 0, .int .i64 0, .int .i64 0, .slice none 0 0, .int .i64 0, .int .i64 0, .int .i64 0, .int .i64 0, .int .i64 0, .slice none 0 0] 138)
  have hq0 := blk_new2 w (.cells #[.slice A r.reaches.length c, .slice A' r.shoals.length c'] 49) 138 #[.int .i64 0, .int .i64 0, .int .i64 0, .int .i64 0, .slice none 0 0, .int .i64 0, .int .i64 0, .int .i64 0, .int .i64 0, .int .i64 0, .slice none 0 0]
  have b0 : Below w.heap.size w ((w.alloc (.cells #[.slice A r.reaches.length c, .slice A' r.shoals.length c'] 49)).alloc (.cells #[.int .i64 0, .int .i64 0, .int .i64 0, .int .i64 0, .slice none 0 0, .int .i64 0, .int .i64 0, .int .i64 0, .int .i64 0, .int .i64 0, .slice none 0 0] 138)) := ((Below.refl _ _).alloc (Nat.le_refl _) _).alloc (by simp) _
  go_enter Try.func71, Try.ntmps71
  go_wp2_with fail
  refine (Hln.out _ (hr.below (b0.mono hB)) (by simp; omega)).mono ?_
  rintro e w1 ⟨rfl, hb1⟩
  have hn1 := hn0.below hb1 hn0.lt
  have hq1 := hq0.below hb1 hq0.lt
  have b1 := b0.trans (hb1.mono b0.size)
  clear hb1 hn0 hq0 b0
  go_wp2_with fail
  refine (within_one p 0 (N - 1) _ _ rfl).mono ?_
  rintro e w2 ⟨rfl, hb2⟩
  have hn2 := hn1.below hb2 hn1.lt
  have hq2 := hq1.below hb2 hq1.lt
  have b2 := b1.trans (hb2.mono b1.size)
  clear hb2 hn1 hq1 b1
  have m0 := hn2.cell 0
  have m1 := hn2.cell 1
  simp only [List.getElem?_toArray, List.getElem?_cons_zero, List.getElem?_cons_succ] at m0 m1
  have q0 := hq2.cell 0
  have q1 := hq2.cell 1
  have q2 := hq2.cell 2
  have q3 := hq2.cell 3
  have q4 := hq2.cell 4
  have q5 := hq2.cell 5
  have q6 := hq2.cell 6
  have q7 := hq2.cell 7
  have q8 := hq2.cell 8
  have q9 := hq2.cell 9
  have q10 := hq2.cell 10
  simp only [List.getElem?_toArray, List.getElem?_cons_zero, List.getElem?_cons_succ] at q0 q1 q2 q3 q4 q5 q6 q7 q8 q9 q10
  rcases Bool.eq_false_or_eq_true (inB 0 (N - 1) p) with h1 | h1
  rotate_left
  · have H1 := Lib.hid h1
    rw [h1]
    clear h1
    have f0 := hq2.frozen 0
    have f1 := hq2.frozen 1
    have f2 := hq2.frozen 2
    have f3 := hq2.frozen 3
    have f4 := hq2.frozen 4
    have f5 := hq2.frozen 5
    have f6 := hq2.frozen 6
    have f7 := hq2.frozen 7
    have f8 := hq2.frozen 8
    have f9 := hq2.frozen 9
    have f10 := hq2.frozen 10
    have T0 := hq2.set_ 0 (.int .i64 0)
    have e0 := T0.cell 0
    have T1 := T0.set_ 1 (.int .i64 0)
    have e1 := T1.cell 1
    have T2 := T1.set_ 2 (.int .i64 0)
    have e2 := T2.cell 2
    have T3 := T2.set_ 3 (.int .i64 0)
    have e3 := T3.cell 3
    have T4 := T3.set_ 4 (.slice none 0 0)
    have e4 := T4.cell 4
    have T5 := T4.set_ 5 (.int .i64 0)
    have e5 := T5.cell 5
    have T6 := T5.set_ 6 (.int .i64 0)
    have e6 := T6.cell 6
    have T7 := T6.set_ 7 (.int .i64 0)
    have e7 := T7.cell 7
    have T8 := T7.set_ 8 (.int .i64 0)
    have e8 := T8.cell 8
    have T9 := T8.set_ 9 (.int .i64 0)
    have e9 := T9.cell 9
    have T10 := T9.set_ 10 (.slice none 0 0)
    have e10 := T10.cell 10
    simp only [List.setIfInBounds_toArray, List.set_cons_zero, List.set_cons_succ, List.getElem?_toArray, List.getElem?_cons_zero, List.getElem?_cons_succ] at e0 e1 e2 e3 e4 e5 e6 e7 e8 e9 e10 T10
    go_wp2_with fail
    refine bodyPost_ret (v := .tuple #[.agg #[.int .i64 0, .int .i64 0, .int .i64 0, .int .i64 0, .slice none 0 0, .int .i64 0, .int .i64 0, .int .i64 0, .int .i64 0, .int .i64 0, .slice none 0 0], .bool false]) (by simp [results, Try.results71, go_sem, e0, e1, e2, e3, e4, e5, e6, e7, e8, e9, e10]) rfl ⟨.inl ⟨by rw [← HN.out]; exact H1.out, _, rfl⟩, ?_⟩
    exact (((((((((((b2.setCell (p := ⟨w.heap.size + 1, 0, none⟩) (by show w.heap.size ≤ w.heap.size + 1; omega) _).setCell (p := ⟨w.heap.size + 1, 1, none⟩) (by show w.heap.size ≤ w.heap.size + 1; omega) _).setCell (p := ⟨w.heap.size + 1, 2, none⟩) (by show w.heap.size ≤ w.heap.size + 1; omega) _).setCell (p := ⟨w.heap.size + 1, 3, none⟩) (by show w.heap.size ≤ w.heap.size + 1; omega) _).setCell (p := ⟨w.heap.size + 1, 4, none⟩) (by show w.heap.size ≤ w.heap.size + 1; omega) _).setCell (p := ⟨w.heap.size + 1, 5, none⟩) (by show w.heap.size ≤ w.heap.size + 1; omega) _).setCell (p := ⟨w.heap.size + 1, 6, none⟩) (by show w.heap.size ≤ w.heap.size + 1; omega) _).setCell (p := ⟨w.heap.size + 1, 7, none⟩) (by show w.heap.size ≤ w.heap.size + 1; omega) _).setCell (p := ⟨w.heap.size + 1, 8, none⟩) (by show w.heap.size ≤ w.heap.size + 1; omega) _).setCell (p := ⟨w.heap.size + 1, 9, none⟩) (by show w.heap.size ≤ w.heap.size + 1; omega) _).setCell (p := ⟨w.heap.size + 1, 10, none⟩) (by show w.heap.size ≤ w.heap.size + 1; omega) _)
  rw [h1]
  have H1 := Lib.hid h1
  have hp := inB_iff.1 h1
  have hn2l := hn2.lt
  have hq2l := hq2.lt
  clear h1 q0 q1 q2 q3 q4 q5 q6 q7 q8 q9 q10 m0
  go_wp2_with fail
  go_loopw [7, 19] (fun _ i wr => ∃ (k : Nat) (u : Option Addr) (n c0 : Nat), k ≤ r.shoals.length ∧ i = .int .i64 k ∧ Blk wr (w.heap.size + 1) 138 #[.int .i64 0, .int .i64 0, .int .i64 0, .int .i64 0, .slice none 0 0, .int .i64 0, .int .i64 0, .int .i64 0, .int .i64 0, .int .i64 0, .slice u n c0] ∧ wr.ownsRow w2.heap.size 100 6 (.slice u n c0) (shoalsAt (r.shoals.take k) p).length (shoalsC (shoalsAt (r.shoals.take k) p)) ∧
      Blk wr w.heap.size 49 #[.slice A r.reaches.length c, .slice A' r.shoals.length c'] ∧ Below w.heap.size w wr ∧ w2.heap.size ≤ wr.heap.size) (fun _ i _ => r.shoals.length - (intOf i).toNat)
  case atStart => exact ⟨0, none, 0, 0, Nat.zero_le _, rfl, hq2, own_nil _ _ _ _, hn2, b2, Nat.le_refl _⟩
  case round =>
    clear hq2 hn2 b2 m1
    obtain ⟨k, u, n, c0, hk, rfl, hq, hown, hn, hbw, hbase⟩ := hrel
    by_cases hlt : k < r.shoals.length
    · obtain ⟨b, off, rfl, hb, ⟨s0, s1, s2, s3, s4, s5⟩⟩ := shoals_cells r.shoals k hlt _ B _ _ _ (hr.shoals.below (hbw.mono hB))
      have hst := shoalsAt_take r.shoals p hlt
      have hsl := shoalsAt_len r.shoals p k
      obtain ⟨s, es⟩ : ∃ s, s = r.shoals.getD k shoal0 := ⟨_, rfl⟩
      rw [← es] at s0 s1 s2 s3 s4 s5 hst
      have Hst := Lib.hid hst
      clear hst es
      have hsz := hbw.size
      have hql := hq.lt
      by_cases hpp : s.place = p
      · have hpp' : (s.place == p) = true := by simpa using hpp
        have Hst2 := Lib.hid (Hst.out.trans (if_pos hpp))
        clear hpp Hst
        have hq3 := hq.alloc (.cells #[.int .i64 s.place, .int .i64 s.bed.lo, .int .i64 s.bed.hi, .int .i64 s.sounded, .int .i64 s.grow.lo, .int .i64 s.grow.hi] 100)
        have ho3 := hown.alloc (.cells #[.int .i64 s.place, .int .i64 s.bed.lo, .int .i64 s.bed.hi, .int .i64 s.sounded, .int .i64 s.grow.lo, .int .i64 s.grow.hi] 100)
        have hn3 := hn.alloc (.cells #[.int .i64 s.place, .int .i64 s.bed.lo, .int .i64 s.bed.hi, .int .i64 s.sounded, .int .i64 s.grow.lo, .int .i64 s.grow.hi] 100)
        have b3 : Below w.heap.size w (wr.alloc (.cells #[.int .i64 s.place, .int .i64 s.bed.lo, .int .i64 s.bed.hi, .int .i64 s.sounded, .int .i64 s.grow.lo, .int .i64 s.grow.hi] 100)) := hbw.alloc hsz _
        have y10 := hq3.cell 10
        have y11 := hq.cell 10
        simp only [List.getElem?_toArray, List.getElem?_cons_succ] at y10 y11
        go_wp2_with (at_builtin; refine wpList_push_at shoal_elem rfl (.tmp 28) (.tmp 30) rfl rfl ho3 _ (wr.heap.size + 1) rfl (by simp) rfl (by simp [Value.oneCell']) (by simp only [maxLen]; omega) (by omega) (by simp; omega) ?_; intro v6 w6 hown6 hg6 hat6; obtain ⟨g9, cap9, rfl, q91, q92⟩ := hown6.form (by omega); have hq6 := hq3.push ho3 hg6 (by omega); have k9 := hq6.cell 10; have z9 := hq6.frozen 10; simp only [List.getElem?_toArray, List.getElem?_cons_zero, List.getElem?_cons_succ] at k9)
        have hn6 := hn3.push ho3 hg6 (by omega)
        have b6 := Below.push b3 ho3 hg6 (by omega) b3.size
        go_wp2_with fail
        go_roundw
        case rel =>
          refine ⟨k + 1, _, _, _, by omega, by go_num, hq6.set_ 10 _, ?_, hn6.far (p := ⟨w.heap.size + 1, 10, none⟩) (by show w.heap.size ≠ w.heap.size + 1; omega) _, b6.setCell (p := ⟨w.heap.size + 1, 10, none⟩) (by show w.heap.size ≤ w.heap.size + 1; omega) _, by have := hg6.size; simp at this ⊢; omega⟩
          rw [Hst2.out, shoalsC_snoc, List.length_append]
          exact own_far hown6 (grown_set w6 (w.heap.size + 1) 10 _) (by omega)
        case measure => simp [intOf]; omega
      · have hpp' : (s.place == p) = false := by simpa using hpp
        have Hst2 := Lib.hid (Hst.out.trans (if_neg hpp))
        clear hpp Hst
        go_wp2_with fail
        go_roundw
        case rel =>
          refine ⟨k + 1, u, n, c0, by omega, by go_num, hq.alloc _, ?_, hn.alloc _, hbw.alloc hsz _, by simp; omega⟩
          rw [Hst2.out]
          exact hown.alloc _
        case measure => simp [intOf]; omega
    · obtain rfl : k = r.shoals.length := by omega
      rw [List.take_length] at hown
      have hsz := hbw.size
      have hql := hq.lt
      have hgr := World.grownBy.refl wr (some (w.heap.size + 1))
      obtain ⟨wo, rfl⟩ : ∃ wo : World, wo = wr := ⟨_, rfl⟩
      have m0 := hn.cell 0
      simp only [List.getElem?_toArray, List.getElem?_cons_zero] at m0
      go_wp2_with fail
      go_loopw [1, 37] (fun t i wr => ∃ (k : Nat) (x : Reach) (v : Value) (y : Int), k ≤ r.reaches.length ∧ i = .int .i64 k ∧ t = .int .i64 (p - placesOf (r.reaches.take k)) ∧ 0 ≤ placesOf (r.reaches.take k) ∧ placesOf (r.reaches.take k) ≤ p ∧
          Blk wr (w.heap.size + 1) 138 (placeV x v y (.slice u n c0)) ∧ wo.grownBy wr (some (w.heap.size + 1))) (fun _ i _ => r.reaches.length - (intOf i).toNat)
      case atStart => exact ⟨0, reach0, .slice none 0 0, 0, Nat.zero_le _, rfl, by simp [placesOf], by simp [placesOf], by simp [placesOf]; omega, hq, hgr⟩
      case round =>
        clear hq hgr m0
        obtain ⟨k, x0, v0, y0, hk, rfl, rfl, hp0, hp1, hq, hgr⟩ := hrel
        have hlt : k < r.reaches.length := by
          rcases Nat.lt_or_ge k r.reaches.length with h | h
          · exact h
          · rw [List.take_of_length_le h, ← HN.out] at hp1
            omega
        have hbi : Below w.heap.size w wr := hbw.grown hgr hsz (fun g e => by injection e with e; omega)
        have hn5 := hn.grown hgr (by intro e; injection e with e; omega)
        obtain ⟨b, off, rfl, hb, ⟨d0, d1, d2, d3, d4, d5, d6, d7, d8⟩⟩ := reaches_cells (hr.reaches.below (hbi.mono hB)) k hlt
        obtain ⟨Ak, ck, ek, _⟩ := (hr.reaches.curve k hlt).shape
        rw [ek] at d4
        have hsc := placesOf_succ hlt
        have hxl := Hrq.out k hlt
        have hro := fun h1 h2 => reachOf_eq r.reaches p k Hxl.out hlt h1 h2
        rw [hsc] at hro
        obtain ⟨x, ex⟩ : ∃ x, x = r.reaches.getD k reach0 := ⟨_, rfl⟩
        rw [← ex] at d0 d1 d2 d3 d4 d5 d6 d7 d8 hsc hxl hro
        obtain ⟨S, eS⟩ : ∃ S, S = placesOf (r.reaches.take k) := ⟨_, rfl⟩
        rw [← eS] at hp0 hp1 hsc hro ⊢
        have Hsc := Lib.hid hsc
        have Hro := Lib.hid hro
        have Ek := Lib.hid ek
        have Ex := Lib.hid ex
        clear hsc hro eS ek ex
        have hki : (k : Int) < (r.reaches.length : Int) := by omega
        have hk0 : (0 : Int) ≤ (k : Int) := by omega
        unfold placeV at hq
        have n0 := hn5.cell 0
        simp only [List.getElem?_toArray, List.getElem?_cons_zero] at n0
        have f0 := hq.frozen 0
        have f1 := hq.frozen 1
        have f2 := hq.frozen 2
        have f3 := hq.frozen 3
        have f4 := hq.frozen 4
        have f5 := hq.frozen 5
        have f6 := hq.frozen 6
        have f7 := hq.frozen 7
        have f8 := hq.frozen 8
        have f9 := hq.frozen 9
        have f10 := hq.frozen 10
        have r0 := hq.cell 0
        have r1 := hq.cell 1
        have r2 := hq.cell 2
        have r3 := hq.cell 3
        have r4 := hq.cell 4
        have r5 := hq.cell 5
        have r6 := hq.cell 6
        have r7 := hq.cell 7
        have r8 := hq.cell 8
        have r9 := hq.cell 9
        have r10 := hq.cell 10
        simp only [List.getElem?_toArray, List.getElem?_cons_zero, List.getElem?_cons_succ] at r0 r1 r2 r3 r4 r5 r6 r7 r8 r9 r10
        have T0 := hq.set_ 9 (.int .i64 (k : Int))
        have e0 := T0.cell 9
        have T1 := T0.set_ 0 (.int .i64 x.len)
        have e1 := T1.cell 0
        have T2 := T1.set_ 1 (.int .i64 x.delay)
        have e2 := T2.cell 1
        have T3 := T2.set_ 2 (.int .i64 x.base.lo)
        have e3 := T3.cell 2
        have T4 := T3.set_ 3 (.int .i64 x.base.hi)
        have e4 := T4.cell 3
        have T5 := T4.set_ 4 (.slice Ak x.curve.length ck)
        have e5 := T5.cell 4
        have T6 := T5.set_ 5 (.int .i64 x.weir)
        have e6 := T6.cell 5
        have T7 := T6.set_ 6 (.int .i64 x.bottom.lo)
        have e7 := T7.cell 6
        have T8 := T7.set_ 7 (.int .i64 x.bottom.hi)
        have e8 := T8.cell 7
        have T9 := T8.set_ 8 (.int .i64 x.flood)
        have e9 := T9.cell 8
        simp only [List.setIfInBounds_toArray, List.set_cons_zero, List.set_cons_succ, List.getElem?_toArray, List.getElem?_cons_zero, List.getElem?_cons_succ] at e0 e1 e2 e3 e4 e5 e6 e7 e8 e9 T9
        have ga : wo.grownBy ((((((((((wr.setCell ⟨w.heap.size + 1, 9, none⟩ (.int .i64 (k : Int))).setCell ⟨w.heap.size + 1, 0, none⟩ (.int .i64 x.len)).setCell ⟨w.heap.size + 1, 1, none⟩ (.int .i64 x.delay)).setCell ⟨w.heap.size + 1, 2, none⟩ (.int .i64 x.base.lo)).setCell ⟨w.heap.size + 1, 3, none⟩ (.int .i64 x.base.hi)).setCell ⟨w.heap.size + 1, 4, none⟩ (.slice Ak x.curve.length ck)).setCell ⟨w.heap.size + 1, 5, none⟩ (.int .i64 x.weir)).setCell ⟨w.heap.size + 1, 6, none⟩ (.int .i64 x.bottom.lo)).setCell ⟨w.heap.size + 1, 7, none⟩ (.int .i64 x.bottom.hi)).setCell ⟨w.heap.size + 1, 8, none⟩ (.int .i64 x.flood)) (some (w.heap.size + 1)) := (((((((((hgr.trans (grown_set _ _ _ _)).trans (grown_set _ _ _ _)).trans (grown_set _ _ _ _)).trans (grown_set _ _ _ _)).trans (grown_set _ _ _ _)).trans (grown_set _ _ _ _)).trans (grown_set _ _ _ _)).trans (grown_set _ _ _ _)).trans (grown_set _ _ _ _)).trans (grown_set _ _ _ _)
        by_cases hbr : p - S < x.len
        · have hbr' : decide (p - S < x.len) = true := by simpa using hbr
          have hro := Lib.hid (Hro.out hp1 (by omega))
          clear hbr Hsc Hro
          have U0 := T9.set_ 0 (.int .i64 x.len)
          have g0 := U0.cell 0
          have U1 := U0.set_ 1 (.int .i64 x.delay)
          have g1 := U1.cell 1
          have U2 := U1.set_ 2 (.int .i64 x.base.lo)
          have g2 := U2.cell 2
          have U3 := U2.set_ 3 (.int .i64 x.base.hi)
          have g3 := U3.cell 3
          have U4 := U3.set_ 4 (.slice Ak x.curve.length ck)
          have g4 := U4.cell 4
          have U5 := U4.set_ 5 (.int .i64 x.weir)
          have g5 := U5.cell 5
          have U6 := U5.set_ 6 (.int .i64 x.bottom.lo)
          have g6 := U6.cell 6
          have U7 := U6.set_ 7 (.int .i64 x.bottom.hi)
          have g7 := U7.cell 7
          have U8 := U7.set_ 8 (.int .i64 x.flood)
          have g8 := U8.cell 8
          have U9 := U8.set_ 9 (.int .i64 (k : Int))
          have g9 := U9.cell 9
          have U10 := U9.set_ 10 (.slice u n c0)
          have g10 := U10.cell 10
          simp only [List.setIfInBounds_toArray, List.set_cons_zero, List.set_cons_succ, List.getElem?_toArray, List.getElem?_cons_zero, List.getElem?_cons_succ] at g0 g1 g2 g3 g4 g5 g6 g7 g8 g9 g10 U10
          have gb : wo.grownBy (((((((((((((((((((((wr.setCell ⟨w.heap.size + 1, 9, none⟩ (.int .i64 (k : Int))).setCell ⟨w.heap.size + 1, 0, none⟩ (.int .i64 x.len)).setCell ⟨w.heap.size + 1, 1, none⟩ (.int .i64 x.delay)).setCell ⟨w.heap.size + 1, 2, none⟩ (.int .i64 x.base.lo)).setCell ⟨w.heap.size + 1, 3, none⟩ (.int .i64 x.base.hi)).setCell ⟨w.heap.size + 1, 4, none⟩ (.slice Ak x.curve.length ck)).setCell ⟨w.heap.size + 1, 5, none⟩ (.int .i64 x.weir)).setCell ⟨w.heap.size + 1, 6, none⟩ (.int .i64 x.bottom.lo)).setCell ⟨w.heap.size + 1, 7, none⟩ (.int .i64 x.bottom.hi)).setCell ⟨w.heap.size + 1, 8, none⟩ (.int .i64 x.flood)).setCell ⟨w.heap.size + 1, 0, none⟩ (.int .i64 x.len)).setCell ⟨w.heap.size + 1, 1, none⟩ (.int .i64 x.delay)).setCell ⟨w.heap.size + 1, 2, none⟩ (.int .i64 x.base.lo)).setCell ⟨w.heap.size + 1, 3, none⟩ (.int .i64 x.base.hi)).setCell ⟨w.heap.size + 1, 4, none⟩ (.slice Ak x.curve.length ck)).setCell ⟨w.heap.size + 1, 5, none⟩ (.int .i64 x.weir)).setCell ⟨w.heap.size + 1, 6, none⟩ (.int .i64 x.bottom.lo)).setCell ⟨w.heap.size + 1, 7, none⟩ (.int .i64 x.bottom.hi)).setCell ⟨w.heap.size + 1, 8, none⟩ (.int .i64 x.flood)).setCell ⟨w.heap.size + 1, 9, none⟩ (.int .i64 (k : Int))).setCell ⟨w.heap.size + 1, 10, none⟩ (.slice u n c0)) (some (w.heap.size + 1)) := ((((((((((ga.trans (grown_set _ _ _ _)).trans (grown_set _ _ _ _)).trans (grown_set _ _ _ _)).trans (grown_set _ _ _ _)).trans (grown_set _ _ _ _)).trans (grown_set _ _ _ _)).trans (grown_set _ _ _ _)).trans (grown_set _ _ _ _)).trans (grown_set _ _ _ _)).trans (grown_set _ _ _ _)).trans (grown_set _ _ _ _)
          go_wp2_with fail
          refine bodyPost_ret (v := .tuple #[.agg #[.int .i64 x.len, .int .i64 x.delay, .int .i64 x.base.lo, .int .i64 x.base.hi, .slice Ak x.curve.length ck, .int .i64 x.weir, .int .i64 x.bottom.lo, .int .i64 x.bottom.hi, .int .i64 x.flood, .int .i64 (k : Int), .slice u n c0], .bool true]) (by simp [results, Try.results71, go_sem, g0, g1, g2, g3, g4, g5, g6, g7, g8, g9, g10]) rfl ⟨.inr ⟨by rw [← HN.out]; exact H1.out, u, n, c0, ?_, ?_⟩, ?_⟩
          · rw [hro.out, Ek.out, ← Ex.out]
            rfl
          · exact own_less (own_far hown gb (by omega)) (by omega)
          · exact hbw.grown gb hsz (fun g e => by injection e with e; omega)
        · have hbr' : decide (p - S < x.len) = false := by simpa using hbr
          go_wp2_with fail
          go_roundw
          case rel =>
            refine ⟨k + 1, x, .slice Ak x.curve.length ck, k, by omega, by go_num, ?_, ?_, ?_, T9, ga⟩
            · rw [Hsc.out]; go_num
            · rw [Hsc.out]; omega
            · rw [Hsc.out]; omega
          case measure => simp [intOf]; omega
end Go.Proofs.Ytfgfenmaommclaa
