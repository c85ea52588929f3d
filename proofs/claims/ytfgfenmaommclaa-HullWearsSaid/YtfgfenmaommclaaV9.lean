/- River: a river with its flows, or the error. -/
import Derived.Test.YtfgfenmaommclaaV8
import Derived.Test.YtfgfenmaommclaaV7
namespace Go.Proofs.Ytfgfenmaommclaa
open Go.RowKit

/-- the flows of the first so many reaches -/
def flowsUp (r : List Reach) (sides : List (List Bd)) (k : Nat) : List (List Bd) := (List.range k).map (flowsOf r sides (sides.getD 0 []).length)
theorem flowsUp_len (r : List Reach) (sides : List (List Bd)) (k : Nat) : (flowsUp r sides k).length = k := by simp [flowsUp]
theorem flowsUp_succ (r : List Reach) (sides : List (List Bd)) (k : Nat) : flowsUp r sides (k + 1) = flowsUp r sides k ++ [flowsOf r sides (sides.getD 0 []).length k] := by simp [flowsUp, List.range_succ]
theorem flowsOf_len (r : List Reach) (sides : List (List Bd)) (m i : Nat) : (flowsOf r sides m i).length = m := by simp [flowsOf]
theorem flowsUp_at (r : List Reach) (sides : List (List Bd)) {k i : Nat} (hi : i < k) : (flowsUp r sides k).getD i [] = flowsOf r sides (sides.getD 0 []).length i := by simp [flowsUp, hi]
theorem flowsOf_at (r : List Reach) (sides : List (List Bd)) {m i t : Nat} (ht : t < m) : (flowsOf r sides m i).getD t bd0 = flowIn r sides i (t : Int) := by simp [flowsOf, ht]
theorem flowsOf_take (r : List Reach) (sides : List (List Bd)) {m i j : Nat} (hj : j < m) : (flowsOf r sides m i).take (j + 1) = (flowsOf r sides m i).take j ++ [flowIn r sides i (j : Int)] := by
  rw [List.take_succ_eq_append_getElem (by rw [flowsOf_len]; exact hj)]
  simp [flowsOf]
theorem flowIn_zero (r : List Reach) (sides : List (List Bd)) (j : Nat) : flowIn r sides 0 (j : Int) = (sides.getD 0 []).getD j bd0 := by
  rw [flowIn, if_neg (by omega)]; simp
theorem flowIn_step (r : List Reach) (sides : List (List Bd)) (i j : Nat) : flowIn r sides (i + 1) (j : Int) = ((sides.getD (i + 1) []).getD j bd0).add (flowIn r sides i ((j : Int) - (r.getD i reach0).delay)) := by
  rw [flowIn, if_neg (by omega)]; simp
theorem side_err {r : River} {sides : List (List Bd)} (h1 : riverB r = true) : startErr r sides = if sides.length ≠ r.reaches.length ∨ (sides.getD 0 []).length = 0 then 4
  else if (sides.all fun l => decide (l.length = (sides.getD 0 []).length)) = false then 4
  else if 400 < (sides.getD 0 []).length then 5
  else if (sides.all fun l => l.all (bdOk 0 10000000000)) = false then 2 else 0 := by
  rw [startErr, if_neg (by rw [h1]; simp)]
/-- the stream: its block, and the flows that it holds -/
structure Stream (w : World) (base g : Nat) (v u vf : Value) (fs : List Value) (F : List (List Bd)) : Prop where
  blk : Blk w g 165 #[v, u, vf]
  rows : Rows w base 101 1 vf F.length fs 25 2 fs (rowsB F)
def OpenPost (w : World) (v u : Value) (r : River) (sides : List (List Bd)) (e : Ending) (w' : World) : Prop :=
  ((startErr r sides ≠ 0 ∧ e = .returned (.tuple #[.pointer none, .int .i64 (startErr r sides)])) ∨
   (startErr r sides = 0 ∧ ∃ g vf fs, e = .returned (.tuple #[.pointer (some ⟨g, 0, none⟩), .int .i64 0]) ∧ w.heap.size ≤ g ∧ Stream w' (g + 1) g v u vf fs (flowsUp r.reaches sides sides.length))) ∧ Below w.heap.size w w'
theorem OpenPost.bad {w w' : World} {v u : Value} {r : River} {sides : List (List Bd)} {y : Int} (h : startErr r sides = y) (hy : y ≠ 0) (hb : Below w.heap.size w w') : OpenPost w v u r sides (.returned (.tuple #[.pointer none, .int .i64 y])) w' :=
  ⟨.inl ⟨by rw [h]; exact hy, by rw [h]⟩, hb⟩
theorem rowsB_snoc (l : List (List Bd)) (x : List Bd) : rowsB (l ++ [x]) = rowsB l ++ [(x.length, bdsC x)] := by simp [rowsB]
theorem lists_info : (Try.prog.info? 101).map (fun i => (i.zero, i.size, i.bytes)) = some (some (.slice none 0 0), 1, 24) := by kernel_rfl
theorem lists_elem : Elem Try.prog 50 101 1 24 := Elem.mk' Try.underlying50 lists_info rfl (by omega)

set_option maxHeartbeats 8000000 in
set_option maxRecDepth 100000 in
theorem open_any (r : River) (sides : List (List Bd)) (v u s : Value) (vs ss : List Value) (w : World) (B : Nat) (hr : RdRiver w B v u r vs) (hs : RdSides w B s sides ss) (hB : B ≤ w.heap.size)
    (hl : r.reaches.length ≤ 1048576) (hl2 : r.shoals.length ≤ 1048576) (hcv : CurvesB r.reaches) (hl3 : sides.length ≤ 1048576) (hsb : SidesB sides) :
    Calls Try.prog 48 #[.agg #[v, u], s] w (OpenPost w v u r sides) := by
  obtain ⟨A, c, rfl, hnc⟩ := hr.reaches.shape
  obtain ⟨A', c', rfl, hnc'⟩ := hr.shoals.shape
  obtain ⟨A2, c2, rfl, hnc2⟩ := hs.rd.shape
  have hn0 := (Blk.new w 49 #[.slice A r.reaches.length c, .slice A' r.shoals.length c']).alloc (.cells #[.slice A2 sides.length c2] 50)
  have hm0 := blk_new2 w (.cells #[.slice A r.reaches.length c, .slice A' r.shoals.length c'] 49) 50 #[.slice A2 sides.length c2]
  have b0 : Below w.heap.size w ((w.alloc (.cells #[.slice A r.reaches.length c, .slice A' r.shoals.length c'] 49)).alloc (.cells #[.slice A2 sides.length c2] 50)) := ((Below.refl _ _).alloc (Nat.le_refl _) _).alloc (by simp) _
  have Hcv := Lib.hid hcv
  have Hsb := Lib.hid hsb
  clear hcv hsb
  go_enter Try.func48, Try.ntmps48
  go_wp2_with fail
  refine (check_any r _ _ vs _ B (hr.below (b0.mono hB)) (by simp; omega) hl hl2 Hcv.out).mono ?_
  rintro e w1 ⟨rfl, hb1⟩
  have hn1 := hn0.below hb1 hn0.lt
  have hm1 := hm0.below hb1 hm0.lt
  have b1 := b0.trans (hb1.mono b0.size)
  clear hb1 hn0 hm0 b0
  rcases Bool.eq_false_or_eq_true (riverB r) with h1 | h1
  rotate_left
  · rw [h1]
    unfold errB
    go_wp2_with fail
    go_ret2
    exact .bad (by rw [startErr, if_pos h1]) (by simp) b1
  rw [h1]
  unfold errB
  have hok := riverB_ok h1
  have Hok := Lib.hid hok
  have Herr := Lib.hid (side_err (sides := sides) h1)
  have hsome := hok.some
  clear h1 hok
  have hs1 := hs.below (b1.mono hB)
  have m0 := hn1.cell 0
  have m1 := hn1.cell 1
  simp only [List.getElem?_toArray, List.getElem?_cons_zero, List.getElem?_cons_succ] at m0 m1
  have s0 := hm1.cell 0
  simp only [List.getElem?_toArray, List.getElem?_cons_zero] at s0
  have hb1s := b1.size
  have hn1l := hn1.lt
  have hm1l := hm1.lt
  by_cases h2 : sides.length = r.reaches.length
  rotate_left
  · have h2' : ((sides.length : Int) != (r.reaches.length : Int)) = true := by simp; omega
    have He := Lib.hid (show startErr r sides = 4 by rw [Herr.out, if_pos (.inl h2)])
    clear h2
    go_wp2_with fail
    go_ret2
    exact .bad He.out (by omega) b1
  have h2' : ((sides.length : Int) != (r.reaches.length : Int)) = false := by simp [h2]
  have h0 : 0 < sides.length := by omega
  obtain ⟨b, off, rfl, hb, d0⟩ := sides_cell hs1 0 h0
  obtain ⟨A0, k0, e0, _⟩ := (hs1.side 0 h0).shape
  rw [e0, Nat.add_zero] at d0
  have H2 := Lib.hid h2
  have h0' : (0 : Int) < (sides.length : Int) := by omega
  clear h2 e0
  obtain ⟨m, hm⟩ : ∃ m, m = (sides.getD 0 []).length := ⟨_, rfl⟩
  rw [← hm] at d0
  have HM := Lib.hid hm
  have Herr2 := Lib.hid (show startErr r sides = if m = 0 then 4 else if (sides.all fun l => decide (l.length = m)) = false then 4 else if 400 < m then 5 else if (sides.all fun l => l.all (bdOk 0 10000000000)) = false then 2 else 0 by
    rw [Herr.out, ← hm]
    by_cases hz : m = 0
    · rw [if_pos (.inr hz), if_pos hz]
    · rw [if_neg (by rintro (h | h); exact h H2.out; exact hz h), if_neg hz])
  clear Herr hm
  by_cases h3 : m = 0
  · have h3' : ((m : Int) == 0) = true := by simp [h3]
    have He := Lib.hid (show startErr r sides = 4 by rw [Herr2.out, if_pos h3])
    clear h3
    go_wp2_with fail
    go_ret2
    exact .bad He.out (by omega) b1
  have h3' : ((m : Int) == 0) = false := by simpa using h3
  have Herr3 := Lib.hid (show startErr r sides = if (sides.all fun l => decide (l.length = m)) = false then 4 else if 400 < m then 5 else if (sides.all fun l => l.all (bdOk 0 10000000000)) = false then 2 else 0 by rw [Herr2.out, if_neg h3])
  clear Herr2
  have hcall := contains_other sides _ ss w1 B hs1 (by omega) hl3 Hsb.out ⟨w.heap.size + 1, 0, none⟩ s0 hm1l h0
  rw [← HM.out] at hcall
  have Hcall := Lib.hid hcall
  clear hcall
  rcases Bool.eq_false_or_eq_true (sides.all fun l => decide (l.length = m)) with h4 | h4
  rotate_left
  · rw [h4] at Hcall
    have He := Lib.hid (show startErr r sides = 4 by rw [Herr3.out, if_pos h4])
    clear h4
    go_wp2_with fail
    refine Hcall.out.mono ?_
    rintro e w2 ⟨rfl, hb2⟩
    go_wp2_with fail
    go_ret2
    exact .bad He.out (by omega) (b1.trans (hb2.mono hb1s))
  rw [h4] at Hcall
  have H4 := Lib.hid h4
  clear h4
  go_wp2_with fail
  refine Hcall.out.mono ?_
  rintro e w2 ⟨rfl, hb2⟩
  clear Hcall
  have hn2 := hn1.below hb2 hn1.lt
  have hm2 := hm1.below hb2 hm1.lt
  have b2 := b1.trans (hb2.mono b1.size)
  have hs2 := hs1.below (hb2.mono (by omega))
  have e2 := (hb2.cell (p := ⟨b, off, none⟩) (by show b < _; omega)).trans d0
  clear hb2 hn1 hm1 b1 hs1 m0 m1 s0 d0 hb1s hn1l hm1l
  have m0 := hn2.cell 0
  have m1 := hn2.cell 1
  simp only [List.getElem?_toArray, List.getElem?_cons_zero, List.getElem?_cons_succ] at m0 m1
  have s0 := hm2.cell 0
  simp only [List.getElem?_toArray, List.getElem?_cons_zero] at s0
  have hb2s := b2.size
  have hn2l := hn2.lt
  have hm2l := hm2.lt
  by_cases h5 : 400 < m
  · have h5' : decide ((400 : Int) < (m : Int)) = true := by simp; omega
    have He := Lib.hid (show startErr r sides = 5 by rw [Herr3.out, if_neg (by rw [H4.out]; simp), if_pos h5])
    go_wp2_with fail
    go_ret2
    exact .bad He.out (by omega) b2
  have h5' : decide ((400 : Int) < (m : Int)) = false := by simp; omega
  have Herr4 := Lib.hid (show startErr r sides = if (sides.all fun l => l.all (bdOk 0 10000000000)) = false then 2 else 0 by rw [Herr3.out, if_neg (by rw [H4.out]; simp), if_neg h5])
  clear Herr3
  have hcall := contains_bad sides _ ss w2 B hs2 (by omega) hl3 Hsb.out
  have Hcall := Lib.hid hcall
  clear hcall
  rcases Bool.eq_false_or_eq_true (sides.all fun l => l.all (bdOk 0 10000000000)) with h6 | h6
  rotate_left
  · rw [h6] at Hcall
    have He := Lib.hid (show startErr r sides = 2 by rw [Herr4.out, if_pos h6])
    clear h6
    go_wp2_with fail
    refine Hcall.out.mono ?_
    rintro e w3 ⟨rfl, hb3⟩
    go_wp2_with fail
    go_ret2
    exact .bad He.out (by omega) (b2.trans (hb3.mono hb2s))
  rw [h6] at Hcall
  have He := Lib.hid (show startErr r sides = 0 by rw [Herr4.out, if_neg (by rw [h6]; simp)])
  clear h6 Herr4
  obtain ⟨_, hS⟩ := startErr_ok He.out
  have HS := Lib.hid hS
  clear hS
  go_wp2_with fail
  refine Hcall.out.mono ?_
  rintro e w3 ⟨rfl, hb3⟩
  clear Hcall
  have hn3 := hn2.below hb3 hn2.lt
  have hm3 := hm2.below hb3 hm2.lt
  have b3 := b2.trans (hb3.mono b2.size)
  have hs3 := hs2.below (hb3.mono (by omega))
  clear hb3 hn2 hm2 b2 hs2 m0 m1 s0 e2 hb2s hn2l hm2l
  have m0 := hn3.cell 0
  have m1 := hn3.cell 1
  simp only [List.getElem?_toArray, List.getElem?_cons_zero, List.getElem?_cons_succ] at m0 m1
  have s0 := hm3.cell 0
  simp only [List.getElem?_toArray, List.getElem?_cons_zero] at s0
  have hb3s := b3.size
  have hn3l := hn3.lt
  have hm3l := hm3.lt
  have hq := Blk.new w3 165 #[.slice A r.reaches.length c, .slice A' r.shoals.length c', .slice none 0 0]
  have hn4 := hn3.alloc (.cells #[.slice A r.reaches.length c, .slice A' r.shoals.length c', .slice none 0 0] 165)
  have hm4 := hm3.alloc (.cells #[.slice A r.reaches.length c, .slice A' r.shoals.length c', .slice none 0 0] 165)
  have b4 : Below w.heap.size w (w3.alloc (.cells #[.slice A r.reaches.length c, .slice A' r.shoals.length c', .slice none 0 0] 165)) := b3.alloc hb3s _
  have t0 := hm4.cell 0
  simp only [List.getElem?_toArray, List.getElem?_cons_zero] at t0
  obtain ⟨g, eg⟩ : ∃ g, g = w3.heap.size := ⟨_, rfl⟩
  have hr4 := hr.below (b3.mono hB)
  clear hn3 hm3 b3
  go_wp2_with fail
  rw [← eg] at hb3s hn3l hm3l hq ⊢
  have Eg := Lib.hid eg
  clear eg
  go_loopw [9, 10, 11, 12, 13, 14, 54, 61] (fun _ _ _ _ _ _ i _ wr => ∃ (k : Nat) (vf : Value) (fs : List Value), k ≤ sides.length ∧ i = .int .i64 k ∧ Blk wr w.heap.size 49 #[.slice A r.reaches.length c, .slice A' r.shoals.length c'] ∧
      Blk wr g 165 #[.slice A r.reaches.length c, .slice A' r.shoals.length c', vf] ∧ Rows wr (g + 1) 101 1 vf k fs 25 2 fs (rowsB (flowsUp r.reaches sides k)) ∧ Below w.heap.size w wr) (fun _ _ _ _ _ _ i _ _ => sides.length - (intOf i).toNat)
  case atStart => exact ⟨0, _, [], Nat.zero_le _, rfl, hn4, hq, Rows.start (own_nil _ _ _ _), b4⟩
  case round =>
    clear hq hn4 hm4 b4 m0 m1 s0 t0
    obtain ⟨k, vf, fs, hk, rfl, hn, hq, hrows, hbw⟩ := hrel
    by_cases hlt : k < sides.length
    · obtain ⟨wo, rfl⟩ : ∃ wo : World, wo = wr := ⟨_, rfl⟩
      have hso := hs.below (hbw.mono hB)
      have hro := hr.below (hbw.mono hB)
      obtain ⟨_, _, e1, _, d0⟩ := sides_cell hso k hlt
      injection e1 with e1
      injection e1 with e1 e2
      subst e1 e2
      have hside := hso.side k hlt
      obtain ⟨Ak, ck, ek, _⟩ := hside.shape
      rw [ek] at hside d0
      have hkm : (sides.getD k []).length = m := by rw [HS.out.same k hlt, HM.out]
      rw [hkm] at hside d0
      have Hkm := Lib.hid hkm
      clear hkm ek
      have hk' : (k : Int) < (sides.length : Int) := by omega
      have hsz := hbw.size
      go_wp2_with fail
      go_loopw [11, 12, 13, 14, 61] (fun l _ _ _ j wr => ∃ j' : Nat, j' ≤ m ∧ j = .int .i64 j' ∧ wr.ownsRow wo.heap.size 25 2 l j' (bdsC ((flowsOf r.reaches sides m k).take j')) ∧ Below wo.heap.size wo wr) (fun _ _ _ _ j _ => m - (intOf j).toNat)
      case atStart => exact ⟨0, Nat.zero_le _, rfl, own_nil _ _ _ _, Below.refl _ _⟩
      case round =>
        obtain ⟨j, hj, rfl, hown, hbi⟩ := hrel
        have hnl := hn.lt
        have hql := hq.lt
        by_cases hjl : j < m
        · have hjm : j < (sides.getD k []).length := by rw [Hkm.out]; exact hjl
          have hsd := (hside.below (hbi.mono (Nat.le_trans hB hsz)))
          obtain ⟨b2, o2, rfl, hb2, y0, y1⟩ := bds_cells _ j hjm _ _ _ _ _ hsd
          have hbd := HS.out.side k j hlt (by rw [← HM.out]; exact hjl)
          have hst := flowIn_step r.reaches sides (k - 1) j
          have hs0 := flowIn_zero r.reaches sides j
          have htk := flowsOf_take r.reaches sides (i := k) hjl
          obtain ⟨x, ex⟩ : ∃ x, x = (sides.getD k []).getD j bd0 := ⟨_, rfl⟩
          have hst' : 0 < k → flowIn r.reaches sides k (j : Int) = x.add (flowIn r.reaches sides (k - 1) ((j : Int) - (r.reaches.getD (k - 1) reach0).delay)) := fun h => by
            rw [Nat.sub_add_cancel h] at hst
            rw [hst, ex]
          have hs0' : k = 0 → flowIn r.reaches sides k (j : Int) = x := fun h => by
            subst h
            rw [hs0, ex]
          rw [← ex] at y0 y1 hbd
          have Hst := Lib.hid hst'
          have Hs0 := Lib.hid hs0'
          have Htk := Lib.hid htk
          clear hst hs0 hst' hs0' htk ex hside hsd
          obtain ⟨lo, hi⟩ := x
          simp only at y0 y1 hbd
          have hj0 : (j : Int) < (m : Int) := by omega
          have hsi := hbi.size
          have hx := Blk.new wr 25 #[.int .i64 lo, .int .i64 hi]
          have bx : Below wo.heap.size wo (wr.alloc (.cells #[.int .i64 lo, .int .i64 hi] 25)) := hbi.alloc hsi _
          have ox := hown.alloc (.cells #[.int .i64 lo, .int .i64 hi] 25)
          have hnx := (hn.below hbi hnl).alloc (.cells #[.int .i64 lo, .int .i64 hi] 25)
          have hqx := (hq.below hbi hql).alloc (.cells #[.int .i64 lo, .int .i64 hi] 25)
          by_cases hk0 : k = 0
          · have hk0' : decide (0 < (k : Int)) = false := by simp; omega
            have hk0'' : decide (0 < k) = false := by simp; omega
            have hfl := Hs0.out hk0
            have Hfl := Lib.hid hfl
            clear hfl hk0 Hst Hs0
            go_wp2_with (at_builtin; refine wpList_push_at bds_elem rfl (.tmp 92) (.tmp 94) rfl rfl ox _ (wr.heap.size + 1) rfl (by simp) rfl (by simp [Value.oneCell']) (by simp only [maxLen]; omega) (by omega) (by simp; omega) ?_; intro v6 w6 hown6 hg6 hat6)
            have b6 := Below.push bx ox hg6 (Nat.le_refl _) bx.size
            go_wp2_with fail
            go_roundw
            case rel =>
              refine ⟨j + 1, by omega, by go_num, ?_, b6⟩
              rw [Htk.out, Hfl.out, bdsC_snoc]
              exact hown6
            case measure => simp [intOf]; omega
          · have hk0' : decide (0 < (k : Int)) = true := by simp; omega
            have hfl := Hst.out (by omega)
            have hkr : k - 1 < r.reaches.length := by have := H2.out; omega
            have hdl := (HS.out.river.reach (k - 1) hkr).delay
            obtain ⟨bb, oo, e3, hbb, ⟨_, z1, _, _, _, _, _, _, _⟩⟩ := reaches_cells ((hro.reaches.below (hbi.mono (Nat.le_trans hB hsz))).alloc (by omega) (.cells #[.int .i64 lo, .int .i64 hi] 25)) (k - 1) hkr
            have hfb := flowIn_small HS.out (k - 1) ((j : Int) - (r.reaches.getD (k - 1) reach0).delay) hkr (by rw [← HM.out]; omega)
            have hlate := fun t (ht : t < m) => flow_late g (k - 1) t (flowsUp r.reaches sides k) (.slice A r.reaches.length c) (.slice A' r.shoals.length c') vf fs (wr.alloc (.cells #[.int .i64 lo, .int .i64 hi] 25)) _ hqx ((hrows.sides.below hbi).alloc hsi _) (by rw [flowsUp_len]; omega) (by rw [flowsUp_at _ _ (by omega), flowsOf_len, ← HM.out]; exact ht)
            have hearly := fun h hh => flow_early g (k - 1) h r.reaches (.slice A r.reaches.length c) (.slice A' r.shoals.length c') vf vs (wr.alloc (.cells #[.int .i64 lo, .int .i64 hi] 25)) _ hqx ((hro.reaches.below (hbi.mono (Nat.le_trans hB hsz))).alloc (by omega) _) hkr hh
            have hat := fun t (ht : t < m) => flowsOf_at r.reaches sides (m := (sides.getD 0 []).length) (i := k - 1) (t := t) (by rw [← HM.out]; exact ht)
            have hneg := fun h hh => flowIn_neg r.reaches sides (k - 1) (h := h) hh
            subst e3
            obtain ⟨d, ed⟩ : ∃ d, d = (r.reaches.getD (k - 1) reach0).delay := ⟨_, rfl⟩
            rw [← ed] at hfl hdl z1 hfb
            have hcall : Calls Try.prog 70 #[.pointer (some ⟨g, 0, none⟩), .int .i64 ((k : Int) - 1), .int .i64 ((j : Int) - d)] (wr.alloc (.cells #[.int .i64 lo, .int .i64 hi] 25)) fun e w' => e = .returned (.agg #[.int .i64 (flowIn r.reaches sides (k - 1) ((j : Int) - d)).lo, .int .i64 (flowIn r.reaches sides (k - 1) ((j : Int) - d)).hi]) ∧ Below (wr.alloc (.cells #[.int .i64 lo, .int .i64 hi] 25)).heap.size (wr.alloc (.cells #[.int .i64 lo, .int .i64 hi] 25)) w' := by
              rw [show (k : Int) - 1 = ((k - 1 : Nat) : Int) by omega]
              by_cases hneg' : (j : Int) - d < 0
              · rw [hneg _ hneg']
                exact hearly _ hneg'
              · have e5 : (j : Int) - d = (((j : Int) - d).toNat : Int) := by omega
                rw [e5]
                have e6 := hlate (((j : Int) - d).toNat) (by omega)
                rw [flowsUp_at _ _ (by omega), hat _ (by omega)] at e6
                exact e6
            obtain ⟨⟨fl, fh⟩, ef⟩ : ∃ f, f = flowIn r.reaches sides (k - 1) ((j : Int) - d) := ⟨_, rfl⟩
            rw [← ef] at hcall hfb hfl
            simp only at hcall hfb
            have Hfl := Lib.hid hfl
            have Hcall := Lib.hid hcall
            clear hfl hcall hlate hearly hat hneg ef ed Hst Hs0
            have n0 := hnx.cell 0
            simp only [List.getElem?_toArray, List.getElem?_cons_zero] at n0
            have hkk : (0 : Int) ≤ (k : Int) - 1 := by omega
            have hkk2 : (k : Int) - 1 < (r.reaches.length : Int) := by omega
            have hkk3 : ((k : Int) - 1).toNat = k - 1 := by omega
            go_wp2_with fail
            refine Hcall.out.mono ?_
            rintro e w5 ⟨rfl, hb5⟩
            have hx5 := hx.below hb5 hx.lt
            have bx5 := bx.trans (hb5.mono bx.size)
            have ox5 := own_below ox hb5 (Nat.le_refl _)
            have hx5l := hx5.lt
            have b5s := bx5.size
            have b7 : Below wo.heap.size wo (((w5.setCell ⟨wr.heap.size, 0, none⟩ (.int .i64 (lo + fl))).setCell ⟨wr.heap.size, 1, none⟩ (.int .i64 (hi + fh))).alloc (.cells #[.int .i64 fl, .int .i64 fh] 25)) := ((bx5.setCell (p := ⟨wr.heap.size, 0, none⟩) hsi _).setCell (p := ⟨wr.heap.size, 1, none⟩) hsi _).alloc (by simpa using b5s) _
            have b8 : Below wr.heap.size wr (((w5.setCell ⟨wr.heap.size, 0, none⟩ (.int .i64 (lo + fl))).setCell ⟨wr.heap.size, 1, none⟩ (.int .i64 (hi + fh))).alloc (.cells #[.int .i64 fl, .int .i64 fh] 25)) :=
              (((((Below.refl _ wr).alloc (Nat.le_refl _) _).trans (hb5.mono (by simp))).setCell (p := ⟨wr.heap.size, 0, none⟩) (Nat.le_refl _) _).setCell (p := ⟨wr.heap.size, 1, none⟩) (Nat.le_refl _) _).alloc (by have := hb5.size; simp at this ⊢; omega) _
            have o7 := own_below hown b8 (Nat.le_refl _)
            have hx6 := hx5.alloc (.cells #[.int .i64 fl, .int .i64 fh] 25)
            have x0 := hx6.cell 0
            have x1 := hx6.cell 1
            have x2 := hx6.frozen 0
            have x3 := hx6.frozen 1
            have v0 := hx5.cell 0
            have v1 := hx5.cell 1
            have v2 := hx5.frozen 0
            have v3 := hx5.frozen 1
            have hx7 := hx6.set_ 0 (.int .i64 (lo + fl))
            have hx8 := hx7.set_ 1 (.int .i64 (hi + fh))
            have x4 := hx7.cell 0
            have x5 := hx8.cell 0
            have x6 := hx8.cell 1
            simp only [List.setIfInBounds_toArray, List.set_cons_zero, List.set_cons_succ, List.getElem?_toArray, List.getElem?_cons_zero, List.getElem?_cons_succ] at x0 x1 x4 x5 x6 v0 v1
            clear hx7 hx8
            clear hx hb5 bx ox hx5 hx6 bx5 ox5 b8 n0 z1
            go_wp2_with (at_builtin; refine wpList_push_at bds_elem rfl (.tmp 92) (.tmp 94) rfl rfl o7 _ (w5.heap.size + 1) rfl (by simp) rfl (by simp [Value.oneCell']) (by simp only [maxLen]; omega) (by omega) (by simp; omega) ?_; intro v6 w6 hown6 hg6 hat6)
            have b6 := Below.push b7 o7 hg6 (Nat.le_refl _) b7.size
            go_wp2_with fail
            go_roundw
            case rel =>
              refine ⟨j + 1, by omega, by go_num, ?_, b6⟩
              rw [Htk.out, Hfl.out, bdsC_snoc]
              exact hown6
            case measure => simp [intOf]; omega
        · obtain rfl : j = m := by omega
          have hmp : 0 < j := by omega
          rw [List.take_of_length_le (by rw [flowsOf_len]; omega)] at hown
          obtain ⟨g1, cap1, rfl, g1a, g1b⟩ := hown.form hmp
          have hr2 := hrows.below hbi
          have hq2 := hq.below hbi hql
          have hn2 := hn.below hbi hnl
          have bi := hbw.trans (hbi.mono hsz)
          have hap : Apart vf (.slice (some ⟨g1, 0, none⟩) j cap1) := fun gg h1 h2 => by
            have := (hrows.own.lt gg h1).2
            simp [Value.ownBlock] at h2
            omega
          have hl2' := own_less hown (show g + 1 ≤ wo.heap.size by omega)
          have ho2 := hr2.own
          have hsi := hbi.size
          have q2 := hq2.cell 2
          simp only [List.getElem?_toArray, List.getElem?_cons_zero, List.getElem?_cons_succ] at q2
          have hfu := flowsUp_succ r.reaches sides k
          rw [← HM.out] at hfu
          have Hfu := Lib.hid hfu
          have Hap := Lib.hid hap
          clear hown hq hn hrows hside hap hfu
          go_wp2_with (at_builtin; refine wpList_push lists_elem rfl (.tmp 101) (.tmp 103) rfl rfl ho2 _ rfl rfl (by simp [Value.oneCell']) (by simp only [maxLen]; omega) (by omega) (by omega) ?_; intro v6 w6 hown6 hg6 hat6; obtain ⟨g9, cap9, rfl, q91, q92⟩ := hown6.form (by omega); have hq6 := hq2.push ho2 hg6 (by omega); have k9 := hq6.cell 2; have z9 := hq6.frozen 2; simp only [List.getElem?_toArray, List.getElem?_cons_zero, List.getElem?_cons_succ] at k9)
          go_wp2_with fail
          go_roundw
          case rel =>
            refine ⟨k + 1, _, fs ++ [.slice (some ⟨g1, 0, none⟩) j cap1], by omega, by go_num, (hn2.push ho2 hg6 (by omega)).far (p := ⟨g, 2, none⟩) (by show w.heap.size ≠ g; omega) _, hq6.set_ 2 _, ?_, (Below.push bi ho2 hg6 (by omega) bi.size).setCell (p := ⟨g, 2, none⟩) hb3s _⟩
            rw [Hfu.out, rowsB_snoc, flowsOf_len]
            exact (hr2.push hl2' Hap.out hown6 hg6 hat6).far (grown_set w6 g 2 _) (Nat.lt_succ_self g)
          case measure => simp [intOf]; omega
    · obtain rfl : k = sides.length := by omega
      go_wp2_with fail
      go_ret2
      exact ⟨.inr ⟨He.out, g, vf, fs, rfl, hb3s, ⟨hq, by rw [flowsUp_len]; exact hrows⟩⟩, hbw⟩
end Go.Proofs.Ytfgfenmaommclaa
