/- River: the level of a reach at a flow. -/
import Derived.Test.YtfgfenmaommclaaV11
import Derived.Test.YtfgfenmaommclaaV7
import Derived.Deep.RegionHeld3
namespace Go.Proofs.Ytfgfenmaommclaa
open Go Go.RowKit

theorem keep_set2 {W a : World} {b i g : Nat} {v u1 u2 : Value} (hl : b < W.heap.size) (hb : b < g) (hc : W.cell? ⟨b, i, none⟩ = some v) (hB : Below W.heap.size W a) : ((a.setCell ⟨g, 0, none⟩ u1).setCell ⟨g, 1, none⟩ u2).cell? ⟨b, i, none⟩ = some v := by
  rw [World.cell?_setCell_other _ _ _ _ (by intro e; injection e with e1; omega), World.cell?_setCell_other _ _ _ _ (by intro e; injection e with e1; omega)]
  exact keepc hl hc hB
set_option maxHeartbeats 4000000 in
set_option maxRecDepth 100000 in
theorem level_any (x : Reach) (v : Value) (f : Bd) (w : World) (B : Nat) (hr : Rd w B 2 v x.curve.length (rowsC x.curve)) (hB : B ≤ w.heap.size) (hx : ReachOk x) (hf : 0 ≤ f.lo ∧ f.lo ≤ f.hi ∧ f.hi ≤ 1000000000000) :
    Calls Try.prog 93 #[.agg (reachV x v), .agg #[.int .i64 f.lo, .int .i64 f.hi]] w fun e w' => e = .returned (.agg #[.int .i64 (levelAt x f).lo, .int .i64 (levelAt x f).hi]) ∧ Below w.heap.size w w' := by
  obtain ⟨flo, fhi⟩ := f
  simp only at hf
  obtain ⟨A, cp, rfl, hnc⟩ := hr.shape
  have hrow := hx.rows
  have hd := fun W (h : Rd W B 2 (.slice A x.curve.length cp) x.curve.length (rowsC x.curve)) (hB : B ≤ W.heap.size) => at_down x.curve _ flo W B h hB hrow.1 (by omega) hx.curve (by omega)
  have hu := fun W (h : Rd W B 2 (.slice A x.curve.length cp) x.curve.length (rowsC x.curve)) (hB : B ≤ W.heap.size) => at_up x.curve _ fhi W B h hB hrow.1 (by omega) hx.curve (by omega)
  show Calls _ _ _ _ fun e w' => e = .returned (.agg #[.int .i64 (max x.weir (curveAt false x.curve flo)), .int .i64 (max x.weir (curveAt true x.curve fhi))]) ∧ _
  unfold reachV
  obtain ⟨C1, e1⟩ : ∃ C, C = curveAt false x.curve flo := ⟨_, rfl⟩
  obtain ⟨C2, e2⟩ : ∃ C, C = curveAt true x.curve fhi := ⟨_, rfl⟩
  rw [← e1] at hd ⊢
  rw [← e2] at hu ⊢
  clear e1 e2
  have m1 : (if x.weir < C1 then C1 else x.weir) = max x.weir C1 := by omega
  have m2 : (if x.weir < C2 then C2 else x.weir) = max x.weir C2 := by omega
  obtain ⟨M1, e1⟩ : ∃ C, C = max x.weir C1 := ⟨_, rfl⟩
  obtain ⟨M2, e2⟩ : ∃ C, C = max x.weir C2 := ⟨_, rfl⟩
  rw [← e1] at m1 ⊢
  rw [← e2] at m2 ⊢
  have Hd := Lib.hid hd
  have Hu := Lib.hid hu
  clear hd hu e1 e2
  obtain ⟨W1, eW1⟩ : ∃ W, W = ((w.alloc (.cells #[.int .i64 x.len, .int .i64 x.delay, .int .i64 x.base.lo, .int .i64 x.base.hi, .slice A x.curve.length cp, .int .i64 x.weir, .int .i64 x.bottom.lo, .int .i64 x.bottom.hi, .int .i64 x.flood] 98)).alloc (.cells #[.int .i64 flo, .int .i64 fhi] 25)).alloc (.cells #[.int .i64 0, .int .i64 0] 25) := ⟨_, rfl⟩
  have g0 : Blk W1 w.heap.size 98 #[.int .i64 x.len, .int .i64 x.delay, .int .i64 x.base.lo, .int .i64 x.base.hi, .slice A x.curve.length cp, .int .i64 x.weir, .int .i64 x.bottom.lo, .int .i64 x.bottom.hi, .int .i64 x.flood] := by rw [eW1]; exact ((Blk.new w _ _).alloc _).alloc _
  have g1 : Blk W1 (w.heap.size + 1) 25 #[.int .i64 flo, .int .i64 fhi] := by rw [eW1]; exact (blk_new2 w _ _ _).alloc _
  have g2 : Blk W1 (w.heap.size + 1 + 1) 25 #[.int .i64 0, .int .i64 0] := by rw [eW1]; simpa using blk_new2 (w.alloc _) (.cells #[.int .i64 flo, .int .i64 fhi] 25) 25 #[.int .i64 0, .int .i64 0]
  have b1 : Below w.heap.size w W1 := by rw [eW1]; exact (((Below.refl _ _).alloc (Nat.le_refl _) _).alloc (by simp) _).alloc (by simp; omega) _
  have hr1 := hr.below (b1.mono hB)
  have hB1 : B ≤ W1.heap.size := Nat.le_trans hB b1.size
  have EW := Lib.hid eW1
  have Hr := Lib.hid hr1
  have Hrd := Lib.hid hr1.drew
  have HBd := Lib.hid (show B ≤ W1.drew.heap.size from hB1)
  clear eW1 hr hr1
  have y0 := g0.cell 5
  have y1 := g0.cell 4
  have y2 := g1.cell 0
  have y3 := g1.cell 1
  have y4 := g2.cell 0
  have y5 := g2.cell 1
  have y6 := g2.frozen 0
  have y7 := g2.frozen 1
  simp only [List.getElem?_toArray, List.getElem?_cons_zero, List.getElem?_cons_succ] at y0 y1 y2 y3 y4 y5
  have l0 := g0.lt
  have l1 := g1.lt
  have l2 := g2.lt
  have H0 := Lib.hid y0
  have H1 := Lib.hid y1
  have H2 := Lib.hid y2
  have H3 := Lib.hid y3
  have G2 := Lib.hid g2
  go_enter Try.func93, Try.ntmps93
  go_wp2_with fail
  rw [← EW.out]
  go_region_held3 (fun w' => w'.cell? ⟨w.heap.size, 5, none⟩ = some (.int .i64 x.weir) ∧ w'.cell? ⟨w.heap.size, 4, none⟩ = some (.slice A x.curve.length cp) ∧ w'.cell? ⟨w.heap.size + 1, 0, none⟩ = some (.int .i64 flo) ∧ w'.cell? ⟨w.heap.size + 1, 1, none⟩ = some (.int .i64 fhi))
    (first
      | (go_split_ands; exact ⟨keep_set2 l0 (by omega) H0.out (below_two hbd hbu), keep_set2 l0 (by omega) H1.out (below_two hbd hbu), keep_set2 l1 (by omega) H2.out (below_two hbd hbu), keep_set2 l1 (by omega) H3.out (below_two hbd hbu)⟩)
      | (go_split_ands; exact ⟨keepc l0 H0.out (below_two hbd hbu), keepc l0 H1.out (below_two hbd hbu), keepc l1 H2.out (below_two hbd hbu), keepc l1 H3.out (below_two hbd hbu)⟩)
      | (go_split_ands; exact ⟨keepc l0 H0.out (below_one hbd), keepc l0 H1.out (below_one hbd), keepc l1 H2.out (below_one hbd), keepc l1 H3.out (below_one hbd)⟩)
      | (go_split_ands; exact ⟨H0.out, H1.out, H2.out, H3.out⟩)
      | go_keep)
    (first
      | (go_at_call 99; (with_reducible refine (Hd.out _ Hrd.out HBd.out).mono ?_); rintro e wd ⟨rfl, hbd⟩)
      | (go_at_call 99; have hrd := Rd.below Hr.out ((below_one hbd).mono hB1); have hBd := Nat.le_trans hB1 (below_one hbd).size; (with_reducible refine (Hu.out _ hrd hBd).mono ?_); clear hrd; rintro e wu ⟨rfl, hbu⟩; have hk := G2.out.below (below_two hbd hbu) l2; have k4 := hk.cell 0; have k5 := hk.cell 1; have k6 := hk.frozen 0; have k7 := hk.frozen 1; simp only [List.getElem?_toArray, List.getElem?_cons_zero, List.getElem?_cons_succ] at k4 k5)
      | fail)
  all_goals
    have hk := G2.out.below (below_two hbd hbu) l2
    have k4 := ((hk.set_ 0 (.int .i64 M1)).set_ 1 (.int .i64 M2)).cell 0
    have k5 := ((hk.set_ 0 (.int .i64 M1)).set_ 1 (.int .i64 M2)).cell 1
    simp only [List.setIfInBounds_toArray, List.set_cons_zero, List.set_cons_succ, List.getElem?_toArray, List.getElem?_cons_zero, List.getElem?_cons_succ] at k4 k5
    have b3 := b1.trans ((below_two hbd hbu).mono b1.size)
    go_wp2_with fail
    refine bodyPost_ret (v := .agg #[.int .i64 M1, .int .i64 M2]) (by simp [results, Try.results93, go_sem, k4, k5]) rfl ⟨rfl, ?_⟩
    exact (b3.setCell (p := ⟨w.heap.size + 1 + 1, 0, none⟩) (by show w.heap.size ≤ w.heap.size + 1 + 1; omega) _).setCell (p := ⟨w.heap.size + 1 + 1, 1, none⟩) (by show w.heap.size ≤ w.heap.size + 1 + 1; omega) _
end Go.Proofs.Ytfgfenmaommclaa
