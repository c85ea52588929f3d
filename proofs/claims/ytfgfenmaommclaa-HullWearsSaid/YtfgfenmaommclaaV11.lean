/- River: the curve of a reach at a flow; its level. -/
import Derived.Test.YtfgfenmaommclaaV10
import Derived.Test.YtfgfenmaommclaaV4
import Derived.Test.YtfgfenmaommclaaV6
import Derived.Lib.QuietBelow
import Derived.Test.YtfgfenmaommclaaPush2
namespace Go.Proofs.Ytfgfenmaommclaa
open Go Go.RowKit

theorem keepn {w W : World} {b o : Nat} {v : Value} (hb : b < w.heap.size) (hc : w.cell? ⟨b, o, none⟩ = some v) (hB : Below w.heap.size w W) : W.cell? ⟨b, o, none⟩ = some v := (hB.cell (p := ⟨b, o, none⟩) hb).trans hc

set_option maxHeartbeats 4000000 in
set_option maxRecDepth 100000 in
theorem at_down (c : List Row) (v : Value) (f : Int) (w : World) (B : Nat) (hr : Rd w B 2 v c.length (rowsC c)) (hB : B ≤ w.heap.size) (h2 : 2 ≤ c.length) (hl : c.length ≤ 1048576) (hc : curveB c = true) (hf : 0 ≤ f ∧ f ≤ 1000000000000) :
    Calls Try.prog 99 #[v, .int .i64 f, .func (.func 100) #[] #[]] w fun e w' => e = .returned (.int .i64 (curveAt false c f)) ∧ Below w.heap.size w w' := by
  obtain ⟨A, cp, rfl, hnc⟩ := hr.shape
  have hx0 := (Blk.new w 96 #[.slice A c.length cp]).alloc (.cells #[.int .i64 f] 3)
  have hy0 := blk_new2 w (.cells #[.slice A c.length cp] 96) 3 #[.int .i64 f]
  have b0 : Below w.heap.size w ((w.alloc (.cells #[.slice A c.length cp] 96)).alloc (.cells #[.int .i64 f] 3)) := ((Below.refl _ _).alloc (Nat.le_refl _) _).alloc (by simp) _
  have k0 := hx0.cell 0
  have k1 := hy0.cell 0
  simp only [List.getElem?_toArray, List.getElem?_cons_zero] at k0 k1
  have hsr := search_any c A cp ⟨w.heap.size, 0, none⟩ ⟨w.heap.size + 1, 0, none⟩ f _ B (hr.below (b0.mono hB)) (by simp; omega) hl hc k0 k1 hx0.lt hy0.lt
  have hnl := nextR_le c f
  have hbt := between_next hc (f := f)
  have Hsr := Lib.hid hsr
  have Hc := Lib.hid hc
  have hct : curveAt false c f = curveAt false c f := rfl
  unfold curveAt at hct
  obtain ⟨N, eN⟩ : ∃ N, N = nextR c f := ⟨_, rfl⟩
  clear hsr hc hct
  go_enter Try.func99, Try.ntmps99
  go_wp2_with fail
  refine Hsr.out.mono ?_
  rintro e w1 ⟨rfl, hb1⟩
  have hx1 := hx0.below hb1 hx0.lt
  have hy1 := hy0.below hb1 hy0.lt
  have b1 := b0.trans (hb1.mono b0.size)
  have z0 := hx1.cell 0
  have z1 := hy1.cell 0
  simp only [List.getElem?_toArray, List.getElem?_cons_zero] at z0 z1
  have hr1 := hr.below (b1.mono hB)
  have hxl := hx1.lt
  have hyl := hy1.lt
  have hbs := b1.size
  clear hb1 hx0 hy0 b0 k0 k1 Hsr
  have hcp : (0 : Int) < (c.length : Int) := by omega
  by_cases hn0 : nextR c f = 0
  · obtain ⟨b, off, rfl, hb, _, c1⟩ := rows_cells c 0 (by omega) _ _ _ _ _ hr1
    rw [Nat.zero_mul, Nat.add_zero] at c1
    have Hres := Lib.hid (show curveAt false c f = (c.getD 0 row0).level by rw [curveAt, if_pos hn0])
    obtain ⟨x, hx⟩ : ∃ x, x = (c.getD 0 row0).level := ⟨_, rfl⟩
    rw [← hx] at c1 Hres
    clear hx eN
    rw [hn0]
    clear hn0 hbt
    go_wp2_with fail
    go_ret
    exact ⟨ret_int (by rw [Hres.out]), b1⟩
  by_cases hn1 : nextR c f = c.length
  · obtain ⟨b, off, rfl, hb, _, c1⟩ := rows_cells c (c.length - 1) (by omega) _ _ _ _ _ hr1
    have Hres := Lib.hid (show curveAt false c f = (c.getD (c.length - 1) row0).level by rw [curveAt, if_neg hn0, if_pos hn1])
    obtain ⟨x, hx⟩ : ∃ x, x = (c.getD (c.length - 1) row0).level := ⟨_, rfl⟩
    rw [← hx] at c1 Hres
    clear hx eN
    rw [hn1]
    have q1 : ((c.length : Int) == 0) = false := by simp; intro h; subst h; simp at h2
    have q2 : (0 : Int) ≤ (c.length : Int) - 1 := by omega
    have q3 : (c.length : Int) - 1 < (c.length : Int) := by omega
    have q4 : ((c.length : Int) - 1).toNat = c.length - 1 := by omega
    clear hn0 hn1 hbt
    go_wp2_with fail
    go_ret
    exact ⟨ret_int (by rw [Hres.out]), b1⟩
  have hbt2 := hbt hn0 hn1
  have hbd := hbt2.rnd_bd false
  obtain ⟨n1, n2, f0, f1, f2, f3, l0, l1, l2⟩ := hbt2
  have Hres := Lib.hid (show curveAt false c f = (c.getD (nextR c f - 1) row0).level + rnd false ((f - (c.getD (nextR c f - 1) row0).flow) * ((c.getD (nextR c f) row0).level - (c.getD (nextR c f - 1) row0).level)) ((c.getD (nextR c f) row0).flow - (c.getD (nextR c f - 1) row0).flow) by rw [curveAt, if_neg hn0, if_neg hn1])
  rw [← eN] at n1 n2 f0 f1 f2 f3 l0 l1 l2 hbd hn0 hn1 hnl Hres ⊢
  clear hbt eN
  obtain ⟨b, off, rfl, hb, c0, c1⟩ := rows_cells c (N - 1) (by omega) _ _ _ _ _ hr1
  obtain ⟨_, _, e1, _, d0, d1⟩ := rows_cells c N n2 _ _ _ _ _ hr1
  injection e1 with e1
  injection e1 with e1 e2
  subst e1 e2
  obtain ⟨af, h1⟩ : ∃ x, x = (c.getD (N - 1) row0).flow := ⟨_, rfl⟩
  obtain ⟨al, h3⟩ : ∃ x, x = (c.getD (N - 1) row0).level := ⟨_, rfl⟩
  obtain ⟨bf, h4⟩ : ∃ x, x = (c.getD N row0).flow := ⟨_, rfl⟩
  obtain ⟨bl, h5⟩ : ∃ x, x = (c.getD N row0).level := ⟨_, rfl⟩
  rw [← h1, ← h3, ← h4, ← h5] at hbd Hres
  rw [← h1] at c0 f0 f1
  rw [← h3] at c1 l0 l1
  rw [← h4] at d0 f2 f3
  rw [← h5] at d1 l1 l2
  clear h1 h3 h4 h5
  have hpd : 0 ≤ (f - af) * (bl - al) ∧ (f - af) * (bl - al) ≤ 10000000000 * 10000 := ⟨Int.mul_nonneg (by omega) (by omega), Int.mul_le_mul (by omega) (by omega) (by omega) (by omega)⟩
  obtain ⟨X, eX⟩ : ∃ X, X = (f - af) * (bl - al) := ⟨_, rfl⟩
  rw [← eX] at hpd hbd Hres
  have s1 : IntKind.i64.wrap (f - af) = f - af := IntWalk.i64_in _ ⟨by omega, by omega⟩
  have s2 : IntKind.i64.wrap (bl - al) = bl - al := IntWalk.i64_in _ ⟨by omega, by omega⟩
  have s3 : IntKind.i64.wrap ((f - af) * (bl - al)) = X := by rw [← eX]; exact IntWalk.i64_in _ ⟨by omega, by omega⟩
  have s4 : IntKind.i64.wrap (bf - af) = bf - af := IntWalk.i64_in _ ⟨by omega, by omega⟩
  have hcall := fun W => down_any X (bf - af) W (by omega) (by omega) (by omega) (by omega)
  have e3 : rnd false X (bf - af) = floorD X (bf - af) := rfl
  rw [e3] at hbd Hres
  obtain ⟨R, eR⟩ : ∃ R, R = floorD X (bf - af) := ⟨_, rfl⟩
  rw [← eR] at hbd Hres hcall
  have Hcall := Lib.hid hcall
  clear hcall eX e3 eR
  have s5 : IntKind.i64.wrap (al + R) = al + R := IntWalk.i64_in _ ⟨by omega, by omega⟩
  have q1 : ((N : Int) == 0) = false := by simp; exact hn0
  have q2 : ((N : Int) == (c.length : Int)) = false := by simp; omega
  have q3 : (0 : Int) ≤ (N : Int) - 1 := by omega
  have q4 : (N : Int) - 1 < (c.length : Int) := by omega
  have q5 : ((N : Int) - 1).toNat = N - 1 := by omega
  have q6 : (0 : Int) ≤ (N : Int) := by omega
  have q7 : (N : Int) < (c.length : Int) := by omega
  have q8 : IntKind.i64.wrap ((N : Int) - 1) = (N : Int) - 1 := IntWalk.i64_in _ ⟨by omega, by omega⟩
  have q9 : (1 : Int) ≤ (N : Int) := by omega
  have q10 : (N : Int) < (c.length : Int) + 1 := by omega
  have q11 : (N : Int) ≤ (c.length : Int) := by omega
  have q12 : 1 ≤ N := by omega
  clear hn0 hn1
  go_wp2_with fail
  go_region_held3 (fun w' => w'.cell? ⟨w.heap.size, 0, none⟩ = some (.slice (some ⟨b, off, none⟩) c.length cp) ∧ w'.cell? ⟨b, off + (N - 1) * 2, none⟩ = some (.int .i64 af) ∧ w'.cell? ⟨b, off + (N - 1) * 2 + 1, none⟩ = some (.int .i64 al) ∧ w'.cell? ⟨b, off + N * 2, none⟩ = some (.int .i64 bf) ∧ w'.cell? ⟨b, off + N * 2 + 1, none⟩ = some (.int .i64 bl))
    (first | go_keep) (fail)
  · have g0 : Blk (((w1.alloc (.cells #[.int .i64 af, .int .i64 al] 113)).alloc (.cells #[.int .i64 bf, .int .i64 bl] 113)).drew) w1.heap.size 113 #[.int .i64 af, .int .i64 al] := ((Blk.new w1 _ _).alloc _).drew
    have g1 : Blk (((w1.alloc (.cells #[.int .i64 af, .int .i64 al] 113)).alloc (.cells #[.int .i64 bf, .int .i64 bl] 113)).drew) (w1.heap.size + 1) 113 #[.int .i64 bf, .int .i64 bl] := (blk_new2 w1 _ _ _).drew
    have g2 : Blk (((w1.alloc (.cells #[.int .i64 af, .int .i64 al] 113)).alloc (.cells #[.int .i64 bf, .int .i64 bl] 113)).drew) (w.heap.size + 1) 3 #[.int .i64 f] := ((hy1.alloc _).alloc _).drew
    have b2 : Below w.heap.size w (((w1.alloc (.cells #[.int .i64 af, .int .i64 al] 113)).alloc (.cells #[.int .i64 bf, .int .i64 bl] 113)).drew) := ((b1.alloc hbs _).alloc (by simp; omega) _).drew
    obtain ⟨W2, eW2⟩ : ∃ W, W = ((w1.alloc (.cells #[.int .i64 af, .int .i64 al] 113)).alloc (.cells #[.int .i64 bf, .int .i64 bl] 113)).drew := ⟨_, rfl⟩
    rw [← eW2] at g0 g1 g2 b2
    have EW2 := Lib.hid eW2
    clear eW2 hx1 hy1 hr1 c0 c1 d0 d1 z0 z1 b1
    go_wp2_with fail
    rw [← EW2.out]
    have y0 := g0.cell 0
    have y1 := g0.cell 1
    have y2 := g1.cell 0
    have y3 := g1.cell 1
    have y4 := g2.cell 0
    simp only [List.getElem?_toArray, List.getElem?_cons_zero, List.getElem?_cons_succ] at y0 y1 y2 y3 y4
    have r0 := cell_regrown y0
    have r1 := cell_regrown y1
    have r2 := cell_regrown y2
    have r3 := cell_regrown y3
    have r4 := cell_regrown y4
    clear y0 y1 y2 y3 y4 g0 g1 g2
    refine wp_region_quiet_below (by kernel_rfl) (by kernel_rfl) ?_
    repeat (go_big_quiet_step ((go_at_call 100; exact Calls.regrown_of (Hcall.out _))))
    refine wpQuiet_nil ?_
    intro _ hw'
    obtain ⟨⟨dq, osq⟩, hw''⟩ := hw'
    subst hw''
    have hb10 := below_regrown W2 dq osq
    go_wp2_with fail
    go_ret
    exact ⟨ret_int (by rw [Hres.out]), b2.trans (hb10.mono b2.size)⟩
  · have g0 : Blk (((w1.alloc (.cells #[.int .i64 bf, .int .i64 bl] 113)).alloc (.cells #[.int .i64 af, .int .i64 al] 113)).drew) w1.heap.size 113 #[.int .i64 bf, .int .i64 bl] := ((Blk.new w1 _ _).alloc _).drew
    have g1 : Blk (((w1.alloc (.cells #[.int .i64 bf, .int .i64 bl] 113)).alloc (.cells #[.int .i64 af, .int .i64 al] 113)).drew) (w1.heap.size + 1) 113 #[.int .i64 af, .int .i64 al] := (blk_new2 w1 _ _ _).drew
    have g2 : Blk (((w1.alloc (.cells #[.int .i64 bf, .int .i64 bl] 113)).alloc (.cells #[.int .i64 af, .int .i64 al] 113)).drew) (w.heap.size + 1) 3 #[.int .i64 f] := ((hy1.alloc _).alloc _).drew
    have b2 : Below w.heap.size w (((w1.alloc (.cells #[.int .i64 bf, .int .i64 bl] 113)).alloc (.cells #[.int .i64 af, .int .i64 al] 113)).drew) := ((b1.alloc hbs _).alloc (by simp; omega) _).drew
    obtain ⟨W2, eW2⟩ : ∃ W, W = ((w1.alloc (.cells #[.int .i64 bf, .int .i64 bl] 113)).alloc (.cells #[.int .i64 af, .int .i64 al] 113)).drew := ⟨_, rfl⟩
    rw [← eW2] at g0 g1 g2 b2
    have EW2 := Lib.hid eW2
    clear eW2 hx1 hy1 hr1 c0 c1 d0 d1 z0 z1 b1
    go_wp2_with fail
    rw [← EW2.out]
    have y0 := g0.cell 0
    have y1 := g0.cell 1
    have y2 := g1.cell 0
    have y3 := g1.cell 1
    have y4 := g2.cell 0
    simp only [List.getElem?_toArray, List.getElem?_cons_zero, List.getElem?_cons_succ] at y0 y1 y2 y3 y4
    have r0 := cell_regrown y0
    have r1 := cell_regrown y1
    have r2 := cell_regrown y2
    have r3 := cell_regrown y3
    have r4 := cell_regrown y4
    clear y0 y1 y2 y3 y4 g0 g1 g2
    refine wp_region_quiet_below (by kernel_rfl) (by kernel_rfl) ?_
    repeat (go_big_quiet_step ((go_at_call 100; exact Calls.regrown_of (Hcall.out _))))
    refine wpQuiet_nil ?_
    intro _ hw'
    obtain ⟨⟨dq, osq⟩, hw''⟩ := hw'
    subst hw''
    have hb10 := below_regrown W2 dq osq
    go_wp2_with fail
    go_ret
    exact ⟨ret_int (by rw [Hres.out]), b2.trans (hb10.mono b2.size)⟩

set_option maxHeartbeats 4000000 in
set_option maxRecDepth 100000 in
theorem at_up (c : List Row) (v : Value) (f : Int) (w : World) (B : Nat) (hr : Rd w B 2 v c.length (rowsC c)) (hB : B ≤ w.heap.size) (h2 : 2 ≤ c.length) (hl : c.length ≤ 1048576) (hc : curveB c = true) (hf : 0 ≤ f ∧ f ≤ 1000000000000) :
    Calls Try.prog 99 #[v, .int .i64 f, .func (.func 101) #[] #[]] w fun e w' => e = .returned (.int .i64 (curveAt true c f)) ∧ Below w.heap.size w w' := by
  obtain ⟨A, cp, rfl, hnc⟩ := hr.shape
  have hx0 := (Blk.new w 96 #[.slice A c.length cp]).alloc (.cells #[.int .i64 f] 3)
  have hy0 := blk_new2 w (.cells #[.slice A c.length cp] 96) 3 #[.int .i64 f]
  have b0 : Below w.heap.size w ((w.alloc (.cells #[.slice A c.length cp] 96)).alloc (.cells #[.int .i64 f] 3)) := ((Below.refl _ _).alloc (Nat.le_refl _) _).alloc (by simp) _
  have k0 := hx0.cell 0
  have k1 := hy0.cell 0
  simp only [List.getElem?_toArray, List.getElem?_cons_zero] at k0 k1
  have hsr := search_any c A cp ⟨w.heap.size, 0, none⟩ ⟨w.heap.size + 1, 0, none⟩ f _ B (hr.below (b0.mono hB)) (by simp; omega) hl hc k0 k1 hx0.lt hy0.lt
  have hnl := nextR_le c f
  have hbt := between_next hc (f := f)
  have Hsr := Lib.hid hsr
  have Hc := Lib.hid hc
  have hct : curveAt true c f = curveAt true c f := rfl
  unfold curveAt at hct
  obtain ⟨N, eN⟩ : ∃ N, N = nextR c f := ⟨_, rfl⟩
  clear hsr hc hct
  go_enter Try.func99, Try.ntmps99
  go_wp2_with fail
  refine Hsr.out.mono ?_
  rintro e w1 ⟨rfl, hb1⟩
  have hx1 := hx0.below hb1 hx0.lt
  have hy1 := hy0.below hb1 hy0.lt
  have b1 := b0.trans (hb1.mono b0.size)
  have z0 := hx1.cell 0
  have z1 := hy1.cell 0
  simp only [List.getElem?_toArray, List.getElem?_cons_zero] at z0 z1
  have hr1 := hr.below (b1.mono hB)
  have hxl := hx1.lt
  have hyl := hy1.lt
  have hbs := b1.size
  clear hb1 hx0 hy0 b0 k0 k1 Hsr
  have hcp : (0 : Int) < (c.length : Int) := by omega
  by_cases hn0 : nextR c f = 0
  · obtain ⟨b, off, rfl, hb, _, c1⟩ := rows_cells c 0 (by omega) _ _ _ _ _ hr1
    rw [Nat.zero_mul, Nat.add_zero] at c1
    have Hres := Lib.hid (show curveAt true c f = (c.getD 0 row0).level by rw [curveAt, if_pos hn0])
    obtain ⟨x, hx⟩ : ∃ x, x = (c.getD 0 row0).level := ⟨_, rfl⟩
    rw [← hx] at c1 Hres
    clear hx eN
    rw [hn0]
    clear hn0 hbt
    go_wp2_with fail
    go_ret
    exact ⟨ret_int (by rw [Hres.out]), b1⟩
  by_cases hn1 : nextR c f = c.length
  · obtain ⟨b, off, rfl, hb, _, c1⟩ := rows_cells c (c.length - 1) (by omega) _ _ _ _ _ hr1
    have Hres := Lib.hid (show curveAt true c f = (c.getD (c.length - 1) row0).level by rw [curveAt, if_neg hn0, if_pos hn1])
    obtain ⟨x, hx⟩ : ∃ x, x = (c.getD (c.length - 1) row0).level := ⟨_, rfl⟩
    rw [← hx] at c1 Hres
    clear hx eN
    rw [hn1]
    have q1 : ((c.length : Int) == 0) = false := by simp; intro h; subst h; simp at h2
    have q2 : (0 : Int) ≤ (c.length : Int) - 1 := by omega
    have q3 : (c.length : Int) - 1 < (c.length : Int) := by omega
    have q4 : ((c.length : Int) - 1).toNat = c.length - 1 := by omega
    clear hn0 hn1 hbt
    go_wp2_with fail
    go_ret
    exact ⟨ret_int (by rw [Hres.out]), b1⟩
  have hbt2 := hbt hn0 hn1
  have hbd := hbt2.rnd_bd true
  obtain ⟨n1, n2, f0, f1, f2, f3, l0, l1, l2⟩ := hbt2
  have Hres := Lib.hid (show curveAt true c f = (c.getD (nextR c f - 1) row0).level + rnd true ((f - (c.getD (nextR c f - 1) row0).flow) * ((c.getD (nextR c f) row0).level - (c.getD (nextR c f - 1) row0).level)) ((c.getD (nextR c f) row0).flow - (c.getD (nextR c f - 1) row0).flow) by rw [curveAt, if_neg hn0, if_neg hn1])
  rw [← eN] at n1 n2 f0 f1 f2 f3 l0 l1 l2 hbd hn0 hn1 hnl Hres ⊢
  clear hbt eN
  obtain ⟨b, off, rfl, hb, c0, c1⟩ := rows_cells c (N - 1) (by omega) _ _ _ _ _ hr1
  obtain ⟨_, _, e1, _, d0, d1⟩ := rows_cells c N n2 _ _ _ _ _ hr1
  injection e1 with e1
  injection e1 with e1 e2
  subst e1 e2
  obtain ⟨af, h1⟩ : ∃ x, x = (c.getD (N - 1) row0).flow := ⟨_, rfl⟩
  obtain ⟨al, h3⟩ : ∃ x, x = (c.getD (N - 1) row0).level := ⟨_, rfl⟩
  obtain ⟨bf, h4⟩ : ∃ x, x = (c.getD N row0).flow := ⟨_, rfl⟩
  obtain ⟨bl, h5⟩ : ∃ x, x = (c.getD N row0).level := ⟨_, rfl⟩
  rw [← h1, ← h3, ← h4, ← h5] at hbd Hres
  rw [← h1] at c0 f0 f1
  rw [← h3] at c1 l0 l1
  rw [← h4] at d0 f2 f3
  rw [← h5] at d1 l1 l2
  clear h1 h3 h4 h5
  have hpd : 0 ≤ (f - af) * (bl - al) ∧ (f - af) * (bl - al) ≤ 10000000000 * 10000 := ⟨Int.mul_nonneg (by omega) (by omega), Int.mul_le_mul (by omega) (by omega) (by omega) (by omega)⟩
  obtain ⟨X, eX⟩ : ∃ X, X = (f - af) * (bl - al) := ⟨_, rfl⟩
  rw [← eX] at hpd hbd Hres
  have s1 : IntKind.i64.wrap (f - af) = f - af := IntWalk.i64_in _ ⟨by omega, by omega⟩
  have s2 : IntKind.i64.wrap (bl - al) = bl - al := IntWalk.i64_in _ ⟨by omega, by omega⟩
  have s3 : IntKind.i64.wrap ((f - af) * (bl - al)) = X := by rw [← eX]; exact IntWalk.i64_in _ ⟨by omega, by omega⟩
  have s4 : IntKind.i64.wrap (bf - af) = bf - af := IntWalk.i64_in _ ⟨by omega, by omega⟩
  have hcall := fun W => up_any X (bf - af) W (by omega) (by omega) (by omega) (by omega)
  have e3 : rnd true X (bf - af) = ceilD X (bf - af) := rfl
  rw [e3] at hbd Hres
  obtain ⟨R, eR⟩ : ∃ R, R = ceilD X (bf - af) := ⟨_, rfl⟩
  rw [← eR] at hbd Hres hcall
  have Hcall := Lib.hid hcall
  clear hcall eX e3 eR
  have s5 : IntKind.i64.wrap (al + R) = al + R := IntWalk.i64_in _ ⟨by omega, by omega⟩
  have q1 : ((N : Int) == 0) = false := by simp; exact hn0
  have q2 : ((N : Int) == (c.length : Int)) = false := by simp; omega
  have q3 : (0 : Int) ≤ (N : Int) - 1 := by omega
  have q4 : (N : Int) - 1 < (c.length : Int) := by omega
  have q5 : ((N : Int) - 1).toNat = N - 1 := by omega
  have q6 : (0 : Int) ≤ (N : Int) := by omega
  have q7 : (N : Int) < (c.length : Int) := by omega
  have q8 : IntKind.i64.wrap ((N : Int) - 1) = (N : Int) - 1 := IntWalk.i64_in _ ⟨by omega, by omega⟩
  have q9 : (1 : Int) ≤ (N : Int) := by omega
  have q10 : (N : Int) < (c.length : Int) + 1 := by omega
  have q11 : (N : Int) ≤ (c.length : Int) := by omega
  have q12 : 1 ≤ N := by omega
  clear hn0 hn1
  go_wp2_with fail
  go_region_held3 (fun w' => w'.cell? ⟨w.heap.size, 0, none⟩ = some (.slice (some ⟨b, off, none⟩) c.length cp) ∧ w'.cell? ⟨b, off + (N - 1) * 2, none⟩ = some (.int .i64 af) ∧ w'.cell? ⟨b, off + (N - 1) * 2 + 1, none⟩ = some (.int .i64 al) ∧ w'.cell? ⟨b, off + N * 2, none⟩ = some (.int .i64 bf) ∧ w'.cell? ⟨b, off + N * 2 + 1, none⟩ = some (.int .i64 bl))
    (first | go_keep) (fail)
  · have g0 : Blk (((w1.alloc (.cells #[.int .i64 af, .int .i64 al] 113)).alloc (.cells #[.int .i64 bf, .int .i64 bl] 113)).drew) w1.heap.size 113 #[.int .i64 af, .int .i64 al] := ((Blk.new w1 _ _).alloc _).drew
    have g1 : Blk (((w1.alloc (.cells #[.int .i64 af, .int .i64 al] 113)).alloc (.cells #[.int .i64 bf, .int .i64 bl] 113)).drew) (w1.heap.size + 1) 113 #[.int .i64 bf, .int .i64 bl] := (blk_new2 w1 _ _ _).drew
    have g2 : Blk (((w1.alloc (.cells #[.int .i64 af, .int .i64 al] 113)).alloc (.cells #[.int .i64 bf, .int .i64 bl] 113)).drew) (w.heap.size + 1) 3 #[.int .i64 f] := ((hy1.alloc _).alloc _).drew
    have b2 : Below w.heap.size w (((w1.alloc (.cells #[.int .i64 af, .int .i64 al] 113)).alloc (.cells #[.int .i64 bf, .int .i64 bl] 113)).drew) := ((b1.alloc hbs _).alloc (by simp; omega) _).drew
    obtain ⟨W2, eW2⟩ : ∃ W, W = ((w1.alloc (.cells #[.int .i64 af, .int .i64 al] 113)).alloc (.cells #[.int .i64 bf, .int .i64 bl] 113)).drew := ⟨_, rfl⟩
    rw [← eW2] at g0 g1 g2 b2
    have EW2 := Lib.hid eW2
    clear eW2 hx1 hy1 hr1 c0 c1 d0 d1 z0 z1 b1
    go_wp2_with fail
    rw [← EW2.out]
    have y0 := g0.cell 0
    have y1 := g0.cell 1
    have y2 := g1.cell 0
    have y3 := g1.cell 1
    have y4 := g2.cell 0
    simp only [List.getElem?_toArray, List.getElem?_cons_zero, List.getElem?_cons_succ] at y0 y1 y2 y3 y4
    have r0 := cell_regrown y0
    have r1 := cell_regrown y1
    have r2 := cell_regrown y2
    have r3 := cell_regrown y3
    have r4 := cell_regrown y4
    clear y0 y1 y2 y3 y4 g0 g1 g2
    refine wp_region_quiet_below (by kernel_rfl) (by kernel_rfl) ?_
    repeat (go_big_quiet_step ((go_at_call 101; exact Calls.regrown_of (Hcall.out _))))
    refine wpQuiet_nil ?_
    intro _ hw'
    obtain ⟨⟨dq, osq⟩, hw''⟩ := hw'
    subst hw''
    have hb10 := below_regrown W2 dq osq
    go_wp2_with fail
    go_ret
    exact ⟨ret_int (by rw [Hres.out]), b2.trans (hb10.mono b2.size)⟩
  · have g0 : Blk (((w1.alloc (.cells #[.int .i64 bf, .int .i64 bl] 113)).alloc (.cells #[.int .i64 af, .int .i64 al] 113)).drew) w1.heap.size 113 #[.int .i64 bf, .int .i64 bl] := ((Blk.new w1 _ _).alloc _).drew
    have g1 : Blk (((w1.alloc (.cells #[.int .i64 bf, .int .i64 bl] 113)).alloc (.cells #[.int .i64 af, .int .i64 al] 113)).drew) (w1.heap.size + 1) 113 #[.int .i64 af, .int .i64 al] := (blk_new2 w1 _ _ _).drew
    have g2 : Blk (((w1.alloc (.cells #[.int .i64 bf, .int .i64 bl] 113)).alloc (.cells #[.int .i64 af, .int .i64 al] 113)).drew) (w.heap.size + 1) 3 #[.int .i64 f] := ((hy1.alloc _).alloc _).drew
    have b2 : Below w.heap.size w (((w1.alloc (.cells #[.int .i64 bf, .int .i64 bl] 113)).alloc (.cells #[.int .i64 af, .int .i64 al] 113)).drew) := ((b1.alloc hbs _).alloc (by simp; omega) _).drew
    obtain ⟨W2, eW2⟩ : ∃ W, W = ((w1.alloc (.cells #[.int .i64 bf, .int .i64 bl] 113)).alloc (.cells #[.int .i64 af, .int .i64 al] 113)).drew := ⟨_, rfl⟩
    rw [← eW2] at g0 g1 g2 b2
    have EW2 := Lib.hid eW2
    clear eW2 hx1 hy1 hr1 c0 c1 d0 d1 z0 z1 b1
    go_wp2_with fail
    rw [← EW2.out]
    have y0 := g0.cell 0
    have y1 := g0.cell 1
    have y2 := g1.cell 0
    have y3 := g1.cell 1
    have y4 := g2.cell 0
    simp only [List.getElem?_toArray, List.getElem?_cons_zero, List.getElem?_cons_succ] at y0 y1 y2 y3 y4
    have r0 := cell_regrown y0
    have r1 := cell_regrown y1
    have r2 := cell_regrown y2
    have r3 := cell_regrown y3
    have r4 := cell_regrown y4
    clear y0 y1 y2 y3 y4 g0 g1 g2
    refine wp_region_quiet_below (by kernel_rfl) (by kernel_rfl) ?_
    repeat (go_big_quiet_step ((go_at_call 101; exact Calls.regrown_of (Hcall.out _))))
    refine wpQuiet_nil ?_
    intro _ hw'
    obtain ⟨⟨dq, osq⟩, hw''⟩ := hw'
    subst hw''
    have hb10 := below_regrown W2 dq osq
    go_wp2_with fail
    go_ret
    exact ⟨ret_int (by rw [Hres.out]), b2.trans (hb10.mono b2.size)⟩
end Go.Proofs.Ytfgfenmaommclaa
