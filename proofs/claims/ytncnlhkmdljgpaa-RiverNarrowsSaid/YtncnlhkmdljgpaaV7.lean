/- River: what flows from land, by the program. -/
import Derived.Test.YtncnlhkmdljgpaaV6
import Derived.Test.YtncnlhkmdljgpaaPush2
import Derived.Test.YtncnlhkmdljgpaaV4
namespace Go.Proofs.Ytncnlhkmdljgpaa
open Go.RowKit

def skyC (h : Sky) : List Value := [.int .i64 h.rain.lo, .int .i64 h.rain.hi, .int .i64 h.heat.lo, .int .i64 h.heat.hi]
def skysC (l : List Sky) : List Value := l.flatMap skyC
theorem skyC_len (b : Sky) : (skyC b).length = 4 := rfl
theorem skysC_len (l : List Sky) : (skysC l).length = l.length * 4 := flat_len skyC_len l
theorem skysC_one (l : List Sky) : ∀ u ∈ skysC l, u.oneCell' = true := flat_one (by intro x u hu; simp [skyC] at hu; rcases hu with rfl | rfl | rfl | rfl <;> rfl) l
structure SkyAt (w : World) (b o : Nat) (h : Sky) : Prop where
  c0 : w.cell? ⟨b, o, none⟩ = some (.int .i64 h.rain.lo)
  c1 : w.cell? ⟨b, o + 1, none⟩ = some (.int .i64 h.rain.hi)
  c2 : w.cell? ⟨b, o + 2, none⟩ = some (.int .i64 h.heat.lo)
  c3 : w.cell? ⟨b, o + 3, none⟩ = some (.int .i64 h.heat.hi)
theorem skys_cells (l : List Sky) (k : Nat) (hk : k < l.length) (w : World) (B : Nat) (A : Option Addr) (n c : Nat) (hr : Rd w B 4 (.slice A n c) n (skysC l)) :
    ∃ b off, A = some ⟨b, off, none⟩ ∧ b < B ∧ SkyAt w b (off + k * 4) (l.getD k sky0) := by
  have hl : n * 4 = l.length * 4 := by rw [← hr.len, skysC_len]
  obtain ⟨b, off, rfl, hb, hc⟩ := hr.at_ (by omega)
  have e : l.getD k sky0 = l[k] := by simp [hk]
  rw [e]
  have g := fun j hj => flat_get skyC_len l k hk j hj
  exact ⟨b, off, rfl, hb, hc (k * 4) _ (g 0 (by omega)), hc (k * 4 + 1) _ (g 1 (by omega)), hc (k * 4 + 2) _ (g 2 (by omega)), hc (k * 4 + 3) _ (g 3 (by omega))⟩
def landV (c : Land) : Array Value := #[.int .i64 c.area, .int .i64 c.percent, .int .i64 c.melt, .int .i64 c.snow.lo, .int .i64 c.snow.hi]
theorem bds_info : (Try.prog.info? 23).map (fun i => (i.zero, i.size, i.bytes)) = some (some (.agg #[.int .i64 0, .int .i64 0]), 2, 16) := by kernel_rfl
theorem bds_elem : Elem Try.prog 28 23 2 16 := Elem.mk' Try.underlying28 bds_info rfl (by omega)
theorem landB_form (c : Land) : landOk c = (inB 0 10000 c.area && (inB 0 100 c.percent && (inB 0 100 c.melt && bdOk 0 1000000 c.snow))) := rfl
/-- what is left behind so many hours -/
def leftL (c : Land) (sky : List Sky) (k : Nat) : Int := leftOf c.melt c.snow.lo ((sky.take k).map fun h => h.heat.hi)
def leftH (c : Land) (sky : List Sky) (k : Nat) : Int := leftOf c.melt c.snow.hi ((sky.take k).map fun h => h.heat.lo)
theorem leftL_succ (c : Land) (sky : List Sky) {k : Nat} (hk : k < sky.length) : leftL c sky (k + 1) = max 0 (leftL c sky k - warmth c.melt (sky.getD k sky0).heat.hi) := by
  unfold leftL
  rw [List.take_succ_eq_append_getElem hk, List.map_append, List.map_singleton, left_snoc]
  simp [hk]
theorem leftH_succ (c : Land) (sky : List Sky) {k : Nat} (hk : k < sky.length) : leftH c sky (k + 1) = max 0 (leftH c sky k - warmth c.melt (sky.getD k sky0).heat.lo) := by
  unfold leftH
  rw [List.take_succ_eq_append_getElem hk, List.map_append, List.map_singleton, left_snoc]
  simp [hk]
structure LandOk (c : Land) : Prop where
  area : 0 ≤ c.area ∧ c.area ≤ 10000
  percent : 0 ≤ c.percent ∧ c.percent ≤ 100
  melt : 0 ≤ c.melt ∧ c.melt ≤ 100
  snow : 0 ≤ c.snow.lo ∧ c.snow.lo ≤ c.snow.hi ∧ c.snow.hi ≤ 1000000
theorem landOk_iff {c : Land} (h : landOk c = true) : LandOk c := by
  simp only [landOk, Bool.and_eq_true, inB_iff, bdOk_iff] at h
  exact ⟨h.1, h.2.1, h.2.2.1, h.2.2.2⟩
theorem left_bd {c : Land} (h : LandOk c) (sky : List Sky) (k : Nat) : (0 ≤ leftL c sky k ∧ leftL c sky k ≤ 1000000) ∧ 0 ≤ leftH c sky k ∧ leftH c sky k ≤ 1000000 := by
  have h1 := h.snow
  have a := left_nonneg (rate := c.melt) ((sky.take k).map fun h => h.heat.hi) c.snow.lo (by omega)
  have b := left_nonneg (rate := c.melt) ((sky.take k).map fun h => h.heat.lo) c.snow.hi (by omega)
  have d := left_le h.melt.1 ((sky.take k).map fun h => h.heat.hi) c.snow.lo (by omega)
  have e := left_le h.melt.1 ((sky.take k).map fun h => h.heat.lo) c.snow.hi (by omega)
  unfold leftL leftH
  omega
theorem parts_bd {c : Land} (h : LandOk c) : 0 ≤ c.area * c.percent ∧ c.area * c.percent ≤ 1000000 := by
  have a := Int.mul_nonneg h.area.1 h.percent.1
  have b := Int.mul_le_mul h.area.2 h.percent.2 h.percent.1 (by omega)
  omega
theorem mul_bd {a b m k : Int} (ha : 0 ≤ a ∧ a ≤ m) (hb : 0 ≤ b ∧ b ≤ k) (hm : 0 ≤ m := by omega) : 0 ≤ a * b ∧ a * b ≤ m * k := by
  exact ⟨Int.mul_nonneg ha.1 hb.1, Int.mul_le_mul ha.2 hb.2 hb.1 hm⟩
theorem flowAt_form (c : Land) (sky : List Sky) (i : Nat) : flowAt c sky i = ⟨floorD (((sky.getD i sky0).rain.lo + min (leftL c sky i) (warmth c.melt (sky.getD i sky0).heat.lo)) * (c.area * c.percent)) 10, ceilD (((sky.getD i sky0).rain.hi + min (leftH c sky i) (warmth c.melt (sky.getD i sky0).heat.hi)) * (c.area * c.percent)) 10⟩ := rfl
theorem below_one {W a : World} (h : Below W.drew.heap.size W.drew a) : Below W.heap.size W a := (Below.refl _ W).drew.trans h
theorem below_two {W a b : World} (h : Below W.drew.heap.size W.drew a) (k : Below a.heap.size a b) : Below W.heap.size W b := (below_one h).trans (k.mono h.size)
theorem keep_push {W a w6 : World} {o : Obj} {v u : Value} {b i : Nat} (hb : b < W.heap.size) (hc : W.cell? ⟨b, i, none⟩ = some u) (hB : Below W.heap.size W a) (hg : (a.alloc o).grownBy w6 v.ownBlock) (hne : v.ownBlock ≠ some b) : w6.cell? ⟨b, i, none⟩ = some u :=
  far_cell hg ((World.cell?_alloc_lt a o ⟨b, i, none⟩ (Nat.lt_of_lt_of_le hb hB.size)).trans (keepc hb hc hB)) hne
/-- what Runoff leaves -/
def RunPost (w : World) (c : Land) (sky : List Sky) (e : Ending) (w' : World) : Prop :=
  (∃ v, e = .returned (.tuple #[v, .int .i64 (catchErr c sky)]) ∧ (catchErr c sky ≠ 0 → v = .slice none 0 0) ∧ (catchErr c sky = 0 → w'.ownsRow w.heap.size 23 2 v sky.length (bdsC (flowsTo c sky sky.length)))) ∧ Below w.heap.size w w'
theorem RunPost.bad {w w' : World} {c : Land} {sky : List Sky} {y : Int} (h : catchErr c sky = y) (hy : y ≠ 0) (hb : Below w.heap.size w w') : RunPost w c sky (.returned (.tuple #[.slice none 0 0, .int .i64 y])) w' :=
  ⟨⟨_, by rw [h], fun _ => rfl, fun h0 => absurd (h.symm.trans h0) hy⟩, hb⟩

set_option maxHeartbeats 8000000 in
set_option maxRecDepth 100000 in
theorem runoff_any (c : Land) (sky : List Sky) (v : Value) (w : World) (B : Nat) (hr : Rd w B 4 v sky.length (skysC sky)) (hB : B ≤ w.heap.size) (hl : sky.length ≤ 1048576) :
    Calls Try.prog 17 #[.agg (landV c), v] w (RunPost w c sky) := by
  obtain ⟨A, cp, rfl, hnc⟩ := hr.shape
  have hn0 := Blk.new w 25 (landV c)
  have b0 : Below w.heap.size w (w.alloc (.cells (landV c) 25)) := (Below.refl _ _).alloc (Nat.le_refl _) _
  unfold landV at hn0 b0 ⊢
  go_enter Try.func17, Try.ntmps17
  go_wp2_with fail
  refine (within_one c.area 0 10000 _ _ (by simp)).mono ?_
  rintro e w1 ⟨rfl, hb1⟩
  have hn1 := hn0.below hb1 hn0.lt
  have b1 := b0.trans (hb1.mono b0.size)
  have y1 := hn1.cell 1
  simp only [List.getElem?_toArray, List.getElem?_cons_zero, List.getElem?_cons_succ] at y1
  clear hb1 hn0 b0
  rcases Bool.eq_false_or_eq_true (inB 0 10000 c.area) with h1 | h1
  rotate_left
  · rw [h1]
    go_wp2_with fail
    go_ret2
    exact .bad (by rw [catchErr, landB_form]; simp only [h1]; rfl) (by omega) b1
  rw [h1]
  go_wp2_with fail
  refine (within_one c.percent 0 100 _ _ (by simp)).mono ?_
  rintro e w2 ⟨rfl, hb2⟩
  have hn2 := hn1.below hb2 hn1.lt
  have b2 := b1.trans (hb2.mono b1.size)
  have y2 := hn2.cell 2
  simp only [List.getElem?_toArray, List.getElem?_cons_zero, List.getElem?_cons_succ] at y2
  clear hb2 hn1 b1
  rcases Bool.eq_false_or_eq_true (inB 0 100 c.percent) with h2 | h2
  rotate_left
  · rw [h2]
    go_wp2_with fail
    go_ret2
    exact .bad (by rw [catchErr, landB_form]; simp only [h1, h2]; rfl) (by omega) b2
  rw [h2]
  go_wp2_with fail
  refine (within_one c.melt 0 100 _ _ (by simp)).mono ?_
  rintro e w3 ⟨rfl, hb3⟩
  have hn3 := hn2.below hb3 hn2.lt
  have b3 := b2.trans (hb3.mono b2.size)
  have y3 := hn3.cell 3
  have y4 := hn3.cell 4
  simp only [List.getElem?_toArray, List.getElem?_cons_zero, List.getElem?_cons_succ] at y3 y4
  clear hb3 hn2 b2
  rcases Bool.eq_false_or_eq_true (inB 0 100 c.melt) with h3 | h3
  rotate_left
  · rw [h3]
    go_wp2_with fail
    go_ret2
    exact .bad (by rw [catchErr, landB_form]; simp only [h1, h2, h3]; rfl) (by omega) b3
  rw [h3]
  go_wp2_with fail
  refine (isValid_one c.snow 0 1000000 _ _ (by simp)).mono ?_
  rintro e w4 ⟨rfl, hb4⟩
  have hn4 := hn3.below hb4 hn3.lt
  have b4 := b3.trans (hb4.mono b3.size)
  have y0 := hn4.cell 0
  have y1 := hn4.cell 1
  have y2 := hn4.cell 2
  have y3 := hn4.cell 3
  have y4 := hn4.cell 4
  simp only [List.getElem?_toArray, List.getElem?_cons_zero, List.getElem?_cons_succ] at y0 y1 y2 y3 y4
  clear hb4 hn3 b3
  rcases Bool.eq_false_or_eq_true (bdOk 0 1000000 c.snow) with h4 | h4
  rotate_left
  · rw [h4]
    go_wp2_with fail
    go_ret2
    exact .bad (by rw [catchErr, landB_form]; simp only [h1, h2, h3, h4]; rfl) (by omega) b4
  rw [h4]
  have hok : landOk c = true := by rw [landB_form]; simp only [h1, h2, h3, h4]; rfl
  by_cases hlen : 400 < sky.length
  · have hlen' : decide ((400 : Int) < (sky.length : Int)) = true := by simp; omega
    go_wp2_with fail
    go_ret2
    exact .bad (by rw [catchErr, if_neg (by rw [hok]; simp), if_pos hlen]) (by omega) b4
  have hlen' : decide ((400 : Int) < (sky.length : Int)) = false := by simp; omega
  have He : Hid (catchErr c sky = if sky.all skyOk = false then 2 else 0) := Lib.hid (by rw [catchErr, if_neg (by rw [hok]; simp), if_neg hlen])
  have hL := landOk_iff hok
  have HL := Lib.hid hL
  clear h1 h2 h3 h4 hok
  have hpb := parts_bd hL
  obtain ⟨P, eP⟩ : ∃ P, P = c.area * c.percent := ⟨_, rfl⟩
  rw [← eP] at hpb
  have w1 : IntKind.i64.wrap (c.area * c.percent) = P := by rw [eP]; exact IntWalk.i64_in _ ⟨by omega, by omega⟩
  have EP := Lib.hid eP
  clear eP
  have hbs := b4.size
  have hm := hL.melt
  clear hL
  have hn4l := hn4.lt
  have v0 : (w4.alloc (.cells #[.int .i64 c.snow.lo, .int .i64 c.snow.hi, .int .i64 c.melt] 118)).cell? ⟨w.heap.size, 0, none⟩ = some (.int .i64 c.area) := (World.cell?_alloc_lt w4 _ ⟨w.heap.size, 0, none⟩ hn4l).trans y0
  have v1 : (w4.alloc (.cells #[.int .i64 c.snow.lo, .int .i64 c.snow.hi, .int .i64 c.melt] 118)).cell? ⟨w.heap.size, 1, none⟩ = some (.int .i64 c.percent) := (World.cell?_alloc_lt w4 _ ⟨w.heap.size, 1, none⟩ hn4l).trans y1
  go_wp2_with fail
  go_region
  have qs : Blk ((w4.alloc (.cells #[.int .i64 c.snow.lo, .int .i64 c.snow.hi, .int .i64 c.melt] 118)).drew) w4.heap.size 118 #[.int .i64 (leftL c sky 0), .int .i64 (leftH c sky 0), .int .i64 c.melt] := (Blk.new w4 _ _).drew
  have bs : Below w.heap.size w ((w4.alloc (.cells #[.int .i64 c.snow.lo, .int .i64 c.snow.hi, .int .i64 c.melt] 118)).drew) := (b4.alloc hbs _).drew
  obtain ⟨g, eg⟩ : ∃ g, g = w4.heap.size := ⟨_, rfl⟩
  have Eg := Lib.hid eg
  rw [← eg] at hbs qs ⊢
  clear eg v0 v1 y0 y1 y2 y3 y4 hn4 b4
  go_wp2_with fail
  go_loopw [4, 5, 9, 10, 55] (fun t4 t5 _ _ i wr => ∃ (k : Nat) (v : Value), k ≤ sky.length ∧ i = .int .i64 k ∧ t4 = v ∧ t5 = .int .i64 0 ∧ Hid ((sky.take k).all skyOk = true) ∧ Blk wr g 118 #[.int .i64 (leftL c sky k), .int .i64 (leftH c sky k), .int .i64 c.melt] ∧
      wr.ownsRow (g + 1) 23 2 v k (bdsC (flowsTo c sky k)) ∧ Below w.heap.size w wr) (fun _ _ _ _ i _ => sky.length - (intOf i).toNat)
  case atStart => exact ⟨0, _, Nat.zero_le _, rfl, rfl, rfl, rfl, qs, own_nil _ _ _ _, bs⟩
  case round =>
    clear qs bs
    obtain ⟨k, v, hk, rfl, rfl, rfl, Hal, hq, hown, hbw⟩ := hrel
    by_cases hlt : k < sky.length
    · obtain ⟨b, off, rfl, hb, ⟨c0, c1, c2, c3⟩⟩ := skys_cells sky k hlt _ B _ _ _ (hr.below (hbw.mono hB))
      have hgood := fun h => take_len (f := skyOk) (d := sky0) hlt Hal.out h
      have hbad := fun h => all_not (f := skyOk) (d := sky0) hlt h
      have hsL := leftL_succ c sky hlt
      have hsH := leftH_succ c sky hlt
      have hft := flowsTo_succ c sky k
      rw [flowAt_form, ← EP.out] at hft
      have hlb := left_bd HL.out sky k
      obtain ⟨x, ex⟩ : ∃ x, x = sky.getD k sky0 := ⟨_, rfl⟩
      rw [← ex] at c0 c1 c2 c3 hgood hbad hsL hsH hft
      clear ex
      obtain ⟨L, eL⟩ : ∃ x, x = leftL c sky k := ⟨_, rfl⟩
      obtain ⟨H, eH⟩ : ∃ x, x = leftH c sky k := ⟨_, rfl⟩
      rw [← eL] at hq hsL hlb hft
      rw [← eH] at hq hsH hlb hft
      clear eL eH
      obtain ⟨⟨rl, rh⟩, ⟨tl, th⟩⟩ := x
      simp only at c0 c1 c2 c3 hsL hsH hft
      have Hgood := Lib.hid hgood
      have Hbad := Lib.hid hbad
      have HsL := Lib.hid hsL
      have HsH := Lib.hid hsH
      have Hft := Lib.hid hft
      clear hgood hbad hsL hsH hft
      have hsz := hbw.size
      have hql := hq.lt
      have hx0 := Blk.new wr 33 #[.int .i64 rl, .int .i64 rh, .int .i64 tl, .int .i64 th]
      have b0 : Below w.heap.size w (wr.alloc (.cells #[.int .i64 rl, .int .i64 rh, .int .i64 tl, .int .i64 th] 33)) := hbw.alloc hsz _
      have q0 := hq.alloc (.cells #[.int .i64 rl, .int .i64 rh, .int .i64 tl, .int .i64 th] 33)
      have o0 := hown.alloc (.cells #[.int .i64 rl, .int .i64 rh, .int .i64 tl, .int .i64 th] 33)
      have Hne := Lib.hid (fun j (h : wr.heap.size ≤ j) => own_ne hown h)
      clear hbw hq hown
      go_wp2_with fail
      refine (isValid_one ⟨rl, rh⟩ 0 20000 _ _ (by simp)).mono ?_
      rintro e x1 ⟨rfl, hb1⟩
      have hx1 := hx0.below hb1 hx0.lt
      have b1 := b0.trans (hb1.mono b0.size)
      have q1 := q0.below hb1 q0.lt
      have o1 := own_below o0 hb1 (Nat.le_refl _)
      have y0 := hx1.cell 2
      have y1 := hx1.cell 3
      simp only [List.getElem?_toArray, List.getElem?_cons_zero, List.getElem?_cons_succ] at y0 y1
      clear hb1 hx0 b0 q0 o0
      rcases Bool.eq_false_or_eq_true (bdOk 0 20000 ⟨rl, rh⟩) with g1 | g1
      rotate_left
      · rw [g1]
        go_wp2_with fail
        go_ret2
        exact .bad (by rw [He.out, if_pos (Hbad.out (by show (bdOk 0 20000 ⟨rl, rh⟩ && bdOk (-500) 500 ⟨tl, th⟩) = false; rw [g1]; rfl))]) (by omega) b1
      rw [g1]
      go_wp2_with fail
      refine (isValid_one ⟨tl, th⟩ (-500) 500 _ _ (by simp)).mono ?_
      rintro e x2 ⟨rfl, hb2⟩
      have hx2 := hx1.below hb2 hx1.lt
      have b2 := b1.trans (hb2.mono b1.size)
      have q2 := q1.below hb2 q1.lt
      have o2 := own_below o1 hb2 (Nat.le_refl _)
      have y0 := hx2.cell 2
      have y1 := hx2.cell 3
      simp only [List.getElem?_toArray, List.getElem?_cons_zero, List.getElem?_cons_succ] at y0 y1
      clear hb2 hx1 b1 q1 o1
      rcases Bool.eq_false_or_eq_true (bdOk (-500) 500 ⟨tl, th⟩) with g2 | g2
      rotate_left
      · rw [g2]
        go_wp2_with fail
        go_ret2
        exact .bad (by rw [He.out, if_pos (Hbad.out (by show (bdOk 0 20000 ⟨rl, rh⟩ && bdOk (-500) 500 ⟨tl, th⟩) = false; rw [g1, g2]; rfl))]) (by omega) b2
      rw [g2]
      have Hg := Lib.hid (Hgood.out (by show (bdOk 0 20000 ⟨rl, rh⟩ && bdOk (-500) 500 ⟨tl, th⟩) = true; rw [g1, g2]; rfl))
      have r1 := bdOk_iff.1 g1
      have r2 := bdOk_iff.1 g2
      simp only at r1 r2
      clear g1 g2
      go_wp2_with fail
      refine (melt_any g L H c.melt tl th _ q2 hlb.1 hlb.2 hm (by omega) (by omega)).mono ?_
      rintro e x3 ⟨rfl, q3, gr3⟩
      have hx3 := hx2.grown gr3 (by intro e; injection e with e; omega)
      have hx2l := hx2.lt
      have b3 : Below w.heap.size w x3 := b2.grown gr3 b2.size (fun r e => by injection e with e; omega)
      have o3 := own_far o2 gr3 (by omega)
      have hg3 := gr3.size
      have wlb := warmth_bd (t := tl) hm (by omega)
      have whb := warmth_bd (t := th) hm (by omega)
      clear hx2 b2 q2 o2 gr3 y0 y1
      obtain ⟨ML, eML⟩ : ∃ m, m = min L (warmth c.melt tl) := ⟨_, rfl⟩
      obtain ⟨MH, eMH⟩ : ∃ m, m = min H (warmth c.melt th) := ⟨_, rfl⟩
      have hft := Hft.out
      rw [← eML, ← eMH] at hft
      rw [← HsL.out, ← HsH.out] at q3
      rw [← eML, ← eMH]
      have mlb : 0 ≤ ML ∧ ML ≤ 50000 := by omega
      have mhb : 0 ≤ MH ∧ MH ≤ 50000 := by omega
      have px1 := mul_bd (a := rl + ML) (m := 70000) (by omega) hpb
      have px2 := mul_bd (a := rh + MH) (m := 70000) (by omega) hpb
      obtain ⟨X1, eX1⟩ : ∃ m, m = (rl + ML) * P := ⟨_, rfl⟩
      obtain ⟨X2, eX2⟩ : ∃ m, m = (rh + MH) * P := ⟨_, rfl⟩
      rw [← eX1, ← eX2] at hft
      rw [← eX1] at px1
      rw [← eX2] at px2
      have s1 : IntKind.i64.wrap (rl + ML) = rl + ML := IntWalk.i64_in _ ⟨by omega, by omega⟩
      have s2 : IntKind.i64.wrap (rh + MH) = rh + MH := IntWalk.i64_in _ ⟨by omega, by omega⟩
      have s3 : IntKind.i64.wrap ((rl + ML) * P) = X1 := by rw [← eX1]; exact IntWalk.i64_in _ ⟨by omega, by omega⟩
      have s4 : IntKind.i64.wrap ((rh + MH) * P) = X2 := by rw [← eX2]; exact IntWalk.i64_in _ ⟨by omega, by omega⟩
      have hdn := fun W => down_any X1 10 W (by omega) (by omega) (by omega) (by omega)
      have hup := fun W => up_any X2 10 W (by omega) (by omega) (by omega) (by omega)
      obtain ⟨F1, eF1⟩ : ∃ m, m = floorD X1 10 := ⟨_, rfl⟩
      obtain ⟨C1, eC1⟩ : ∃ m, m = ceilD X2 10 := ⟨_, rfl⟩
      rw [← eF1] at hdn hft
      rw [← eC1] at hup hft
      have Hft2 := Lib.hid hft
      have Hdn := Lib.hid hdn
      have Hup := Lib.hid hup
      clear hft hdn hup eML eMH eX1 eX2 eF1 eC1 Hft
      have hm4 := Blk.new x3 23 #[.int .i64 ML, .int .i64 MH]
      have hx4 := hx3.alloc (.cells #[.int .i64 ML, .int .i64 MH] 23)
      have b4 : Below w.heap.size w (x3.alloc (.cells #[.int .i64 ML, .int .i64 MH] 23)) := b3.alloc b3.size _
      have q4 := q3.alloc (.cells #[.int .i64 ML, .int .i64 MH] 23)
      have o4 := o3.alloc (.cells #[.int .i64 ML, .int .i64 MH] 23)
      have k4 : (x3.alloc (.cells #[.int .i64 ML, .int .i64 MH] 23)).heap.size = x3.heap.size + 1 := by simp
      obtain ⟨W4, eW4⟩ : ∃ W, W = x3.alloc (.cells #[.int .i64 ML, .int .i64 MH] 23) := ⟨_, rfl⟩
      rw [← eW4] at hm4 hx4 b4 q4 o4 k4
      have EW4 := Lib.hid eW4
      clear eW4 hx3 b3 q3 o3
      have e0 := hx4.cell 0
      have e1 := hx4.cell 1
      have e2 := hm4.cell 0
      have e3 := hm4.cell 1
      simp only [List.getElem?_toArray, List.getElem?_cons_zero, List.getElem?_cons_succ] at e0 e1 e2 e3
      have zx : wr.heap.size ≤ x3.heap.size := by omega
      have z0 : wr.heap.size < W4.heap.size := by omega
      have z1 : x3.heap.size < W4.heap.size := by omega
      have H0 := Lib.hid e0
      have H1 := Lib.hid e1
      have H2 := Lib.hid e2
      have H3 := Lib.hid e3
      go_wp2_with fail
      rw [← EW4.out]
      go_region_held3 (fun w' => w'.cell? ⟨wr.heap.size, 0, none⟩ = some (.int .i64 rl) ∧ w'.cell? ⟨x3.heap.size, 0, none⟩ = some (.int .i64 ML) ∧ w'.cell? ⟨wr.heap.size, 1, none⟩ = some (.int .i64 rh) ∧ w'.cell? ⟨x3.heap.size, 1, none⟩ = some (.int .i64 MH))
        (first
          | (go_split_ands; exact ⟨keep_push z0 H0.out hbx hg6 (Hne.out _ (Nat.le_refl _)), keep_push z1 H2.out hbx hg6 (Hne.out _ zx), keep_push z0 H1.out hbx hg6 (Hne.out _ (Nat.le_refl _)), keep_push z1 H3.out hbx hg6 (Hne.out _ zx)⟩)
          | (go_split_ands; exact ⟨keepc z0 H0.out (below_two hbd hbu), keepc z1 H2.out (below_two hbd hbu), keepc z0 H1.out (below_two hbd hbu), keepc z1 H3.out (below_two hbd hbu)⟩)
          | (go_split_ands; exact ⟨keepc z0 H0.out (below_two hbu hbd), keepc z1 H2.out (below_two hbu hbd), keepc z0 H1.out (below_two hbu hbd), keepc z1 H3.out (below_two hbu hbd)⟩)
          | (go_split_ands; exact ⟨keepc z0 H0.out (below_one hbd), keepc z1 H2.out (below_one hbd), keepc z0 H1.out (below_one hbd), keepc z1 H3.out (below_one hbd)⟩)
          | (go_split_ands; exact ⟨keepc z0 H0.out (below_one hbu), keepc z1 H2.out (below_one hbu), keepc z0 H1.out (below_one hbu), keepc z1 H3.out (below_one hbu)⟩)
          | go_keep)
        (first
          | (go_at_call 60; refine (Hdn.out _).mono ?_; rintro e wd ⟨rfl, hbd⟩)
          | (go_at_call 61; refine (Hup.out _).mono ?_; rintro e wu ⟨rfl, hbu⟩)
          | ((have hbx := below_two hbd hbu; have q5 := (q4.below hbx q4.lt).alloc (.cells #[.int .i64 F1, .int .i64 C1] 23); have o5 := (own_below o4 hbx (Nat.le_refl _)).alloc (.cells #[.int .i64 F1, .int .i64 C1] 23); have b5 := (b4.trans (hbx.mono b4.size)).alloc (Nat.le_trans b4.size hbx.size) (.cells #[.int .i64 F1, .int .i64 C1] 23); refine step_push_blk bds_elem (by rfl) (.tmp 75) (.tmp 95) (by rfl) (by rfl) wu.heap.size #[.int .i64 F1, .int .i64 C1] (by rfl) o5 (Blk.new wu _ _) (by rfl) (by simp [Value.oneCell']) (by simp only [maxLen]; omega) (by omega) (by have := hbx.size; simp; omega) ?_; intro v6 w6 hown6 hg6 hat6))
          | fail)
      have q6 := q5.push o5 hg6 (by omega)
      have b6 := Below.push b5 o5 hg6 (by omega) b5.size
      clear q5 o5 b5 hbx hbd hbu q4 o4 b4 hx4 hm4 e0 e1 e2 e3
      go_wp2_with fail
      go_roundw
      case rel =>
        refine ⟨k + 1, v6, by omega, by go_num, rfl, rfl, Hg, q6, ?_, b6⟩
        rw [Hft2.out, bdsC_snoc]
        exact hown6
      case measure => simp [intOf]; omega
    · obtain rfl : k = sky.length := by omega
      have h := Hal.out
      rw [List.take_length] at h
      have H0 := Lib.hid (show catchErr c sky = 0 by rw [He.out, if_neg (by rw [h]; simp)])
      clear h
      go_wp2_with fail
      go_ret2
      exact ⟨⟨_, ret_pair rfl (by rw [H0.out]; rfl), fun h0 => absurd H0.out h0, fun _ => own_less hown (by omega)⟩, hbw⟩
end Go.Proofs.Ytncnlhkmdljgpaa
