/- The reference's curve is the program's; bounds of flows. No program in sight. -/
import Derived.Test.YtfgfenmaommclaaRivMath
namespace Go.Proofs.Ytfgfenmaommclaa

theorem rnd_zero (up : Bool) (k : Int) : rnd up 0 k = 0 := by
  cases up <;> simp [rnd, ceilD, floorD]
theorem rnd_whole (up : Bool) {m k : Int} (hk : 0 < k) : rnd up (k * m) k = m := by
  cases up
  · simp only [rnd, floorD, Bool.false_eq_true, if_false]
    exact Int.mul_ediv_cancel_left m (by omega)
  · simp only [rnd, ceilD, if_true]
    rw [← Int.mul_neg, Int.mul_ediv_cancel_left (-m) (by omega)]
    omega
section
variable {c : List Row} {f : Int}
theorem curve_low (h : curveB c = true) (hl : 2 ≤ c.length) (up : Bool) (hf : f ≤ (c.getD 0 row0).flow) : curveAt up c f = (c.getD 0 row0).level := by
  rcases Int.lt_or_eq_of_le hf with hlt | heq
  · have e : nextR c f = 0 := (nextR_eq (Nat.zero_le _) (fun j hj => absurd hj (by omega)) (fun _ => hlt)).symm
    rw [curveAt, if_pos e]
  · have e : nextR c f = 1 := by
      refine (nextR_eq (by omega) (fun j hj => ?_) (fun _ => ?_)).symm
      · obtain rfl : j = 0 := by omega
        omega
      · have := curve_lt h (show 0 < 1 by omega) (by omega)
        omega
    rw [curveAt, e, if_neg (by omega), if_neg (by omega)]
    show (c.getD 0 row0).level + rnd up ((f - (c.getD 0 row0).flow) * _) _ = _
    rw [heq, Int.sub_self, Int.zero_mul, rnd_zero]
    omega
theorem curve_high (h : curveB c = true) (hl : 2 ≤ c.length) (up : Bool) (hf : (c.getD (c.length - 1) row0).flow ≤ f) : curveAt up c f = (c.getD (c.length - 1) row0).level := by
  have e : nextR c f = c.length := (nextR_eq (Nat.le_refl _) (fun j hj => by have := (curve_mono h (show j ≤ c.length - 1 by omega) (by omega)).1; omega) (fun hh => absurd hh (by omega))).symm
  rw [curveAt, e, if_neg (by omega), if_pos rfl]
theorem curve_mid (h : curveB c = true) (up : Bool) {i : Nat} (hi : i + 1 < c.length) (h1 : (c.getD i row0).flow < f) (h2 : f ≤ (c.getD (i + 1) row0).flow) (h3 : f < (c.getD (c.length - 1) row0).flow) :
    curveAt up c f = (c.getD i row0).level + rnd up ((f - (c.getD i row0).flow) * ((c.getD (i + 1) row0).level - (c.getD i row0).level)) ((c.getD (i + 1) row0).flow - (c.getD i row0).flow) := by
  rcases Int.lt_or_eq_of_le h2 with hlt | heq
  · have e : nextR c f = i + 1 := (nextR_eq (by omega) (fun j hj => by have := (curve_mono h (show j ≤ i by omega) (by omega)).1; omega) (fun _ => hlt)).symm
    rw [curveAt, e, if_neg (by omega), if_neg (by omega), Nat.add_sub_cancel]
  · have hne : i + 1 ≠ c.length - 1 := fun e => by rw [e] at heq; omega
    have e : nextR c f = i + 2 := (nextR_eq (by omega) (fun j hj => by have := (curve_mono h (show j ≤ i + 1 by omega) (by omega)).1; omega) (fun _ => by have := curve_lt h (show i + 1 < i + 2 by omega) (by omega); omega)).symm
    rw [curveAt, e, if_neg (by omega), if_neg (by omega)]
    show (c.getD (i + 1) row0).level + rnd up ((f - (c.getD (i + 1) row0).flow) * _) _ = _
    rw [← heq, Int.sub_self, Int.zero_mul, rnd_zero, rnd_whole up (by omega)]
    omega
end

/-- what holds of a forecast that is valid -/
structure StartOk (r : River) (sides : List (List Bd)) : Prop where
  river : RiverOk r
  many : sides.length = r.reaches.length
  hours : 1 ≤ (sides.getD 0 []).length ∧ (sides.getD 0 []).length ≤ 400
  same : ∀ i, i < sides.length → (sides.getD i []).length = (sides.getD 0 []).length
  side : ∀ i k, i < sides.length → k < (sides.getD 0 []).length → 0 ≤ ((sides.getD i []).getD k bd0).lo ∧ ((sides.getD i []).getD k bd0).lo ≤ ((sides.getD i []).getD k bd0).hi ∧ ((sides.getD i []).getD k bd0).hi ≤ 10000000000
theorem startErr_ok {r : River} {sides : List (List Bd)} (h : startErr r sides = 0) : riverB r = true ∧ StartOk r sides := by
  unfold startErr at h
  by_cases h1 : riverB r = false
  · rw [if_pos h1] at h; omega
  · rw [if_neg h1] at h
    by_cases h2 : sides.length ≠ r.reaches.length ∨ (sides.getD 0 []).length = 0
    · rw [if_pos h2] at h; omega
    · rw [if_neg h2] at h
      by_cases h3 : (sides.all fun l => decide (l.length = (sides.getD 0 []).length)) = false
      · rw [if_pos h3] at h; omega
      · rw [if_neg h3] at h
        by_cases h4 : 400 < (sides.getD 0 []).length
        · rw [if_pos h4] at h; omega
        · rw [if_neg h4] at h
          by_cases h5 : (sides.all fun l => l.all (bdOk 0 10000000000)) = false
          · rw [if_pos h5] at h; omega
          · have hr : riverB r = true := by simpa using h1
            have h3' := List.all_eq_true.1 (by simpa using h3 : (sides.all fun l => decide (l.length = (sides.getD 0 []).length)) = true)
            have h5' := List.all_eq_true.1 (by simpa using h5 : (sides.all fun l => l.all (bdOk 0 10000000000)) = true)
            have hs : ∀ i, i < sides.length → (sides.getD i []).length = (sides.getD 0 []).length := fun i hi => of_decide_eq_true (h3' _ (getD_mem hi))
            refine ⟨hr, riverB_ok hr, by omega, by omega, hs, fun i k hi hk => ?_⟩
            exact bdOk_iff.1 (List.all_eq_true.1 (h5' _ (getD_mem hi)) _ (getD_mem (by rw [hs i hi]; exact hk)))
/-- bounds of a flow -/
theorem flowIn_bd {r : River} {sides : List (List Bd)} (h : StartOk r sides) : ∀ (i : Nat) (t : Int), i < r.reaches.length → t < (sides.getD 0 []).length →
    0 ≤ (flowIn r.reaches sides i t).lo ∧ (flowIn r.reaches sides i t).lo ≤ (flowIn r.reaches sides i t).hi ∧ (flowIn r.reaches sides i t).hi ≤ ((i : Int) + 1) * 10000000000
  | 0, t, hi, ht => by
    rw [flowIn]
    by_cases hn : t < 0
    · rw [if_pos hn]
      have := (h.river.reach 0 hi).base
      omega
    · rw [if_neg hn]
      have := h.side 0 t.toNat (by have := h.many; omega) (by omega)
      omega
  | i + 1, t, hi, ht => by
    rw [flowIn]
    by_cases hn : t < 0
    · rw [if_pos hn]
      have := (h.river.reach (i + 1) hi).base
      omega
    · rw [if_neg hn]
      have h1 := h.side (i + 1) t.toNat (by have := h.many; omega) (by omega)
      have h2 := (h.river.reach i (by omega)).delay
      have h3 := flowIn_bd h i (t - (r.reaches.getD i reach0).delay) (by omega) (by omega)
      simp only [Bd.add]
      omega
theorem flowIn_small {r : River} {sides : List (List Bd)} (h : StartOk r sides) (i : Nat) (t : Int) (hi : i < r.reaches.length) (ht : t < (sides.getD 0 []).length) :
    0 ≤ (flowIn r.reaches sides i t).lo ∧ (flowIn r.reaches sides i t).lo ≤ (flowIn r.reaches sides i t).hi ∧ (flowIn r.reaches sides i t).hi ≤ 200000000000 := by
  have h1 := flowIn_bd h i t hi ht
  have h2 := h.river.some
  omega
/-- bounds of a level -/
theorem levelAt_bd {x : Reach} (h : ReachOk x) (f : Bd) : (0 ≤ (levelAt x f).lo ∧ (levelAt x f).lo ≤ 10000) ∧ 0 ≤ (levelAt x f).hi ∧ (levelAt x f).hi ≤ 10000 := by
  have h1 := curveAt_bd h.curve h.rows.1 false f.lo
  have h2 := curveAt_bd h.curve h.rows.1 true f.hi
  have h3 := h.weir
  simp only [levelAt]
  omega
theorem floor24 {n m : Int} (h : -m * 24 ≤ n) (h' : n ≤ m * 24) : -m ≤ floorD n 24 ∧ floorD n 24 ≤ m := by
  unfold floorD
  omega
theorem ceil24 {n m : Int} (h : -m * 24 ≤ n) (h' : n ≤ m * 24) : -m ≤ ceilD n 24 ∧ ceilD n 24 ≤ m := by
  unfold ceilD
  omega
/-- what a shoal is in an hour -/
theorem bedOf_bd {n : Int} {s : Shoal} (h : shoalB n s = true) {t : Int} (h1 : -400 ≤ t) (h2 : t ≤ 400) :
    (0 ≤ max 0 (t - s.sounded) ∧ max 0 (t - s.sounded) ≤ 800) ∧ (-400000 ≤ s.grow.lo * max 0 (t - s.sounded) ∧ s.grow.lo * max 0 (t - s.sounded) ≤ 400000) ∧ (-400000 ≤ s.grow.hi * max 0 (t - s.sounded) ∧ s.grow.hi * max 0 (t - s.sounded) ≤ 400000) ∧
      (-20000 ≤ (bedOf s t).lo ∧ (bedOf s t).lo ≤ 30000) ∧ -20000 ≤ (bedOf s t).hi ∧ (bedOf s t).hi ≤ 30000 := by
  simp only [shoalB, Bool.and_eq_true, inB_iff, bdOk_iff] at h
  obtain ⟨hp, hb, hs, hg⟩ := h
  have hd : 0 ≤ max 0 (t - s.sounded) ∧ max 0 (t - s.sounded) ≤ 800 := by omega
  have key : ∀ g : Int, -500 ≤ g → g ≤ 500 → -400000 ≤ g * max 0 (t - s.sounded) ∧ g * max 0 (t - s.sounded) ≤ 400000 := fun g g1 g2 => by
    have a := Int.mul_le_mul_of_nonneg_right g2 hd.1
    have b := Int.mul_le_mul_of_nonneg_right g1 hd.1
    omega
  have k1 := key s.grow.lo hg.1 (by omega)
  have k2 := key s.grow.hi (by omega) hg.2.2
  have f1 := floor24 (n := s.grow.lo * max 0 (t - s.sounded)) (m := 16667) (by omega) (by omega)
  have f2 := ceil24 (n := s.grow.hi * max 0 (t - s.sounded)) (m := 16667) (by omega) (by omega)
  refine ⟨hd, k1, k2, ?_⟩
  simp only [bedOf]
  omega
end Go.Proofs.Ytfgfenmaommclaa
