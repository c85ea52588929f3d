/- River: ways, their parts, wider hours, plainly; a depth's Low is not above its High. -/
import Derived.Test.YtncnlhkmdljgpaaWayMath
set_option linter.unusedVariables false
namespace Go.Proofs.Ytncnlhkmdljgpaa
open Go Go.RowKit

/-! ### The curve is monotone -/
theorem floor_le_ceil {a b k : Int} (hk : 0 < k) (h : a ≤ b) : floorD a k ≤ ceilD b k := by
  unfold floorD ceilD
  have h1 := Int.mul_ediv_self_le (x := a) (k := k) (by omega)
  have h2 := Int.mul_ediv_self_le (x := -b) (k := k) (by omega)
  have h3 : k * (a / k + -b / k) ≤ 0 := by rw [Int.mul_add]; omega
  have h4 : ¬ (1 ≤ a / k + -b / k) := fun h5 => by
    have := Int.mul_le_mul_of_nonneg_left h5 (show 0 ≤ k by omega)
    omega
  omega
theorem curve_lo {c : List Row} (h : curveB c = true) (hl : 2 ≤ c.length) {f : Int} {j : Nat} (hj : j < c.length) (hf : nextR c f ≤ j) : curveAt false c f ≤ (c.getD j row0).level := by
  unfold curveAt
  by_cases h0 : nextR c f = 0
  · rw [if_pos h0]; exact (curve_mono h (Nat.zero_le j) hj).2
  · rw [if_neg h0, if_neg (by omega)]
    have hb := between_next h h0 (by omega)
    have := hb.rnd_bd false
    have := (curve_mono h hf hj).2
    omega
theorem curve_hi {c : List Row} (h : curveB c = true) (hl : 2 ≤ c.length) {f : Int} {j : Nat} (hj : j < nextR c f) : (c.getD j row0).level ≤ curveAt true c f := by
  have hle := nextR_le c f
  unfold curveAt
  rw [if_neg (by omega)]
  by_cases h1 : nextR c f = c.length
  · rw [if_pos h1]; exact (curve_mono h (show j ≤ c.length - 1 by omega) (by omega)).2
  · rw [if_neg h1]
    have hb := between_next h (by omega) h1
    have := hb.rnd_bd true
    have := (curve_mono h (show j ≤ nextR c f - 1 by omega) (by omega)).2
    omega
theorem nextR_mono {c : List Row} (h : curveB c = true) {f g : Int} (hfg : f ≤ g) : nextR c f ≤ nextR c g := by
  rcases Nat.lt_or_ge (nextR c g) (nextR c f) with hlt | hge
  · have h1 := nextR_lt c f _ hlt
    have h2 := nextR_at c g (by have := nextR_le c f; omega)
    omega
  · exact hge
theorem curve_le {c : List Row} (h : curveB c = true) (hl : 2 ≤ c.length) {f g : Int} (hfg : f ≤ g) : curveAt false c f ≤ curveAt true c g := by
  have hn := nextR_mono h hfg
  have hle := nextR_le c g
  rcases Nat.lt_or_ge (nextR c f) (nextR c g) with hlt | hge
  · exact Int.le_trans (curve_lo h hl (j := nextR c f) (by omega) (Nat.le_refl _)) (curve_hi h hl hlt)
  · have e : nextR c g = nextR c f := by omega
    unfold curveAt
    rw [e]
    by_cases h0 : nextR c f = 0
    · rw [if_pos h0, if_pos h0]; exact Int.le_refl _
    · rw [if_neg h0, if_neg h0]
      by_cases h1 : nextR c f = c.length
      · rw [if_pos h1, if_pos h1]; exact Int.le_refl _
      · rw [if_neg h1, if_neg h1]
        have hb := between_next h h0 h1
        have a1 := hb.f1
        have a2 := hb.f2
        have a3 := hb.l1
        have := floor_le_ceil (a := (f - (c.getD (nextR c f - 1) row0).flow) * ((c.getD (nextR c f) row0).level - (c.getD (nextR c f - 1) row0).level)) (b := (g - (c.getD (nextR c f - 1) row0).flow) * ((c.getD (nextR c f) row0).level - (c.getD (nextR c f - 1) row0).level)) (k := (c.getD (nextR c f) row0).flow - (c.getD (nextR c f - 1) row0).flow) (by omega) (Int.mul_le_mul_of_nonneg_right (by omega) (by omega))
        simp only [rnd]
        simp only [Bool.false_eq_true, if_false, if_true]
        omega
theorem level_le {x : Reach} (hx : ReachOk x) {f : Bd} (hf : f.lo ≤ f.hi) : (levelAt x f).lo ≤ (levelAt x f).hi := by
  have := curve_le hx.curve hx.rows.1 hf
  simp only [levelAt]
  omega
theorem bedOf_le {n : Int} {s : Shoal} (hs : shoalB n s = true) (t : Int) : (bedOf s t).lo ≤ (bedOf s t).hi := by
  simp only [shoalB, Bool.and_eq_true, bdOk_iff] at hs
  have h1 : s.grow.lo * max 0 (t - s.sounded) ≤ s.grow.hi * max 0 (t - s.sounded) := Int.mul_le_mul_of_nonneg_right hs.2.2.2.2.1 (by omega)
  have h2 := floor_le_ceil (k := 24) (by omega) h1
  simp only [bedOf]
  omega
theorem topOf_le {n t : Int} : ∀ {l : List Shoal} {b : Bd}, (∀ s ∈ l, shoalB n s = true) → b.lo ≤ b.hi → (topOf t b l).lo ≤ (topOf t b l).hi
  | [], _, _, h => h
  | s :: l, b, hs, h => by
    have h1 := bedOf_le (hs s (by simp)) t
    exact topOf_le (l := l) (b := b.top (bedOf s t)) (fun x hx => hs x (by simp [hx])) (by simp only [Bd.top]; omega)
theorem depth_le {rv : River} {sides : List (List Bd)} (hS : StartOk rv sides) {p t : Int} (hp1 : 0 ≤ p) (hp2 : p < placesOf rv.reaches) (ht2 : t < (sides.getD 0 []).length) : (depthAt rv sides p t).lo ≤ (depthAt rv sides p t).hi := by
  have hlt := reachOf_lt rv.reaches p hp1 hp2
  have hx := hS.river.reach _ hlt
  have h1 := level_le hx (flowIn_small hS _ t hlt ht2).2.1
  have h2 : (bedAt rv p t).lo ≤ (bedAt rv p t).hi := topOf_le (n := placesOf rv.reaches) (fun s hs => by
    have hm := (List.mem_filter.1 hs).1
    obtain ⟨k, hk, e⟩ := List.getElem_of_mem hm
    have := hS.river.shoal k hk
    rwa [show rv.shoals.getD k shoal0 = s by simp [hk, e]] at this) hx.bottom.2.1
  simp only [depthAt]
  omega

/-! ### The least Low and the least of the greatest Highs -/
def loN (D : Int → Bd) (k0 a : Int) : Nat → Int
  | 0 => a
  | n + 1 => min (loN D k0 a n) (D (k0 + n)).lo
def mxN (D : Int → Bd) (k0 a : Int) : Nat → Int
  | 0 => a
  | n + 1 => max (mxN D k0 a n) (D (k0 + n)).hi
section
variable {D : Int → Bd} {i k0 a b : Int} {s : Sh} {n : Nat}
theorem shIn_lo : ∀ {n : Nat}, (shIn D i k0 s n).lo = loN D k0 s.lo n
  | 0 => rfl
  | n + 1 => by
    rw [shIn, shStep, loN, ← shIn_lo (n := n)]
    split <;> simp only <;> omega
theorem shIn_most : ∀ {n : Nat}, (shIn D i k0 s n).most = mxN D k0 s.most n
  | 0 => rfl
  | n + 1 => by
    rw [shIn, shStep, mxN, ← shIn_most (n := n)]
    split <;> rfl
theorem loN_min : ∀ {n : Nat}, loN D k0 (min a b) n = min a (loN D k0 b n)
  | 0 => rfl
  | n + 1 => by rw [loN, loN, loN_min (n := n)]; omega
theorem loN_le : ∀ {n : Nat}, loN D k0 a n ≤ a ∧ ∀ m, m < n → loN D k0 a n ≤ (D (k0 + m)).lo
  | 0 => ⟨Int.le_refl _, fun m h => absurd h (Nat.not_lt_zero _)⟩
  | n + 1 => by
    obtain ⟨h1, h2⟩ := loN_le (n := n)
    rw [loN]
    refine ⟨by omega, fun m hm => ?_⟩
    rcases Nat.lt_or_ge m n with h | h
    · have := h2 m h; omega
    · obtain rfl : m = n := by omega
      omega
theorem loN_at : ∀ {n : Nat}, loN D k0 a n = a ∨ ∃ m, m < n ∧ loN D k0 a n = (D (k0 + m)).lo
  | 0 => .inl rfl
  | n + 1 => by
    rw [loN]
    rcases Int.le_total (loN D k0 a n) (D (k0 + n)).lo with h | h
    · rw [Int.min_eq_left h]
      rcases loN_at (n := n) with h1 | ⟨m, hm, h1⟩
      · exact .inl h1
      · exact .inr ⟨m, by omega, h1⟩
    · exact .inr ⟨n, by omega, Int.min_eq_right h⟩
theorem mxN_ge : ∀ {n : Nat}, a ≤ mxN D k0 a n ∧ ∀ m, m < n → (D (k0 + m)).hi ≤ mxN D k0 a n
  | 0 => ⟨Int.le_refl _, fun m h => absurd h (Nat.not_lt_zero _)⟩
  | n + 1 => by
    obtain ⟨h1, h2⟩ := mxN_ge (n := n)
    rw [mxN]
    refine ⟨by omega, fun m hm => ?_⟩
    rcases Nat.lt_or_ge m n with h | h
    · have := h2 m h; omega
    · obtain rfl : m = n := by omega
      omega
theorem mxN_at : ∀ {n : Nat}, mxN D k0 a n = a ∨ ∃ m, m < n ∧ mxN D k0 a n = (D (k0 + m)).hi
  | 0 => .inl rfl
  | n + 1 => by
    rw [mxN]
    rcases Int.le_total (D (k0 + n)).hi (mxN D k0 a n) with h | h
    · rw [Int.max_eq_left h]
      rcases mxN_at (n := n) with h1 | ⟨m, hm, h1⟩
      · exact .inl h1
      · exact .inr ⟨m, by omega, h1⟩
    · exact .inr ⟨n, by omega, Int.max_eq_right h⟩
/-- wider hours -/
theorem loN_wide {k1 : Int} {m : Nat} {a' : Int} (ha : a' ≤ a) (h1 : k1 ≤ k0) (h2 : k0 + n ≤ k1 + m) : loN D k1 a' m ≤ loN D k0 a n := by
  rcases loN_at (D := D) (k0 := k0) (a := a) (n := n) with h | ⟨j, hj, h⟩
  · have := (loN_le (D := D) (k0 := k1) (a := a') (n := m)).1; omega
  · have := (loN_le (D := D) (k0 := k1) (a := a') (n := m)).2 (k0 + j - k1).toNat (by omega)
    rw [show k1 + ((k0 + j - k1).toNat : Int) = k0 + j by omega] at this
    omega
theorem mxN_wide {k1 : Int} {m : Nat} (h1 : k1 ≤ k0) (h2 : k0 + n ≤ k1 + m) : mxN D k0 a n ≤ mxN D k1 a m := by
  rcases mxN_at (D := D) (k0 := k0) (a := a) (n := n) with h | ⟨j, hj, h⟩
  · have := (mxN_ge (D := D) (k0 := k1) (a := a) (n := m)).1; omega
  · have := (mxN_ge (D := D) (k0 := k1) (a := a) (n := m)).2 (k0 + j - k1).toNat (by omega)
    rw [show k1 + ((k0 + j - k1).toNat : Int) = k0 + j by omega] at this
    omega
end
section
variable {rv : River} {sides : List (List Bd)} {l l' : List Pass}
theorem shUp_lo (j : Nat) : (shUp rv sides l (j + 1)).lo = loN (depthAt rv sides (l.getD j pass0).place) (l.getD j pass0).hours.lo (shUp rv sides l j).lo (hoursN (l.getD j pass0).hours) := shIn_lo
theorem shUp_hi (j : Nat) : (shUp rv sides l (j + 1)).hi = min (shUp rv sides l j).hi (mxN (depthAt rv sides (l.getD j pass0).place) (l.getD j pass0).hours.lo 0 (hoursN (l.getD j pass0).hours)) := congrArg (min _) shIn_most
theorem shUp_congr : ∀ {n : Nat}, (∀ j, j < n → l.getD j pass0 = l'.getD j pass0) → shUp rv sides l n = shUp rv sides l' n
  | 0, _ => rfl
  | n + 1, h => by rw [shUp, shUp, h n (by omega), shUp_congr (n := n) fun j hj => h j (by omega)]
/-- the two parts of a way -/
theorem shUp_split {m : Nat} (hm : (shUp rv sides l m).lo ≤ 1000000 ∧ (shUp rv sides l m).hi ≤ 1000000) : ∀ {j : Nat}, m + j ≤ l.length → (shUp rv sides l (m + j)).lo = min (shUp rv sides l m).lo (shUp rv sides (l.drop m) j).lo ∧ (shUp rv sides l (m + j)).hi = min (shUp rv sides l m).hi (shUp rv sides (l.drop m) j).hi
  | 0, _ => by simp only [Nat.add_zero, shUp]; omega
  | j + 1, hj => by
    obtain ⟨h1, h2⟩ := shUp_split hm (j := j) (by omega)
    have e : (l.drop m).getD j pass0 = l.getD (m + j) pass0 := by simp
    rw [← Nat.add_assoc, shUp_lo, shUp_hi, shUp_lo, shUp_hi, e, h1, h2, loN_min]
    exact ⟨rfl, by omega⟩
theorem way_parts (hl : (shUp rv sides l l.length).lo ≤ 1000000) {m : Nat} (hm : m ≤ l.length) (h : (shUp rv sides l m).lo ≤ 1000000 ∧ (shUp rv sides l m).hi ≤ 1000000) :
    (shUp rv sides l l.length).lo = min (shUp rv sides (l.take m) m).lo (shUp rv sides (l.drop m) (l.length - m)).lo ∧ (shUp rv sides l l.length).hi = min (shUp rv sides (l.take m) m).hi (shUp rv sides (l.drop m) (l.length - m)).hi := by
  have h1 := shUp_split h (j := l.length - m) (by omega)
  have e : shUp rv sides (l.take m) m = shUp rv sides l m := shUp_congr fun j hj => by simp [hj]
  rw [e]
  rwa [show m + (l.length - m) = l.length by omega] at h1
/-- wider hours -/
theorem way_wide {n : Nat} (hp : ∀ j, j < n → (l'.getD j pass0).place = (l.getD j pass0).place) (h1 : ∀ j, j < n → (l'.getD j pass0).hours.lo ≤ (l.getD j pass0).hours.lo ∧ (l.getD j pass0).hours.lo ≤ (l.getD j pass0).hours.hi ∧ (l.getD j pass0).hours.hi ≤ (l'.getD j pass0).hours.hi) :
    (shUp rv sides l' n).lo ≤ (shUp rv sides l n).lo ∧ (shUp rv sides l n).hi ≤ (shUp rv sides l' n).hi := by
  induction n with
  | zero => exact ⟨Int.le_refl _, Int.le_refl _⟩
  | succ n ih =>
    obtain ⟨i1, i2⟩ := ih (fun j hj => hp j (by omega)) (fun j hj => h1 j (by omega))
    have a1 := h1 n (by omega)
    have e1 := hoursN_eq (b := (l.getD n pass0).hours) a1.2.1
    have e2 := hoursN_eq (b := (l'.getD n pass0).hours) (by omega)
    rw [shUp_lo, shUp_hi, shUp_lo, shUp_hi, hp n (by omega)]
    have b1 := loN_wide (D := depthAt rv sides (l.getD n pass0).place) (n := hoursN (l.getD n pass0).hours) (m := hoursN (l'.getD n pass0).hours) i1 a1.1 (by omega)
    have b2 := mxN_wide (D := depthAt rv sides (l.getD n pass0).place) (a := 0) (n := hoursN (l.getD n pass0).hours) (m := hoursN (l'.getD n pass0).hours) a1.1 (by omega)
    omega
/-- the first pass and hour with the least Low -/
def Best (rv : River) (sides : List (List Bd)) (l : List Pass) (vis : Nat → Nat → Prop) (lo pass hour : Int) : Prop :=
  ∃ i m, vis i m ∧ pass = (i : Nat) ∧ hour = (l.getD i pass0).hours.lo + (m : Nat) ∧ lo = (depthAt rv sides (l.getD i pass0).place ((l.getD i pass0).hours.lo + (m : Nat))).lo ∧
    ∀ i' m', vis i' m' → lo ≤ (depthAt rv sides (l.getD i' pass0).place ((l.getD i' pass0).hours.lo + (m' : Nat))).lo ∧ (i' < i ∨ (i' = i ∧ m' < m) → lo < (depthAt rv sides (l.getD i' pass0).place ((l.getD i' pass0).hours.lo + (m' : Nat))).lo)
def visN (l : List Pass) (j n i m : Nat) : Prop := (i < j ∧ m < hoursN (l.getD i pass0).hours) ∨ (i = j ∧ m < n)
theorem best_in {j : Nat} {s : Sh} (h0 : (s.lo = 1000000 ∧ ∀ i m, ¬ visN l j 0 i m) ∨ Best rv sides l (visN l j 0) s.lo s.pass s.hour) (hD : ∀ n : Nat, n < hoursN (l.getD j pass0).hours → (depthAt rv sides (l.getD j pass0).place ((l.getD j pass0).hours.lo + n)).lo ≤ 30000) : ∀ {n : Nat}, n ≤ hoursN (l.getD j pass0).hours →
    ((shIn (depthAt rv sides (l.getD j pass0).place) j (l.getD j pass0).hours.lo s n).lo = 1000000 ∧ ∀ i m, ¬ visN l j n i m) ∨ Best rv sides l (visN l j n) (shIn (depthAt rv sides (l.getD j pass0).place) j (l.getD j pass0).hours.lo s n).lo (shIn (depthAt rv sides (l.getD j pass0).place) j (l.getD j pass0).hours.lo s n).pass (shIn (depthAt rv sides (l.getD j pass0).place) j (l.getD j pass0).hours.lo s n).hour
  | 0, _ => h0
  | n + 1, hn => by
    have ih := best_in h0 hD (n := n) (by omega)
    have hd := hD n (by omega)
    have hv : ∀ i m, visN l j (n + 1) i m → visN l j n i m ∨ (i = j ∧ m = n) := fun i m h => by
      rcases h with h | ⟨h1, h2⟩
      · exact .inl (.inl h)
      · by_cases e : m = n
        · exact .inr ⟨h1, e⟩
        · exact .inl (.inr ⟨h1, by omega⟩)
    have hself : visN l j (n + 1) j n := .inr ⟨rfl, by omega⟩
    rw [shIn, shStep]
    generalize shIn (depthAt rv sides (l.getD j pass0).place) j (l.getD j pass0).hours.lo s n = t at ih ⊢
    refine .inr ?_
    by_cases hlt : (depthAt rv sides (l.getD j pass0).place ((l.getD j pass0).hours.lo + n)).lo < t.lo
    · rw [if_pos hlt]
      refine ⟨j, n, hself, rfl, rfl, rfl, fun i' m' h' => ?_⟩
      rcases hv i' m' h' with h | ⟨rfl, rfl⟩
      · rcases ih with ⟨_, hno⟩ | ⟨i, m, _, _, _, _, hall⟩
        · exact absurd h (hno i' m')
        · have := (hall i' m' h).1
          simp only
          exact ⟨by omega, fun _ => by omega⟩
      · exact ⟨Int.le_refl _, fun h => by omega⟩
    · rw [if_neg hlt]
      rcases ih with ⟨h1, _⟩ | ⟨i, m, hvis, e1, e2, e3, hall⟩
      · omega
      · refine ⟨i, m, ?_, e1, e2, e3, fun i' m' h' => ?_⟩
        · rcases hvis with h | ⟨h1, h2⟩
          · exact .inl h
          · exact .inr ⟨h1, by omega⟩
        · rcases hv i' m' h' with h | ⟨rfl, rfl⟩
          · exact hall i' m' h
          · refine ⟨by simp only; omega, fun h => ?_⟩
            rcases hvis with ⟨h1, h2⟩ | ⟨h1, h2⟩ <;> omega
theorem best_up (hD : ∀ j n : Nat, j < l.length → n < hoursN (l.getD j pass0).hours → (depthAt rv sides (l.getD j pass0).place ((l.getD j pass0).hours.lo + n)).lo ≤ 30000) : ∀ {j : Nat}, j ≤ l.length →
    ((shUp rv sides l j).lo = 1000000 ∧ ∀ i m, ¬ visN l j 0 i m) ∨ Best rv sides l (visN l j 0) (shUp rv sides l j).lo (shUp rv sides l j).pass (shUp rv sides l j).hour
  | 0, _ => .inl ⟨rfl, fun i m h => by rcases h with ⟨h, _⟩ | ⟨_, h⟩ <;> omega⟩
  | j + 1, hj => by
    have ih := best_up hD (j := j) (by omega)
    have h1 := best_in (rv := rv) (sides := sides) (j := j) (s := ⟨(shUp rv sides l j).lo, (shUp rv sides l j).pass, (shUp rv sides l j).hour, 0⟩) ih (fun n hn => hD j n (by omega) hn) (Nat.le_refl _)
    have hv : ∀ i m, visN l (j + 1) 0 i m ↔ visN l j (hoursN (l.getD j pass0).hours) i m := fun i m => by
      constructor
      · rintro (⟨h, h2⟩ | ⟨_, h⟩)
        · by_cases e : i = j
          · subst e; exact .inr ⟨rfl, h2⟩
          · exact .inl ⟨by omega, h2⟩
        · omega
      · rintro (⟨h, h2⟩ | ⟨rfl, h⟩)
        · exact .inl ⟨by omega, h2⟩
        · exact .inl ⟨by omega, h⟩
    rw [shUp, shNext]
    rcases h1 with ⟨h2, h3⟩ | ⟨i, m, h2, h4, h5, h6, h7⟩
    · exact .inl ⟨h2, fun i m h => h3 i m ((hv i m).1 h)⟩
    · exact .inr ⟨i, m, (hv i m).2 h2, h4, h5, h6, fun i' m' h' => h7 i' m' ((hv i' m').1 h')⟩
/-- what holds of a valid way -/
structure WayOk (rv : River) (sides : List (List Bd)) (l : List Pass) : Prop where
  some : 1 ≤ l.length ∧ l.length ≤ 60
  ok : ∀ j, j < l.length → passOk (placesOf rv.reaches) ((sides.getD 0 []).length : Nat) (l.getD j pass0)
theorem way_ok_of {n : Nat} (h : wayErr (placesOf rv.reaches) ((sides.getD 0 []).length : Nat) l = 0) : WayOk rv sides l := by
  unfold wayErr at h
  split at h
  · omega
  · split at h
    · omega
    · exact ⟨by omega, passBad_mem h⟩
theorem way_zero (h : WayOk rv sides l) : wayErr (placesOf rv.reaches) ((sides.getD 0 []).length : Nat) l = 0 := by
  have := h.some
  rw [way_in (by omega) (by omega)]
  exact passBad_ok h.ok
theorem way_take (h : WayOk rv sides l) {m : Nat} (h1 : 0 < m) (h2 : m ≤ l.length) : WayOk rv sides (l.take m) := by
  have := h.some
  refine ⟨by simp; omega, fun j hj => ?_⟩
  simp only [List.length_take] at hj
  have e : (l.take m).getD j pass0 = l.getD j pass0 := by simp [show j < m by omega]
  rw [e]
  exact h.ok j (by omega)
theorem way_drop (h : WayOk rv sides l) {m : Nat} (h2 : m < l.length) : WayOk rv sides (l.drop m) := by
  have := h.some
  refine ⟨by simp; omega, fun j hj => ?_⟩
  simp only [List.length_drop] at hj
  have e : (l.drop m).getD j pass0 = l.getD (m + j) pass0 := by simp
  rw [e]
  exact h.ok _ (by omega)
variable (hS : StartOk rv sides) (hw : WayOk rv sides l)
include hS hw
theorem way_depth {j n : Nat} (hj : j < l.length) (hn : n < hoursN (l.getD j pass0).hours) :
    ((l.getD j pass0).hours.lo ≤ (l.getD j pass0).hours.lo + (n : Nat) ∧ (l.getD j pass0).hours.lo + (n : Nat) ≤ (l.getD j pass0).hours.hi) ∧ (0 ≤ (depthAt rv sides (l.getD j pass0).place ((l.getD j pass0).hours.lo + n)).lo ∧ (depthAt rv sides (l.getD j pass0).place ((l.getD j pass0).hours.lo + n)).lo ≤ 30000) ∧ (depthAt rv sides (l.getD j pass0).place ((l.getD j pass0).hours.lo + n)).lo ≤ (depthAt rv sides (l.getD j pass0).place ((l.getD j pass0).hours.lo + n)).hi := by
  obtain ⟨h1, h2⟩ := hw.ok j hj
  have h1 := inB_iff.1 h1
  have h2 := bdOk_iff.1 h2
  have h3 := hoursN_eq h2.2.1
  have h4 := depth_bd hS (p := (l.getD j pass0).place) (t := (l.getD j pass0).hours.lo + n) (by omega) (by omega) (by omega) (by omega)
  have h5 := depth_le hS (p := (l.getD j pass0).place) (t := (l.getD j pass0).hours.lo + n) (by omega) (by omega) (by omega)
  exact ⟨by omega, h4.1, h5⟩
theorem way_best : Best rv sides l (fun i m => i < l.length ∧ m < hoursN (l.getD i pass0).hours) (shUp rv sides l l.length).lo (shUp rv sides l l.length).pass (shUp rv sides l l.length).hour := by
  have h := best_up (rv := rv) (sides := sides) (l := l) (fun j n hj hn => (way_depth hS hw hj hn).2.1.2) (Nat.le_refl _)
  have hv : ∀ i m, visN l l.length 0 i m ↔ (i < l.length ∧ m < hoursN (l.getD i pass0).hours) := fun i m => ⟨fun h => by rcases h with h | ⟨_, h⟩; exact h; omega, fun h => .inl h⟩
  have hs := hw.some
  obtain ⟨_, h2⟩ := hw.ok 0 (by omega)
  have h2 := bdOk_iff.1 h2
  have h3 := hoursN_eq h2.2.1
  rcases h with ⟨_, hno⟩ | ⟨i, m, h1, h4, h5, h6, h7⟩
  · exact absurd ((hv 0 0).2 ⟨by omega, by omega⟩) (hno 0 0)
  · exact ⟨i, m, (hv i m).1 h1, h4, h5, h6, fun i' m' h' => h7 i' m' ((hv i' m').2 h')⟩
theorem way_lohi : 0 ≤ (shUp rv sides l l.length).lo ∧ (shUp rv sides l l.length).lo ≤ (shUp rv sides l l.length).hi := by
  have hb := shUp_bd hS hw.ok (Nat.le_refl _)
  have hs := hw.some
  refine ⟨hb.1.1, ?_⟩
  obtain ⟨i0, m0, _, _, _, _, hall⟩ := way_best hS hw
  -- every High stands above a Low that was seen
  have key : ∀ j, j ≤ l.length → 0 < j → ∃ i m, i < l.length ∧ m < hoursN (l.getD i pass0).hours ∧ (depthAt rv sides (l.getD i pass0).place ((l.getD i pass0).hours.lo + (m : Nat))).lo ≤ (shUp rv sides l j).hi := by
    intro j
    induction j with
    | zero => intro _ h; omega
    | succ j ih =>
      intro hj _
      obtain ⟨_, h2⟩ := hw.ok j (by omega)
      have h2 := bdOk_iff.1 h2
      have h3 := hoursN_eq h2.2.1
      have hd := way_depth hS hw (j := j) (n := 0) (by omega) (by omega)
      have hm := (mxN_ge (D := depthAt rv sides (l.getD j pass0).place) (k0 := (l.getD j pass0).hours.lo) (a := 0) (n := hoursN (l.getD j pass0).hours)).2 0 (by omega)
      rw [shUp_hi]
      rcases Nat.eq_zero_or_pos j with h0 | h0
      · subst h0
        refine ⟨0, 0, by omega, by omega, ?_⟩
        have : (shUp rv sides l 0).hi = 1000000 := rfl
        omega
      · obtain ⟨i, m, hi, hm2, h⟩ := ih (by omega) h0
        rcases Int.le_total (shUp rv sides l j).hi (mxN (depthAt rv sides (l.getD j pass0).place) (l.getD j pass0).hours.lo 0 (hoursN (l.getD j pass0).hours)) with hc | hc
        · exact ⟨i, m, hi, hm2, by rw [Int.min_eq_left hc]; exact h⟩
        · exact ⟨j, 0, by omega, by omega, by rw [Int.min_eq_right hc]; omega⟩
  obtain ⟨i, m, hi, hm, h⟩ := key l.length (Nat.le_refl _) (by omega)
  have := (hall i m ⟨hi, hm⟩).1
  omega
end
end Go.Proofs.Ytncnlhkmdljgpaa
