/- The river, plainly: what a valid river is, its flows, levels and beds. No program in sight. -/
import Derived.Test.YtfgfenmaommclaaSnowMath
namespace Go.Proofs.Ytfgfenmaommclaa

structure Row where
  flow : Int
  level : Int
structure Reach where
  len : Int
  delay : Int
  base : Bd
  curve : List Row
  weir : Int
  bottom : Bd
  flood : Int
structure Shoal where
  place : Int
  bed : Bd
  sounded : Int
  grow : Bd
structure River where
  reaches : List Reach
  shoals : List Shoal

def row0 : Row := ⟨0, 0⟩
def bd0 : Bd := ⟨0, 0⟩
def reach0 : Reach := ⟨0, 0, bd0, [], 0, bd0, 0⟩
def shoal0 : Shoal := ⟨0, bd0, 0, bd0⟩
/-- what a row must be behind another one -/
def rowB (f l : Int) (r : Row) : Bool := inB f 10000000000 r.flow && inB l 10000 r.level
/-- the least flow and level of row k -/
def lowF (c : List Row) (k : Nat) : Int := if k = 0 then 0 else (c.getD (k - 1) row0).flow + 1
def lowL (c : List Row) (k : Nat) : Int := if k = 0 then 0 else (c.getD (k - 1) row0).level
def rowAtB (c : List Row) (k : Nat) : Bool := rowB (lowF c k) (lowL c k) (c.getD k row0)
def curveB (c : List Row) : Bool := (List.range c.length).all (rowAtB c)
def reachB (x : Reach) : Bool := inB 1 5000 x.len && (inB 0 200 x.delay && (bdOk 0 10000000000 x.base && (inB 2 30 (x.curve.length : Int) && (inB 0 10000 x.weir && (bdOk 0 10000 x.bottom && (inB 0 10000 x.flood && curveB x.curve))))))
def placesOf (l : List Reach) : Int := (l.map Reach.len).sum
def shoalB (n : Int) (s : Shoal) : Bool := inB 0 (n - 1) s.place && (bdOk 0 10000 s.bed && (inB (-400) 400 s.sounded && bdOk (-500) 500 s.grow))
def riverB (r : River) : Bool := inB 1 20 (r.reaches.length : Int) && (decide (r.shoals.length ≤ 40) && (r.reaches.all reachB && r.shoals.all (shoalB (placesOf r.reaches))))
/-- the error of a river and what flows in from its sides -/
def startErr (r : River) (sides : List (List Bd)) : Int :=
  if riverB r = false then 2
  else if sides.length ≠ r.reaches.length ∨ (sides.getD 0 []).length = 0 then 4
  else if (sides.all fun l => decide (l.length = (sides.getD 0 []).length)) = false then 4
  else if 400 < (sides.getD 0 []).length then 5
  else if (sides.all fun l => l.all (bdOk 0 10000000000)) = false then 2 else 0

def Bd.add (a b : Bd) : Bd := ⟨a.lo + b.lo, a.hi + b.hi⟩
/-- the flow of a reach in an hour, also before the first one -/
def flowIn (r : List Reach) (sides : List (List Bd)) : Nat → Int → Bd
  | 0, h => if h < 0 then (r.getD 0 reach0).base else ((sides.getD 0 []).getD h.toNat bd0)
  | i + 1, h => if h < 0 then (r.getD (i + 1) reach0).base else ((sides.getD (i + 1) []).getD h.toNat bd0).add (flowIn r sides i (h - (r.getD i reach0).delay))
theorem flowIn_neg (r : List Reach) (sides : List (List Bd)) (i : Nat) {h : Int} (hh : h < 0) : flowIn r sides i h = (r.getD i reach0).base := by
  cases i <;> rw [flowIn, if_pos hh]
def flowsOf (r : List Reach) (sides : List (List Bd)) (m : Nat) (i : Nat) : List Bd := (List.range m).map fun h : Nat => flowIn r sides i h
def flowsAll (r : List Reach) (sides : List (List Bd)) : List (List Bd) := (List.range sides.length).map (flowsOf r sides (sides.getD 0 []).length)

/-- what holds of a reach that is valid -/
structure ReachOk (x : Reach) : Prop where
  len : 1 ≤ x.len ∧ x.len ≤ 5000
  delay : 0 ≤ x.delay ∧ x.delay ≤ 200
  base : 0 ≤ x.base.lo ∧ x.base.lo ≤ x.base.hi ∧ x.base.hi ≤ 10000000000
  rows : 2 ≤ x.curve.length ∧ x.curve.length ≤ 30
  weir : 0 ≤ x.weir ∧ x.weir ≤ 10000
  bottom : 0 ≤ x.bottom.lo ∧ x.bottom.lo ≤ x.bottom.hi ∧ x.bottom.hi ≤ 10000
  flood : 0 ≤ x.flood ∧ x.flood ≤ 10000
  curve : curveB x.curve = true
theorem bdOk_iff {lo hi : Int} {b : Bd} : bdOk lo hi b = true ↔ lo ≤ b.lo ∧ b.lo ≤ b.hi ∧ b.hi ≤ hi := by
  simp [bdOk, inB]
  omega
theorem reachB_ok {x : Reach} (h : reachB x = true) : ReachOk x := by
  simp only [reachB, Bool.and_eq_true, inB_iff, bdOk_iff] at h
  obtain ⟨h1, h2, h3, h4, h5, h6, h7, h8⟩ := h
  exact ⟨h1, h2, h3, ⟨by omega, by omega⟩, h5, h6, h7, h8⟩
theorem rowB_iff {f l : Int} {r : Row} : rowB f l r = true ↔ (f ≤ r.flow ∧ r.flow ≤ 10000000000) ∧ l ≤ r.level ∧ r.level ≤ 10000 := by
  simp only [rowB, Bool.and_eq_true, inB_iff]
theorem curve_row {c : List Row} (h : curveB c = true) {k : Nat} (hk : k < c.length) : rowAtB c k = true := List.all_eq_true.1 h k (List.mem_range.2 hk)
/-- rows of a valid curve -/
theorem curve_at {c : List Row} (h : curveB c = true) : ∀ k, k < c.length → (0 ≤ (c.getD k row0).flow ∧ (c.getD k row0).flow ≤ 10000000000) ∧ 0 ≤ (c.getD k row0).level ∧ (c.getD k row0).level ≤ 10000
  | 0, hk => by
    have h1 := rowB_iff.1 (curve_row h hk)
    simpa [lowF, lowL] using h1
  | k + 1, hk => by
    have h1 := rowB_iff.1 (curve_row h hk)
    have h2 := curve_at h k (by omega)
    simp only [lowF, lowL, Nat.add_eq_zero_iff, Nat.one_ne_zero, and_false, if_false, Nat.add_sub_cancel] at h1
    omega
theorem curve_step {c : List Row} (h : curveB c = true) {k : Nat} (hk : k + 1 < c.length) : (c.getD k row0).flow < (c.getD (k + 1) row0).flow ∧ (c.getD k row0).level ≤ (c.getD (k + 1) row0).level := by
  have h1 := rowB_iff.1 (curve_row h hk)
  simp only [lowF, lowL, Nat.add_eq_zero_iff, Nat.one_ne_zero, and_false, if_false, Nat.add_sub_cancel] at h1
  omega
theorem curve_mono {c : List Row} (h : curveB c = true) {i : Nat} : ∀ {j : Nat}, i ≤ j → j < c.length → (c.getD i row0).flow ≤ (c.getD j row0).flow ∧ (c.getD i row0).level ≤ (c.getD j row0).level := by
  intro j hij
  induction j with
  | zero => intro hj; obtain rfl : i = 0 := by omega
            exact ⟨Int.le_refl _, Int.le_refl _⟩
  | succ j ih =>
    intro hj
    rcases Nat.lt_or_ge i (j + 1) with hlt | hge
    · have h1 := ih (by omega) (by omega)
      have h2 := curve_step h hj
      omega
    · obtain rfl : i = j + 1 := by omega
      exact ⟨Int.le_refl _, Int.le_refl _⟩
theorem curve_lt {c : List Row} (h : curveB c = true) {i j : Nat} (hij : i < j) (hj : j < c.length) : (c.getD i row0).flow < (c.getD j row0).flow := by
  have h1 := curve_step h (show i + 1 < c.length by omega)
  have h2 := (curve_mono h (show i + 1 ≤ j by omega) hj).1
  omega

/-- how many rows have at most this flow -/
def nextR (c : List Row) (f : Int) : Nat := (c.takeWhile fun r => decide (r.flow ≤ f)).length
theorem nextR_le (c : List Row) (f : Int) : nextR c f ≤ c.length := (List.takeWhile_sublist _).length_le
theorem nextR_lt : ∀ (c : List Row) (f : Int) (j : Nat), j < nextR c f → (c.getD j row0).flow ≤ f
  | [], f, j, h => by simp [nextR] at h
  | r :: c, f, j, h => by
    by_cases hr : r.flow ≤ f
    · cases j with
      | zero => simpa using hr
      | succ j =>
        have := nextR_lt c f j (by simp [nextR, hr] at h; unfold nextR; omega)
        simpa using this
    · simp [nextR, hr] at h
theorem nextR_at : ∀ (c : List Row) (f : Int), nextR c f < c.length → f < (c.getD (nextR c f) row0).flow
  | [], f, h => by simp at h
  | r :: c, f, h => by
    by_cases hr : r.flow ≤ f
    · have e : nextR (r :: c) f = nextR c f + 1 := by simp [nextR, hr]
      rw [e] at h ⊢
      have := nextR_at c f (by simp at h; omega)
      simpa using this
    · have e : nextR (r :: c) f = 0 := by simp [nextR, hr]
      rw [e]
      simp
      omega
theorem nextR_ge {c : List Row} (h : curveB c = true) {f : Int} {j : Nat} (hj : nextR c f ≤ j) (hl : j < c.length) : f < (c.getD j row0).flow := by
  have h1 := nextR_at c f (by omega)
  have h2 := (curve_mono h hj hl).1
  omega
theorem nextR_eq {c : List Row} {f : Int} {n : Nat} (hn : n ≤ c.length) (h1 : ∀ j, j < n → (c.getD j row0).flow ≤ f) (h2 : n < c.length → f < (c.getD n row0).flow) : n = nextR c f := by
  have hle := nextR_le c f
  rcases Nat.lt_trichotomy n (nextR c f) with hlt | heq | hgt
  · have a := nextR_lt c f n hlt
    have b := h2 (by omega)
    omega
  · exact heq
  · have a := h1 _ hgt
    have b := nextR_at c f (by omega)
    omega
/-- a division, rounded down or up -/
def rnd (up : Bool) (n k : Int) : Int := if up then ceilD n k else floorD n k
/-- the curve at a flow -/
def curveAt (up : Bool) (c : List Row) (f : Int) : Int :=
  if nextR c f = 0 then (c.getD 0 row0).level
  else if nextR c f = c.length then (c.getD (c.length - 1) row0).level
  else (c.getD (nextR c f - 1) row0).level + rnd up ((f - (c.getD (nextR c f - 1) row0).flow) * ((c.getD (nextR c f) row0).level - (c.getD (nextR c f - 1) row0).level)) ((c.getD (nextR c f) row0).flow - (c.getD (nextR c f - 1) row0).flow)
def levelAt (x : Reach) (f : Bd) : Bd := ⟨max x.weir (curveAt false x.curve f.lo), max x.weir (curveAt true x.curve f.hi)⟩
/-- between two neighbouring rows -/
structure Between (c : List Row) (f : Int) (n : Nat) : Prop where
  pos : 0 < n
  lt : n < c.length
  f0 : 0 ≤ (c.getD (n - 1) row0).flow
  f1 : (c.getD (n - 1) row0).flow ≤ f
  f2 : f < (c.getD n row0).flow
  f3 : (c.getD n row0).flow ≤ 10000000000
  l0 : 0 ≤ (c.getD (n - 1) row0).level
  l1 : (c.getD (n - 1) row0).level ≤ (c.getD n row0).level
  l2 : (c.getD n row0).level ≤ 10000
theorem between_next {c : List Row} (h : curveB c = true) {f : Int} (h0 : nextR c f ≠ 0) (h1 : nextR c f ≠ c.length) : Between c f (nextR c f) := by
  have hle := nextR_le c f
  have a := curve_at h (nextR c f - 1) (by omega)
  have b := curve_at h (nextR c f) (by omega)
  have d := curve_step h (show nextR c f - 1 + 1 < c.length by omega)
  rw [Nat.sub_add_cancel (by omega)] at d
  exact ⟨by omega, by omega, a.1.1, nextR_lt c f _ (by omega), nextR_at c f (by omega), b.1.2, a.2.1, d.2, b.2.2⟩
theorem floor_bd {a b : Int} (ha : 0 ≤ a) (hb : 0 < b) {m : Int} (hm : a ≤ m * b) : 0 ≤ floorD a b ∧ floorD a b ≤ m := by
  unfold floorD
  exact ⟨Int.ediv_nonneg ha (by omega), Int.ediv_le_of_le_mul hb hm⟩
theorem ceil_bd {a b : Int} (ha : 0 ≤ a) (hb : 0 < b) {m : Int} (hm : a ≤ m * b) : 0 ≤ ceilD a b ∧ ceilD a b ≤ m := by
  unfold ceilD
  have h1 : -a / b ≤ 0 := by
    have := Int.ediv_le_of_le_mul hb (show -a ≤ 0 * b by omega)
    exact this
  have h2 : -m ≤ -a / b := (Int.le_ediv_iff_mul_le hb).2 (by rw [Int.neg_mul]; omega)
  omega
theorem Between.rnd_bd {c : List Row} {f : Int} {n : Nat} (h : Between c f n) (up : Bool) :
    0 ≤ rnd up ((f - (c.getD (n - 1) row0).flow) * ((c.getD n row0).level - (c.getD (n - 1) row0).level)) ((c.getD n row0).flow - (c.getD (n - 1) row0).flow) ∧
      rnd up ((f - (c.getD (n - 1) row0).flow) * ((c.getD n row0).level - (c.getD (n - 1) row0).level)) ((c.getD n row0).flow - (c.getD (n - 1) row0).flow) ≤ (c.getD n row0).level - (c.getD (n - 1) row0).level := by
  obtain ⟨_, _, _, h1, h2, _, _, h4, _⟩ := h
  have ha : 0 ≤ (f - (c.getD (n - 1) row0).flow) * ((c.getD n row0).level - (c.getD (n - 1) row0).level) := Int.mul_nonneg (by omega) (by omega)
  have hm : (f - (c.getD (n - 1) row0).flow) * ((c.getD n row0).level - (c.getD (n - 1) row0).level) ≤ ((c.getD n row0).level - (c.getD (n - 1) row0).level) * ((c.getD n row0).flow - (c.getD (n - 1) row0).flow) := by
    rw [Int.mul_comm]
    exact Int.mul_le_mul_of_nonneg_left (by omega) (by omega)
  unfold rnd
  cases up
  · exact floor_bd ha (by omega) hm
  · exact ceil_bd ha (by omega) hm
theorem curveAt_bd {c : List Row} (h : curveB c = true) (hl : 2 ≤ c.length) (up : Bool) (f : Int) : 0 ≤ curveAt up c f ∧ curveAt up c f ≤ 10000 := by
  unfold curveAt
  by_cases h0 : nextR c f = 0
  · rw [if_pos h0]; exact (curve_at h 0 (by omega)).2
  · rw [if_neg h0]
    by_cases h1 : nextR c f = c.length
    · rw [if_pos h1]; exact (curve_at h _ (by omega)).2
    · rw [if_neg h1]
      have b := between_next h h0 h1
      have r := b.rnd_bd up
      have := b.l0
      have := b.l2
      omega
/-- the bed at a place: the bottom, and all shoals there -/
def growB (up : Bool) (g d : Int) : Int := rnd up (g * d) 24
def bedOf (s : Shoal) (hour : Int) : Bd := ⟨s.bed.lo + floorD (s.grow.lo * max 0 (hour - s.sounded)) 24, s.bed.hi + ceilD (s.grow.hi * max 0 (hour - s.sounded)) 24⟩
def Bd.top (a b : Bd) : Bd := ⟨max a.lo b.lo, max a.hi b.hi⟩
def topOf (hour : Int) (b : Bd) (l : List Shoal) : Bd := l.foldl (fun b s => b.top (bedOf s hour)) b
/-- the reach of a place -/
def reachOf : List Reach → Int → Nat
  | [], _ => 0
  | x :: l, p => if p < x.len then 0 else reachOf l (p - x.len) + 1
def shoalsAt (l : List Shoal) (p : Int) : List Shoal := l.filter fun s => decide (s.place = p)
def bedAt (r : River) (p hour : Int) : Bd := topOf hour (r.reaches.getD (reachOf r.reaches p) reach0).bottom (shoalsAt r.shoals p)
def depthAt (r : River) (sides : List (List Bd)) (p hour : Int) : Bd :=
  let level := levelAt (r.reaches.getD (reachOf r.reaches p) reach0) (flowIn r.reaches sides (reachOf r.reaches p) hour)
  let bed := bedAt r p hour
  ⟨max 0 (level.lo - bed.hi), max 0 (level.hi - bed.lo)⟩
theorem placesOf_cons (x : Reach) (l : List Reach) : placesOf (x :: l) = x.len + placesOf l := by simp [placesOf]
theorem placesOf_succ {l : List Reach} {k : Nat} (hk : k < l.length) : placesOf (l.take (k + 1)) = placesOf (l.take k) + (l.getD k reach0).len := by
  unfold placesOf
  rw [List.take_succ_eq_append_getElem hk, List.map_append, List.sum_append]
  simp [hk]
theorem reachOf_lt : ∀ (l : List Reach) (p : Int), 0 ≤ p → p < placesOf l → reachOf l p < l.length
  | [], p, h0, h => by simp [placesOf] at h; omega
  | x :: l, p, h0, h => by
    rw [reachOf]
    split
    · simp
    · have := reachOf_lt l (p - x.len) (by omega) (by rw [placesOf_cons] at h; omega)
      simp
      omega
theorem places_nonneg : ∀ (l : List Reach), (∀ x ∈ l, 0 ≤ x.len) → 0 ≤ placesOf l
  | [], _ => by simp [placesOf]
  | x :: l, h => by
    have h1 := h x (by simp)
    have h2 := places_nonneg l fun y hy => h y (by simp [hy])
    rw [placesOf_cons]
    omega
theorem places_le : ∀ (l : List Reach) {m : Int}, (∀ x ∈ l, x.len ≤ m) → placesOf l ≤ l.length * m
  | [], _, _ => by simp [placesOf]
  | x :: l, m, h => by
    have h1 := h x (by simp)
    have h2 := places_le l fun y hy => h y (by simp [hy])
    have e : ((x :: l).length : Int) * m = l.length * m + m := by rw [List.length_cons, Int.natCast_add, Int.add_mul]; simp
    rw [placesOf_cons, e]
    omega
theorem reachOf_eq : ∀ (l : List Reach) (p : Int) (i : Nat), (∀ x ∈ l, 0 ≤ x.len) → i < l.length → placesOf (l.take i) ≤ p → p < placesOf (l.take (i + 1)) → reachOf l p = i
  | [], p, i, _, hi, _, _ => by simp at hi
  | x :: l, p, 0, h, hi, h1, h2 => by
    rw [reachOf, if_pos]
    simpa [placesOf] using h2
  | x :: l, p, i + 1, h, hi, h1, h2 => by
    rw [List.take_succ_cons, placesOf_cons] at h1 h2
    have h3 := places_nonneg (l.take i) fun y hy => h y (by simp [List.mem_of_mem_take hy])
    rw [reachOf, if_neg (by omega), reachOf_eq l (p - x.len) i (fun y hy => h y (by simp [hy])) (by simpa using hi) (by omega) (by omega)]
/-- what holds of a river that is valid -/
structure RiverOk (r : River) : Prop where
  some : 1 ≤ r.reaches.length ∧ r.reaches.length ≤ 20
  few : r.shoals.length ≤ 40
  reach : ∀ i, i < r.reaches.length → ReachOk (r.reaches.getD i reach0)
  shoal : ∀ i, i < r.shoals.length → shoalB (placesOf r.reaches) (r.shoals.getD i shoal0) = true
  places : 1 ≤ placesOf r.reaches ∧ placesOf r.reaches ≤ 100000
theorem getD_mem {α : Type} {l : List α} {d : α} {i : Nat} (h : i < l.length) : l.getD i d ∈ l := by
  rw [List.getD_eq_getElem?_getD, List.getElem?_eq_getElem h]
  exact List.getElem_mem h
theorem riverB_ok {r : River} (h : riverB r = true) : RiverOk r := by
  simp only [riverB, Bool.and_eq_true, inB_iff, decide_eq_true_eq] at h
  obtain ⟨h1, h2, h3, h4⟩ := h
  have hr := fun x hx => reachB_ok (List.all_eq_true.1 h3 x hx)
  refine ⟨by omega, h2, fun i hi => hr _ (getD_mem hi), fun i hi => List.all_eq_true.1 h4 _ (getD_mem hi), ?_, ?_⟩
  · have h5 := places_nonneg r.reaches.tail fun x hx => by have := (hr x (List.mem_of_mem_tail hx)).len; omega
    match e : r.reaches, h1 with
    | x :: l, _ =>
      rw [e] at h5 hr
      have := (hr x (by simp)).len
      rw [placesOf_cons]
      simp at h5
      omega
  · have h5 := places_le r.reaches (m := 5000) fun x hx => (hr x hx).len.2
    omega

/-- the reference's way of rounding -/
def floorR (n k : Int) : Int := if n < n.tdiv k * k then n.tdiv k - 1 else n.tdiv k
def ceilR (n k : Int) : Int := if n.tdiv k * k < n then n.tdiv k + 1 else n.tdiv k
theorem floorR_eq {n k : Int} (hk : 0 < k) : floorR n k = floorD n k := by
  rw [← downD_eq hk]
  unfold floorR downD
  have h1 := Int.tmod_add_mul_tdiv n k
  rw [Int.mul_comm] at h1
  by_cases h : n.tmod k < 0
  · rw [if_pos h, if_pos (by omega)]
  · rw [if_neg h, if_neg (by omega)]
theorem ceilR_eq {n k : Int} (hk : 0 < k) : ceilR n k = ceilD n k := by
  have h0 : ceilD n k = -(downD (-n) k) := by rw [downD_eq hk]; rfl
  rw [h0]
  unfold ceilR downD
  have h1 := Int.tmod_add_mul_tdiv n k
  rw [Int.mul_comm] at h1
  have h2 : (-n).tmod k = -(n.tmod k) := Int.neg_tmod _ _
  have h3 : (-n).tdiv k = -(n.tdiv k) := Int.neg_tdiv _ _
  rw [h2, h3]
  by_cases h : n.tdiv k * k < n
  · rw [if_pos h, if_pos (by omega)]; omega
  · rw [if_neg h, if_neg (by omega)]; omega
end Go.Proofs.Ytfgfenmaommclaa
