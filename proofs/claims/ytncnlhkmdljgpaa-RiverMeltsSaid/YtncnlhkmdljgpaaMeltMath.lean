/- River: the melt of a truth, plainly. -/
import Derived.Test.YtncnlhkmdljgpaaBA
set_option linter.unusedVariables false
namespace Go.Proofs.Ytncnlhkmdljgpaa
open Go Go.RowKit

/-- what pick and part return -/
def pickI (b : Bd) (y : Int) : Int := b.lo + ((b.hi - b.lo) * y).tdiv 255
def partI (l : List Int) (i : Nat) : Int := if l.length = 0 then 0 else l.getD (i % l.length) 0
theorem pick_bd {b : Bd} {y : Int} (h : b.lo ≤ b.hi) (h0 : 0 ≤ y) (h1 : y ≤ 255) : b.lo ≤ pickI b y ∧ pickI b y ≤ b.hi := by
  have h2 : 0 ≤ (b.hi - b.lo) * y := Int.mul_nonneg (by omega) h0
  have h3 : (b.hi - b.lo) * y ≤ (b.hi - b.lo) * 255 := Int.mul_le_mul_of_nonneg_left h1 (by omega)
  unfold pickI
  rw [Int.tdiv_eq_ediv_of_nonneg h2]
  have h4 : 0 ≤ (b.hi - b.lo) * y / 255 := Int.ediv_nonneg h2 (by omega)
  have h5 : (b.hi - b.lo) * y / 255 ≤ b.hi - b.lo := Int.ediv_le_of_le_mul (by omega) h3
  omega
theorem part_bd {l : List Int} (hl : ∀ x ∈ l, 0 ≤ x ∧ x ≤ 255) (i : Nat) : 0 ≤ partI l i ∧ partI l i ≤ 255 := by
  unfold partI
  split
  · omega
  · rename_i h
    exact hl _ (getD_mem (Nat.mod_lt _ (by omega)))
theorem warmth_mono {rate s t : Int} (hr : 0 ≤ rate) (h : s ≤ t) : warmth rate s ≤ warmth rate t := Int.mul_le_mul_of_nonneg_right (by omega) hr
theorem left_mono {rate : Int} : ∀ (l : List Int) {s t : Int}, s ≤ t → leftOf rate s l ≤ leftOf rate t l
  | [], _, _, h => h
  | u :: l, _, _, h => by rw [leftOf, leftOf]; exact left_mono l (by omega)
/-- the snow of a truth: heat gives the temperature of each hour -/
def trSnow (rate s : Int) (heat : Nat → Int) : Nat → Int
  | 0 => s
  | i + 1 => trSnow rate s heat i - min (trSnow rate s heat i) (warmth rate (heat i))
theorem trSnow_nonneg {rate s : Int} {heat : Nat → Int} (hr : 0 ≤ rate) (hs : 0 ≤ s) : ∀ i, 0 ≤ trSnow rate s heat i
  | 0 => hs
  | i + 1 => by have := trSnow_nonneg (heat := heat) hr hs i; rw [trSnow]; omega
theorem trSnow_le {rate s : Int} {heat : Nat → Int} (hr : 0 ≤ rate) (hs : 0 ≤ s) : ∀ i, trSnow rate s heat i ≤ s
  | 0 => Int.le_refl _
  | i + 1 => by
    have h1 := trSnow_le (heat := heat) hr hs i
    have h2 := trSnow_nonneg (heat := heat) hr hs i
    have h3 := warmth_nonneg (rate := rate) (t := heat i) hr
    rw [trSnow]; omega
section
variable {c : Land} {sky : List Sky} {s : Int} {heat : Nat → Int}
theorem tr_between (hr : 0 ≤ c.melt) (hs : c.snow.lo ≤ s ∧ s ≤ c.snow.hi) : ∀ {i : Nat}, i ≤ sky.length → (∀ j, j < i → (sky.getD j sky0).heat.lo ≤ heat j ∧ heat j ≤ (sky.getD j sky0).heat.hi) →
    leftOf c.melt c.snow.lo ((sky.take i).map fun h => h.heat.hi) ≤ trSnow c.melt s heat i ∧ trSnow c.melt s heat i ≤ leftOf c.melt c.snow.hi ((sky.take i).map fun h => h.heat.lo)
  | 0, _, _ => by simpa [leftOf, trSnow] using hs
  | i + 1, hi, hh => by
    have h1 := tr_between hr hs (i := i) (by omega) fun j hj => hh j (by omega)
    have h2 := hh i (by omega)
    have h3 := warmth_mono hr h2.1
    have h4 := warmth_mono hr h2.2
    have e : sky.take (i + 1) = sky.take i ++ [sky.getD i sky0] := by rw [List.take_succ_eq_append_getElem (by omega)]; simp [show i < sky.length by omega]
    rw [e, List.map_append, List.map_append, List.map_cons, List.map_cons, List.map_nil, List.map_nil, left_snoc, left_snoc, trSnow, left_step]
    omega
theorem melt_between (hr : 0 ≤ c.melt) (hs : c.snow.lo ≤ s ∧ s ≤ c.snow.hi) {i : Nat} (hi : i < sky.length) (hh : ∀ j, j < i + 1 → (sky.getD j sky0).heat.lo ≤ heat j ∧ heat j ≤ (sky.getD j sky0).heat.hi) :
    least c sky i ≤ min (trSnow c.melt s heat i) (warmth c.melt (heat i)) ∧ min (trSnow c.melt s heat i) (warmth c.melt (heat i)) ≤ most c sky i := by
  have h1 := tr_between hr hs (i := i) (by omega) fun j hj => hh j (by omega)
  have h2 := hh i (by omega)
  have h3 := warmth_mono hr h2.1
  have h4 := warmth_mono hr h2.2
  unfold least most
  omega
end
theorem floor10 {x y : Int} (h : x ≤ y) : floorD x 10 ≤ floorD y 10 := by unfold floorD; omega
theorem ceil10 {x y : Int} (h : x ≤ y) : ceilD x 10 ≤ ceilD y 10 := by unfold ceilD; omega
/-- what holds of land and sky -/
structure MeltOk (c : Land) (sky : List Sky) : Prop where
  area : 0 ≤ c.area ∧ c.area ≤ 10000
  percent : 0 ≤ c.percent ∧ c.percent ≤ 100
  melt : 0 ≤ c.melt ∧ c.melt ≤ 100
  snow : 0 ≤ c.snow.lo ∧ c.snow.lo ≤ c.snow.hi ∧ c.snow.hi ≤ 1000000
  rain : ∀ i, i < sky.length → 0 ≤ (sky.getD i sky0).rain.lo ∧ (sky.getD i sky0).rain.lo ≤ (sky.getD i sky0).rain.hi ∧ (sky.getD i sky0).rain.hi ≤ 20000
  heat : ∀ i, i < sky.length → -500 ≤ (sky.getD i sky0).heat.lo ∧ (sky.getD i sky0).heat.lo ≤ (sky.getD i sky0).heat.hi ∧ (sky.getD i sky0).heat.hi ≤ 500
theorem catch_ok {c : Land} {sky : List Sky} (h : catchErr c sky = 0) : MeltOk c sky := by
  unfold catchErr at h
  cases h1 : landOk c with
  | false => rw [if_pos h1] at h; omega
  | true =>
    rw [if_neg (by rw [h1]; simp)] at h
    by_cases h2 : 400 < sky.length
    · rw [if_pos h2] at h; omega
    · rw [if_neg h2] at h
      cases h3 : sky.all skyOk with
      | false => rw [if_pos h3] at h; omega
      | true =>
        simp only [landOk, Bool.and_eq_true, inB_iff, bdOk_iff] at h1
        have hs := fun i (hi : i < sky.length) => by
          have := List.all_eq_true.1 h3 _ (getD_mem (d := sky0) hi)
          simpa only [skyOk, Bool.and_eq_true, bdOk_iff] using this
        exact ⟨h1.1, h1.2.1, h1.2.2.1, h1.2.2.2, fun i hi => (hs i hi).1, fun i hi => (hs i hi).2⟩
theorem catch_of {c d : Land} {sky : List Sky} (h : catchErr c sky = 0) (hd : landOk d = true) : catchErr d sky = 0 := by
  unfold catchErr at h ⊢
  cases h1 : landOk c with
  | false => rw [if_pos h1] at h; omega
  | true =>
    rw [if_neg (by rw [h1]; simp)] at h
    rw [if_neg (by rw [hd]; simp)]
    exact h
theorem catch_2 {c : Land} {sky : List Sky} (hl : sky.length ≤ 100) (h : catchErr c sky ≠ 0) : catchErr c sky = 2 := by
  unfold catchErr at h ⊢
  split
  · rfl
  · rename_i h1
    rw [if_neg h1, if_neg (by omega)] at h
    rw [if_neg (by omega)]
    split
    · rfl
    · rename_i h2; rw [if_neg h2] at h; omega
section
variable {c : Land} {sky : List Sky} {i : Nat}
theorem least_bd (h : MeltOk c sky) : 0 ≤ least c sky i ∧ least c sky i ≤ 1000000 := by
  have h1 := left_nonneg (rate := c.melt) ((sky.take i).map fun h => h.heat.hi) c.snow.lo h.snow.1
  have h2 := left_le h.melt.1 ((sky.take i).map fun h => h.heat.hi) c.snow.lo h.snow.1
  have h3 := warmth_nonneg (rate := c.melt) (t := (sky.getD i sky0).heat.lo) h.melt.1
  have := h.snow
  unfold least
  omega
theorem most_bd (h : MeltOk c sky) : 0 ≤ most c sky i ∧ most c sky i ≤ 1000000 := by
  have h1 := left_nonneg (rate := c.melt) ((sky.take i).map fun h => h.heat.lo) c.snow.hi (by have := h.snow; omega)
  have h2 := left_le h.melt.1 ((sky.take i).map fun h => h.heat.lo) c.snow.hi (by have := h.snow; omega)
  have h3 := warmth_nonneg (rate := c.melt) (t := (sky.getD i sky0).heat.hi) h.melt.1
  have := h.snow
  unfold most
  omega
theorem flow_lo : (flowAt c sky i).lo = floorD (((sky.getD i sky0).rain.lo + least c sky i) * (c.area * c.percent)) 10 := rfl
theorem flow_hi : (flowAt c sky i).hi = ceilD (((sky.getD i sky0).rain.hi + most c sky i) * (c.area * c.percent)) 10 := rfl
theorem mparts_bd (h : MeltOk c sky) : 0 ≤ c.area * c.percent ∧ c.area * c.percent ≤ 1000000 := by
  refine ⟨Int.mul_nonneg h.area.1 h.percent.1, ?_⟩
  have h1 : c.area * c.percent ≤ 10000 * c.percent := Int.mul_le_mul_of_nonneg_right h.area.2 h.percent.1
  have := h.percent
  omega
theorem prod_bd {x p : Int} (hx : 0 ≤ x ∧ x ≤ 1020000) (hp : 0 ≤ p ∧ p ≤ 1000000) : 0 ≤ x * p ∧ x * p ≤ 1020000000000 := by
  refine ⟨Int.mul_nonneg hx.1 hp.1, ?_⟩
  have h1 : x * p ≤ 1020000 * p := Int.mul_le_mul_of_nonneg_right hx.2 hp.1
  omega
theorem mflow_bd (h : MeltOk c sky) (hi : i < sky.length) : (0 ≤ (flowAt c sky i).lo ∧ (flowAt c sky i).lo ≤ 1020000000000) ∧ 0 ≤ (flowAt c sky i).hi ∧ (flowAt c sky i).hi ≤ 1020000000000 := by
  have h1 := least_bd (i := i) h
  have h2 := most_bd (i := i) h
  have h3 := h.rain i hi
  have hp := mparts_bd h
  have h4 := prod_bd (x := (sky.getD i sky0).rain.lo + least c sky i) (by omega) hp
  have h5 := prod_bd (x := (sky.getD i sky0).rain.hi + most c sky i) (by omega) hp
  rw [flow_lo, flow_hi]
  unfold floorD ceilD
  omega
/-- a truth's runoff lies between -/
theorem truth_flow (h : MeltOk c sky) (hi : i < sky.length) {wet m : Int} (hw : (sky.getD i sky0).rain.lo ≤ wet ∧ wet ≤ (sky.getD i sky0).rain.hi) (hm : least c sky i ≤ m ∧ m ≤ most c sky i) :
    10 * (flowAt c sky i).lo ≤ c.area * (wet + m) * c.percent ∧ c.area * (wet + m) * c.percent ≤ 10 * (flowAt c sky i).hi ∧ (0 ≤ c.area * (wet + m) ∧ c.area * (wet + m) ≤ 10200000000) ∧ 0 ≤ c.area * (wet + m) * c.percent ∧ c.area * (wet + m) * c.percent ≤ 1020000000000 := by
  have h1 := least_bd (i := i) h
  have h2 := most_bd (i := i) h
  have h3 := h.rain i hi
  have hp := mparts_bd h
  have e : c.area * (wet + m) * c.percent = (wet + m) * (c.area * c.percent) := by rw [Int.mul_comm c.area, Int.mul_assoc]
  have a1 : ((sky.getD i sky0).rain.lo + least c sky i) * (c.area * c.percent) ≤ (wet + m) * (c.area * c.percent) := Int.mul_le_mul_of_nonneg_right (by omega) hp.1
  have a2 : (wet + m) * (c.area * c.percent) ≤ ((sky.getD i sky0).rain.hi + most c sky i) * (c.area * c.percent) := Int.mul_le_mul_of_nonneg_right (by omega) hp.1
  have a3 := prod_bd (x := wet + m) (by omega) hp
  have a4 : 0 ≤ c.area * (wet + m) := Int.mul_nonneg h.area.1 (by omega)
  have a5 : c.area * (wet + m) ≤ 10000 * (wet + m) := Int.mul_le_mul_of_nonneg_right h.area.2 (by omega)
  rw [flow_lo, flow_hi, e]
  unfold floorD ceilD
  omega
/-- without snow -/
def bareOf (c : Land) : Land := { c with snow := ⟨0, 0⟩ }
theorem bare_ok (h : MeltOk c sky) : landOk (bareOf c) = true := by
  simp only [landOk, bareOf, Bool.and_eq_true, inB_iff, bdOk_iff]
  exact ⟨h.area, h.percent, h.melt, by simp⟩
theorem bare_least (h : MeltOk c sky) : least (bareOf c) sky i = 0 ∧ most (bareOf c) sky i = 0 := by
  have h1 := left_nonneg (rate := c.melt) ((sky.take i).map fun h => h.heat.hi) 0 (by omega)
  have h2 := left_le h.melt.1 ((sky.take i).map fun h => h.heat.hi) 0 (by omega)
  have h3 := left_nonneg (rate := c.melt) ((sky.take i).map fun h => h.heat.lo) 0 (by omega)
  have h4 := left_le h.melt.1 ((sky.take i).map fun h => h.heat.lo) 0 (by omega)
  have h5 := warmth_nonneg (rate := c.melt) (t := (sky.getD i sky0).heat.lo) h.melt.1
  have h6 := warmth_nonneg (rate := c.melt) (t := (sky.getD i sky0).heat.hi) h.melt.1
  simp only [least, most, bareOf]
  omega
theorem bare_flow (h : MeltOk c sky) : (flowAt (bareOf c) sky i).lo ≤ (flowAt c sky i).lo ∧ (flowAt (bareOf c) sky i).hi ≤ (flowAt c sky i).hi := by
  have hb := bare_least (i := i) h
  have h1 := least_bd (i := i) h
  have h2 := most_bd (i := i) h
  have hp := mparts_bd h
  rw [flow_lo, flow_hi, hb.1, hb.2, flow_lo, flow_hi]
  exact ⟨floor10 (Int.mul_le_mul_of_nonneg_right (by omega) hp.1), ceil10 (Int.mul_le_mul_of_nonneg_right (by omega) hp.1)⟩
theorem frost (h : MeltOk c sky) (hi : i < sky.length) (hf : (sky.getD i sky0).heat.hi ≤ 0) : flowAt c sky i = flowAt (bareOf c) sky i := by
  have hb := bare_least (i := i) h
  have hh := h.heat i hi
  have w1 : warmth c.melt (sky.getD i sky0).heat.lo = 0 := by unfold warmth; rw [show max 0 (sky.getD i sky0).heat.lo = 0 by omega, Int.zero_mul]
  have w2 : warmth c.melt (sky.getD i sky0).heat.hi = 0 := by unfold warmth; rw [show max 0 (sky.getD i sky0).heat.hi = 0 by omega, Int.zero_mul]
  have h1 := left_nonneg (rate := c.melt) ((sky.take i).map fun h => h.heat.hi) c.snow.lo h.snow.1
  have h2 := left_nonneg (rate := c.melt) ((sky.take i).map fun h => h.heat.lo) c.snow.hi (by have := h.snow; omega)
  have e1 : least c sky i = 0 := by unfold least; omega
  have e2 : most c sky i = 0 := by unfold most; omega
  have k1 : (flowAt c sky i).lo = (flowAt (bareOf c) sky i).lo := by rw [flow_lo, flow_lo, e1, hb.1]; rfl
  have k2 : (flowAt c sky i).hi = (flowAt (bareOf c) sky i).hi := by rw [flow_hi, flow_hi, e2, hb.2]; rfl
  cases h1 : flowAt c sky i
  cases h2 : flowAt (bareOf c) sky i
  rw [h1, h2] at k1 k2
  simp only at k1 k2
  rw [k1, k2]
/-- more land and more snow -/
def wideOf (c : Land) (x : Int) : Land := { c with area := min 10000 (c.area + x), snow := ⟨c.snow.lo, min 1000000 (c.snow.hi + x)⟩ }
theorem wide_ok (h : MeltOk c sky) {x : Int} (hx : 0 ≤ x) : landOk (wideOf c x) = true := by
  simp only [landOk, wideOf, Bool.and_eq_true, inB_iff, bdOk_iff]
  have := h.area
  have := h.snow
  exact ⟨by omega, h.percent, h.melt, by omega⟩
theorem wide_flow (h : MeltOk c sky) (hi : i < sky.length) {x : Int} (hx : 0 ≤ x) : (flowAt c sky i).hi ≤ (flowAt (wideOf c x) sky i).hi := by
  have h2 := most_bd (i := i) h
  have h3 := h.rain i hi
  have ha := h.area
  have hs := h.snow
  have hm : most c sky i ≤ most (wideOf c x) sky i := by
    have := left_mono (rate := c.melt) ((sky.take i).map fun h => h.heat.lo) (s := c.snow.hi) (t := min 1000000 (c.snow.hi + x)) (by omega)
    simp only [most, wideOf]
    omega
  have hpp : c.area * c.percent ≤ (wideOf c x).area * c.percent := Int.mul_le_mul_of_nonneg_right (by simp only [wideOf]; omega) h.percent.1
  have hp := mparts_bd h
  rw [flow_hi, flow_hi]
  refine ceil10 ?_
  have a1 : ((sky.getD i sky0).rain.hi + most c sky i) * (c.area * c.percent) ≤ ((sky.getD i sky0).rain.hi + most (wideOf c x) sky i) * (c.area * c.percent) := Int.mul_le_mul_of_nonneg_right (by omega) hp.1
  have a2 : ((sky.getD i sky0).rain.hi + most (wideOf c x) sky i) * (c.area * c.percent) ≤ ((sky.getD i sky0).rain.hi + most (wideOf c x) sky i) * ((wideOf c x).area * c.percent) := Int.mul_le_mul_of_nonneg_left hpp (by omega)
  exact Int.le_trans a1 a2
end
theorem flowsTo_at (c : Land) (sky : List Sky) {k i : Nat} (hi : i < k) : (flowsTo c sky k).getD i bd0 = flowAt c sky i := by simp [flowsTo, hi]
end Go.Proofs.Ytncnlhkmdljgpaa
