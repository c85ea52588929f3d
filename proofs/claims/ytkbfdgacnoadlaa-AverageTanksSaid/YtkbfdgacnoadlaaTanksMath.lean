/- Law AverageTanks, plainly: what is missing, and what three spans of a tank say of each other. No program in sight. -/
import Derived.Test.YtkbfdgacnoadlaaMissing
namespace Go.Proofs.Ytkbfdgacnoadlaa
open Go.RowKit

/-- what the search for the most holds: nothing yet, or a pair with what is missing between them -/
def MissOk (l : List Sd) (b : List Bk) (r : Int) (s : Int × Int × Int) : Prop :=
  s = (0, 0, 0) ∨ ∃ i j : Nat, i < j ∧ j < l.length ∧ s = ((i : Int), (j : Int), missN l b r i j) ∧ 0 < missN l b r i j
theorem MissOk.nonneg {l : List Sd} {b : List Bk} {r : Int} {s : Int × Int × Int} (h : MissOk l b r s) : 0 ≤ s.2.2 := by
  rcases h with rfl | ⟨i, j, _, _, rfl, h⟩
  · exact Int.le_refl _
  · exact Int.le_of_lt h
theorem missStep_ok {l : List Sd} {b : List Bk} {r : Int} {s : Int × Int × Int} {i j : Nat} (h : MissOk l b r s) (hij : i < j) (hj : j < l.length) :
    MissOk l b r (missStep l b r i j s) ∧ s.2.2 ≤ (missStep l b r i j s).2.2 ∧ missN l b r i j ≤ (missStep l b r i j s).2.2 := by
  have h0 := h.nonneg
  unfold missStep
  by_cases hc : s.2.2 < missN l b r i j
  · rw [if_pos hc]
    exact ⟨.inr ⟨i, j, hij, hj, rfl, by omega⟩, by show s.2.2 ≤ missN l b r i j; omega, Int.le_refl _⟩
  · rw [if_neg hc]
    exact ⟨h, Int.le_refl _, by omega⟩
theorem missRow_ok {l : List Sd} {b : List Bk} {r : Int} {s : Int × Int × Int} {i : Nat} (h : MissOk l b r s) : ∀ n, i + 1 + n ≤ l.length →
    MissOk l b r (missRow l b r i s n) ∧ s.2.2 ≤ (missRow l b r i s n).2.2 ∧ ∀ q, q < n → missN l b r i (i + 1 + q) ≤ (missRow l b r i s n).2.2
  | 0, _ => ⟨h, Int.le_refl _, fun q hq => by omega⟩
  | n + 1, hn => by
    obtain ⟨h1, h2, h3⟩ := missRow_ok (b := b) (r := r) (i := i) h n (by omega)
    obtain ⟨k1, k2, k3⟩ := missStep_ok (i := i) (j := i + 1 + n) h1 (by omega) (by omega)
    refine ⟨k1, Int.le_trans h2 k2, fun q hq => ?_⟩
    rcases (by omega : q < n ∨ q = n) with hq' | rfl
    · exact Int.le_trans (h3 q hq') k2
    · exact k3
theorem missTo_ok {l : List Sd} {b : List Bk} {r : Int} : ∀ k, k ≤ l.length →
    MissOk l b r (missTo l b r k) ∧ ∀ i, i < k → ∀ j, i < j → j < l.length → missN l b r i j ≤ (missTo l b r k).2.2
  | 0, _ => ⟨.inl rfl, fun i hi => by omega⟩
  | k + 1, hk => by
    obtain ⟨h1, h2⟩ := missTo_ok (l := l) (b := b) (r := r) k (by omega)
    obtain ⟨k1, k2, k3⟩ := missRow_ok (l := l) (b := b) (r := r) (i := k) h1 (l.length - (k + 1)) (by omega)
    refine ⟨k1, fun i hi j hij hj => ?_⟩
    rcases (by omega : i < k ∨ i = k) with hi' | rfl
    · exact Int.le_trans (h2 i hi' j hij hj) k2
    · have := k3 (j - (i + 1)) (by omega)
      rwa [show i + 1 + (j - (i + 1)) = j by omega] at this
theorem burnt_mono {r r' p q : Int} (hr : 0 ≤ r) (hrr : r ≤ r') (h : 0 ≤ q - p) : burnt r p q ≤ burnt r' p q := by
  have h1 : r * (q - p) ≤ r' * (q - p) := Int.mul_le_mul_of_nonneg_right hrr h
  have h2 : 0 ≤ r * (q - p) := Int.mul_nonneg hr h
  unfold burnt
  rw [Int.tdiv_eq_ediv_of_nonneg (by omega), Int.tdiv_eq_ediv_of_nonneg (by omega)]
  omega
theorem span_nonneg {l : List Sd} {b : List Bk} (h0 : tankErr l b = 0) {i j : Nat} (hij : i ≤ j) (hj : j < l.length) : 0 ≤ (l.getD j sd0).m - (l.getD i sd0).m := by
  have := m_mono (tank_ok h0).2.2.2.2 i j hij hj
  omega
theorem miss_mono {l : List Sd} {b : List Bk} {r r' : Int} (h0 : tankErr l b = 0) (hr : 0 ≤ r) (hrr : r ≤ r') : (missTo l b r' l.length).2.2 ≤ (missTo l b r l.length).2.2 := by
  obtain ⟨h1, h2⟩ := missTo_ok (l := l) (b := b) (r := r) l.length (Nat.le_refl _)
  obtain ⟨k1, _⟩ := missTo_ok (l := l) (b := b) (r := r') l.length (Nat.le_refl _)
  rcases k1 with e | ⟨i, j, hij, hj, e, _⟩
  · rw [e]
    exact h1.nonneg
  · rw [e]
    refine Int.le_trans ?_ (h2 i (by omega) j hij hj)
    have := burnt_mono hr hrr (span_nonneg h0 (Nat.le_of_lt hij) hj)
    simp only [missN]
    omega
/-- the pair that is found: it burned at least what the engines burn -/
theorem miss_found {l : List Sd} {b : List Bk} {r : Int} (h0 : tankErr l b = 0) (hr : 0 ≤ r ∧ r ≤ 10000000) (hne : (missTo l b r l.length).2.2 ≠ 0) :
    ∃ i j : Nat, i < j ∧ j < l.length ∧ (missTo l b r l.length).1 = i ∧ (missTo l b r l.length).2.1 = j ∧ 0 < (missTo l b r l.length).2.2 ∧ burnErr l b i j = 0 ∧
      (burnSpec l b i j).1 = (missTo l b r l.length).2.2 + burnt r (l.getD i sd0).m (l.getD j sd0).m ∧ r * ((l.getD j sd0).m - (l.getD i sd0).m) ≤ 60 * burnt r (l.getD i sd0).m (l.getD j sd0).m ∧ 0 ≤ burnt r (l.getD i sd0).m (l.getD j sd0).m ∧ (burnSpec l b i j).1 ≤ 2000000000 := by
  obtain ⟨h1, _⟩ := missTo_ok (l := l) (b := b) (r := r) l.length (Nat.le_refl _)
  rcases h1 with e | ⟨i, j, hij, hj, e, hpos⟩
  · exact absurd (by rw [e]) hne
  · have hn := span_nonneg h0 (Nat.le_of_lt hij) hj
    have hm : 0 ≤ r * ((l.getD j sd0).m - (l.getD i sd0).m) := Int.mul_nonneg hr.1 hn
    have hb0 : 0 ≤ burnt r (l.getD i sd0).m (l.getD j sd0).m := by
      unfold burnt
      rw [Int.tdiv_eq_ediv_of_nonneg (by omega)]
      omega
    have hb1 : r * ((l.getD j sd0).m - (l.getD i sd0).m) ≤ 60 * burnt r (l.getD i sd0).m (l.getD j sd0).m := by
      unfold burnt
      rw [Int.tdiv_eq_ediv_of_nonneg (by omega)]
      omega
    have hso := (tank_ok h0).2.2.2.2
    have qi := (sd_bd (hso i (by omega))).2.2.2.2
    have qj := (sd_bd (hso j hj)).2.2.2.2
    have ei : l.getD i sd0 = l[i]'(by omega) := by simp [(by omega : i < l.length)]
    have ej : l.getD j sd0 = l[j] := by simp [hj]
    have hg : (goneL l b i j).1 ≤ (goneL l b i j).2 := by
      simp only [goneL, ei, ej]
      omega
    have hN : (goneL l b i j).1 = missN l b r i j + burnt r (l.getD i sd0).m (l.getD j sd0).m := by simp only [missN]; omega
    have hE : burnErr l b i j = 0 := by
      rw [burnErr, if_pos h0, if_neg (by simp [inB]; omega), if_neg (by omega), Int.toNat_natCast, Int.toNat_natCast, if_neg (by omega)]
    have hgb := gone_bd h0 (show i < l.length by omega) hj
    have hS : (burnSpec l b i j).1 = max 0 (goneL l b i j).1 := by rw [burnSpec, if_pos hE, Int.toNat_natCast, Int.toNat_natCast]
    refine ⟨i, j, hij, hj, by rw [e], by rw [e], by rw [e]; exact hpos, hE, ?_, hb1, hb0, by rw [hS]; omega⟩
    rw [hS, e]
    show max 0 (goneL l b i j).1 = missN l b r i j + burnt r (l.getD i sd0).m (l.getD j sd0).m
    omega

/-- what is drawn between two bounds by a byte -/
def pickL (lo hi u : Int) : Int := lo + ((hi - lo) * u).tdiv 255
theorem pick_bd {lo hi u : Int} (h : lo ≤ hi) (hu : 0 ≤ u ∧ u ≤ 255) : lo ≤ pickL lo hi u ∧ pickL lo hi u ≤ hi := by
  have h1 : 0 ≤ (hi - lo) * u := Int.mul_nonneg (by omega) hu.1
  have h2 : (hi - lo) * u ≤ (hi - lo) * 255 := Int.mul_le_mul_of_nonneg_left hu.2 (by omega)
  unfold pickL
  rw [Int.tdiv_eq_ediv_of_nonneg h1]
  omega

theorem burn_at {l : List Sd} {b : List Bk} (h0 : tankErr l b = 0) {a d : Nat} (had : a < d) (hd : d < l.length) : burnErr l b a d = (if (goneL l b a d).2 < 0 then 9 else 0) ∧ burnSpec l b a d = if (goneL l b a d).2 < 0 then (0, 0) else (max 0 (goneL l b a d).1, (goneL l b a d).2) := by
  have h1 : burnErr l b a d = (if (goneL l b a d).2 < 0 then 9 else 0) := by
    rw [burnErr, if_pos h0, if_neg (by simp [inB]; omega), if_neg (by omega), Int.toNat_natCast, Int.toNat_natCast]
  refine ⟨h1, ?_⟩
  rw [burnSpec, h1, Int.toNat_natCast, Int.toNat_natCast]
  by_cases h : (goneL l b a d).2 < 0 <;> simp [h]
/-- three spans of a good tank -/
structure Three (l : List Sd) (b : List Bk) (i j k : Nat) : Prop where
  x0 : 0 ≤ (burnSpec l b i j).1
  x1 : (burnSpec l b i j).1 ≤ (burnSpec l b i j).2
  x2 : (burnSpec l b i j).2 ≤ 2000000000
  y0 : 0 ≤ (burnSpec l b j k).1
  y1 : (burnSpec l b j k).1 ≤ (burnSpec l b j k).2
  y2 : (burnSpec l b j k).2 ≤ 2000000000
  z0 : 0 ≤ (burnSpec l b i k).1
  z1 : (burnSpec l b i k).1 ≤ (burnSpec l b i k).2
  z2 : (burnSpec l b i k).2 ≤ (burnSpec l b i j).2 + (burnSpec l b j k).2
  low : 0 < (burnSpec l b i j).1 → 0 < (burnSpec l b j k).1 → (burnSpec l b i j).1 + (burnSpec l b j k).1 ≤ (burnSpec l b i k).1
  true_ : ∀ u v : Int, (l.getD i sd0).lo ≤ u → u ≤ (l.getD i sd0).hi → (l.getD k sd0).lo ≤ v → v ≤ (l.getD k sd0).hi → 0 ≤ u + between b (l.getD i sd0).m (l.getD k sd0).m - v →
    (burnSpec l b i k).1 ≤ u + between b (l.getD i sd0).m (l.getD k sd0).m - v ∧ u + between b (l.getD i sd0).m (l.getD k sd0).m - v ≤ (burnSpec l b i k).2
theorem three_of {l : List Sd} {b : List Bk} (h0 : tankErr l b = 0) {i j k : Nat} (hij : i < j) (hjk : j < k) (hk : k < l.length) (hE : burnErr l b i j = 0) (hF : burnErr l b j k = 0) :
    (burnErr l b i k = 9 ∧ burnSpec l b i k = (0, 0)) ∨ (burnErr l b i k = 0 ∧ Three l b i j k) := by
  obtain ⟨e1, s1⟩ := burn_at (b := b) h0 hij (by omega)
  obtain ⟨e2, s2⟩ := burn_at (b := b) h0 hjk hk
  obtain ⟨e3, s3⟩ := burn_at (b := b) h0 (show i < k by omega) hk
  obtain ⟨_, hb1, _, hbo, hso⟩ := tank_ok h0
  have bi := takenAt_bd hbo (l.getD i sd0).m
  have bj := takenAt_bd hbo (l.getD j sd0).m
  have bk := takenAt_bd hbo (l.getD k sd0).m
  have qi := sd_bd (hso i (by omega))
  have qj := sd_bd (hso j (by omega))
  have qk := sd_bd (hso k hk)
  rw [show l[i]'(by omega) = l.getD i sd0 by simp [(by omega : i < l.length)]] at qi
  rw [show l[j]'(by omega) = l.getD j sd0 by simp [(by omega : j < l.length)]] at qj
  rw [show l[k] = l.getD k sd0 by simp [hk]] at qk
  have n1 : ¬ (goneL l b i j).2 < 0 := fun h => by rw [if_pos h] at e1; omega
  have n2 : ¬ (goneL l b j k).2 < 0 := fun h => by rw [if_pos h] at e2; omega
  rw [if_neg n1] at s1
  rw [if_neg n2] at s2
  by_cases n3 : (goneL l b i k).2 < 0
  · rw [if_pos n3] at e3 s3
    exact .inl ⟨e3, s3⟩
  · rw [if_neg n3] at e3 s3
    refine .inr ⟨e3, ?_⟩
    simp only [goneL] at n1 n2 n3 s1 s2 s3
    constructor <;> simp only [s1, s2, s3, between] <;> intros <;> omega
theorem err_bad {l : List Sd} {b : List Bk} (hl : 3 ≤ l.length) (hl1 : l.length ≤ 100) (hb : b.length ≤ 100) (h0 : tankErr l b ≠ 0) : tankErr l b = 2 := by
  unfold tankErr at h0 ⊢
  rw [if_neg (by omega), if_neg (by omega), if_neg (by omega)] at h0 ⊢
  split
  · rfl
  · rename_i h
    rw [if_neg h] at h0
    split
    · rfl
    · rename_i h'
      rw [if_neg h'] at h0
      exact absurd rfl h0
end Go.Proofs.Ytkbfdgacnoadlaa
