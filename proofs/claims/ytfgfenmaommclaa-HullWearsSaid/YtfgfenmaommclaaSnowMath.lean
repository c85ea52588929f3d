/- What flows from land: the melt of each hour, plainly. No program in sight. -/
import Derived.Test.YtfgfenmaommclaaBase
namespace Go.Proofs.Ytfgfenmaommclaa

structure Bd where
  lo : Int
  hi : Int
structure Sky where
  rain : Bd
  heat : Bd
structure Land where
  area : Int
  percent : Int
  melt : Int
  snow : Bd

def bdOk (lo hi : Int) (b : Bd) : Bool := decide (b.lo ≤ b.hi) && (inB lo hi b.lo && inB lo hi b.hi)
def skyOk (h : Sky) : Bool := bdOk 0 20000 h.rain && bdOk (-500) 500 h.heat
def landOk (c : Land) : Bool := inB 0 10000 c.area && (inB 0 100 c.percent && (inB 0 100 c.melt && bdOk 0 1000000 c.snow))
/-- the error of a land and a sky -/
def catchErr (c : Land) (sky : List Sky) : Int := if landOk c = false then 2 else if 400 < sky.length then 5 else if sky.all skyOk = false then 2 else 0

/-- how much can melt in an hour -/
def warmth (rate t : Int) : Int := max 0 t * rate
/-- what is left of so much snow behind so many temperatures -/
def leftOf (rate : Int) : Int → List Int → Int
  | s, [] => s
  | s, t :: l => leftOf rate (max 0 (s - warmth rate t)) l
/-- the melt of each hour of a truth -/
def meltsOf (rate : Int) : Int → List Int → List Int
  | _, [] => []
  | s, t :: l => min s (warmth rate t) :: meltsOf rate (s - min s (warmth rate t)) l
theorem warmth_nonneg {rate t : Int} (h : 0 ≤ rate) : 0 ≤ warmth rate t := Int.mul_nonneg (by omega) h
theorem left_step {s f : Int} : s - min s f = max 0 (s - f) := by omega
theorem melts_len (rate : Int) : ∀ (l : List Int) (s : Int), (meltsOf rate s l).length = l.length
  | [], _ => rfl
  | _ :: l, s => by rw [meltsOf, List.length_cons, melts_len rate l, List.length_cons]
theorem melts_at {rate : Int} (hr : 0 ≤ rate) (t : Int) : ∀ (l : List Int) (s : Int), 0 ≤ s → (meltsOf rate s (l ++ [t]))[l.length]? = some (min (leftOf rate s l) (warmth rate t))
  | [], s, _ => rfl
  | u :: l, s, hs => by
    rw [List.cons_append, meltsOf, List.length_cons, List.getElem?_cons_succ, melts_at hr t l _ (by omega), leftOf, left_step]
theorem left_nonneg {rate : Int} : ∀ (l : List Int) (s : Int), 0 ≤ s → 0 ≤ leftOf rate s l
  | [], _, h => h
  | _ :: l, s, _ => by rw [leftOf]; exact left_nonneg l _ (by omega)
theorem left_le {rate : Int} (hr : 0 ≤ rate) : ∀ (l : List Int) (s : Int), 0 ≤ s → leftOf rate s l ≤ s
  | [], _, _ => Int.le_refl _
  | t :: l, s, hs => by
    rw [leftOf]
    have h := left_le hr l (max 0 (s - warmth rate t)) (by omega)
    have hw := warmth_nonneg (t := t) hr
    omega
theorem left_snoc (rate t : Int) : ∀ (l : List Int) (s : Int), leftOf rate s (l ++ [t]) = max 0 (leftOf rate s l - warmth rate t)
  | [], _ => rfl
  | _ :: l, s => by rw [List.cons_append, leftOf, left_snoc rate t l, leftOf]

def floorD (n k : Int) : Int := n / k
def ceilD (n k : Int) : Int := -(-n / k)
def sky0 : Sky := ⟨⟨0, 0⟩, ⟨0, 0⟩⟩
/-- what melts in an hour, at least and at most -/
def least (c : Land) (sky : List Sky) (i : Nat) : Int := min (leftOf c.melt c.snow.lo ((sky.take i).map fun h => h.heat.hi)) (warmth c.melt (sky.getD i sky0).heat.lo)
def most (c : Land) (sky : List Sky) (i : Nat) : Int := min (leftOf c.melt c.snow.hi ((sky.take i).map fun h => h.heat.lo)) (warmth c.melt (sky.getD i sky0).heat.hi)
/-- what flows in an hour -/
def flowAt (c : Land) (sky : List Sky) (i : Nat) : Bd :=
  ⟨floorD ((sky.getD i sky0).rain.lo + least c sky i |> (· * (c.area * c.percent))) 10, ceilD ((sky.getD i sky0).rain.hi + most c sky i |> (· * (c.area * c.percent))) 10⟩
/-- what flows in the first so many hours -/
def flowsTo (c : Land) (sky : List Sky) (k : Nat) : List Bd := (List.range k).map (flowAt c sky)
theorem flowsTo_succ (c : Land) (sky : List Sky) (k : Nat) : flowsTo c sky (k + 1) = flowsTo c sky k ++ [flowAt c sky k] := by simp [flowsTo, List.range_succ]
theorem flowsTo_len (c : Land) (sky : List Sky) (k : Nat) : (flowsTo c sky k).length = k := by simp [flowsTo]
/-- the program's way of rounding -/
def downD (n k : Int) : Int := if n.tmod k < 0 then n.tdiv k - 1 else n.tdiv k
theorem downD_eq {n k : Int} (hk : 0 < k) : downD n k = floorD n k := by
  unfold downD floorD
  have h1 := Int.tmod_add_mul_tdiv n k
  have h2 := Int.emod_add_mul_ediv n k
  have h3 := Int.emod_nonneg n (show k ≠ 0 by omega)
  have h4 := Int.emod_lt_of_pos n hk
  rcases Int.lt_or_le n 0 with hn | hn
  · by_cases hm : n.tmod k < 0
    · rw [if_pos hm]
      have h5 : -k < n.tmod k := by
        have := Int.lt_tmod_of_pos n hk
        omega
      have e : k * (n.tdiv k - 1) + (n.tmod k + k) = n := by rw [Int.mul_sub, Int.mul_one]; omega
      exact (Int.ediv_emod_unique hk |>.2 ⟨by rw [Int.add_comm]; exact e, by omega, by omega⟩).1.symm
    · rw [if_neg hm]
      have h5 : n.tmod k ≤ 0 := by
        have h6 : (-n).tmod k = -(n.tmod k) := Int.neg_tmod _ _
        rw [Int.tmod_eq_emod_of_nonneg (show 0 ≤ -n by omega)] at h6
        have h7 := Int.emod_nonneg (-n) (show k ≠ 0 by omega)
        omega
      have e : n.tmod k + k * n.tdiv k = n := h1
      exact (Int.ediv_emod_unique hk |>.2 ⟨e, by omega, by omega⟩).1.symm
  · rw [Int.tmod_eq_emod_of_nonneg hn, if_neg (by omega), Int.tdiv_eq_ediv_of_nonneg hn]
end Go.Proofs.Ytfgfenmaommclaa
