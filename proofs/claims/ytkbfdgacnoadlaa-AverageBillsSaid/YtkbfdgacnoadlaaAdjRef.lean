/- Plain facts for the reference's Adjust: accounts that are completed one after another. No program in sight. -/
import Derived.Test.YtkbfdgacnoadlaaBalMath
namespace Go.Proofs.Ytkbfdgacnoadlaa
open Go.RowKit

theorem flat_set {α : Type} {f : α → List Value} {s : Nat} (hf : ∀ x, (f x).length = s) : ∀ (l : List α) (k : Nat) (hk : k < l.length) (j : Nat), j < s → ∀ (u : Value) (y : α), f y = (f l[k]).set j u → (l.flatMap f).set (k * s + j) u = (l.set k y).flatMap f
  | [], k, hk, _, _, _, _, _ => absurd hk (by simp)
  | x :: l, 0, _, j, hj, u, y, h => by
    have h' : f y = (f x).set j u := h
    rw [List.flatMap_cons, Nat.zero_mul, Nat.zero_add, List.set_append_left _ _ (by rw [hf]; exact hj), List.set_cons_zero, List.flatMap_cons, h']
  | x :: l, k + 1, hk, j, hj, u, y, h => by
    rw [List.flatMap_cons, List.set_append_right _ _ (by rw [hf, Nat.add_mul]; omega), hf, show (k + 1) * s + j - s = k * s + j by rw [Nat.add_mul]; omega, List.set_cons_succ, List.flatMap_cons,
      flat_set hf l k (by simpa using hk) j hj u y h]

def accsMix (c : Int) (l : List Nt) (D : List Int) (n k : Nat) : List Acc := (List.range n).map fun i => if i < k then accAt c l D i else ⟨worthI (sums l i), goodI c (sums l i), 0, 0⟩
theorem accsMix_len (c : Int) (l : List Nt) (D : List Int) (n k : Nat) : (accsMix c l D n k).length = n := by simp [accsMix]
theorem accsMix_all (c : Int) (l : List Nt) (D : List Int) (n : Nat) : accsMix c l D n n = accsTo c l D n := by
  unfold accsMix accsTo
  apply List.map_congr_left
  intro i hi
  rw [if_pos (by simpa using hi)]
theorem accsMix_at (c : Int) (l : List Nt) (D : List Int) {n k : Nat} (h : k < (accsMix c l D n k).length) : (accsMix c l D n k)[k] = ⟨worthI (sums l k), goodI c (sums l k), 0, 0⟩ := by
  simp [accsMix]
theorem accsMix_succ (c : Int) (l : List Nt) (D : List Int) (n k : Nat) : accsMix c l D n (k + 1) = (accsMix c l D n k).set k (accAt c l D k) := by
  apply List.ext_getElem
  · simp [accsMix]
  · intro i h1 h2
    rw [List.getElem_set]
    simp only [accsMix, List.getElem_map, List.getElem_range]
    by_cases h : k = i
    · subst h
      rw [if_pos (by omega), if_pos rfl]
    · rw [if_neg h]
      by_cases hi : i < k
      · rw [if_pos hi, if_pos (by omega)]
      · rw [if_neg hi, if_neg (by omega)]
theorem accVlen (x : Acc) : (accV x).length = 4 := rfl
/-- what two stores into an account's cells make of all cells -/
theorem accsMix_store (c : Int) (l : List Nt) (D : List Int) {n k : Nat} (hk : k < n) (d b : Int) (hd : d = at0 D k) (hb : b = at0 D k - goodI c (sums l k)) :
    ((accsV (accsMix c l D n k)).set (k * 4 + 2) (.int .i64 d)).set (k * 4 + 3) (.int .i64 b) = accsV (accsMix c l D n (k + 1)) := by
  subst hd hb
  have h1 : k < (accsMix c l D n k).length := by rw [accsMix_len]; exact hk
  unfold accsV
  rw [flat_set accVlen _ k h1 2 (by omega) _ ⟨worthI (sums l k), goodI c (sums l k), at0 D k, 0⟩ (by rw [accsMix_at]; rfl),
    flat_set accVlen _ k (by rw [List.length_set]; exact h1) 3 (by omega) _ (accAt c l D k) (by rw [List.getElem_set_self]; rfl), List.set_set, accsMix_succ]
theorem saved_min {l : List Nt} {n : Nat} (hn : 1 ≤ n) (h : ∀ i, i < n → 0 ≤ savedI (sums l i)) : ¬ Lib.minOf (listI savedI l n) < 0 := by
  have hne : listI savedI l n ≠ [] := by
    intro e
    have := listI_len savedI l n
    rw [e] at this
    simp at this
    omega
  obtain ⟨i, hi, e⟩ := listI_mem (minOf_mem hne)
  rw [e]
  have := h i hi
  omega
theorem lateErr_of {c : Int} {l : List Nt} {n : Nat} (hm : ¬ Lib.minOf (listI savedI l n) < 0) (h1 : wrap64 (listI savedI l n).sum = (listI savedI l n).sum) (h2 : wrap64 (listI worthI l n).sum = (listI worthI l n).sum) (h3 : wrap64 (listI (goodI c) l n).sum = (listI (goodI c) l n).sum) :
    lateErr c l n = if ((listI savedI l n).sum == 0) = true then 9 else if (listI worthI l n).sum < (listI (goodI c) l n).sum then 80 else 0 := by
  unfold lateErr
  rw [if_neg hm, h1, h2, h3]
theorem sumTo_one {p : Prop} [Decidable p] {x a : Int} (ha : 0 ≤ a) (n : Nat) : sumTo (fun i => if p ∧ x = (i : Int) then a else 0) n ≤ if 0 ≤ x ∧ x < n then a else 0 := by
  induction n with
  | zero =>
    rw [if_neg (by omega)]
    exact Int.le_refl _
  | succ n ih =>
    simp only [sumTo]
    by_cases h : x = (n : Int)
    · rw [if_neg (by omega)] at ih
      have hr : (if 0 ≤ x ∧ x < ((n + 1 : Nat) : Int) then a else 0) = a := if_pos (by omega)
      rw [hr]
      have hif : (if p ∧ x = (n : Int) then a else 0) ≤ a := by split <;> omega
      omega
    · rw [if_neg (fun k => h k.2)]
      by_cases h' : 0 ≤ x ∧ x < n
      · rw [if_pos h'] at ih
        rw [if_pos (by omega)]
        omega
      · rw [if_neg h'] at ih
        rw [if_neg (by omega)]
        omega
theorem sumTo_add (f g : Nat → Int) (n : Nat) : sumTo (fun i => f i + g i) n = sumTo f n + sumTo g n := by
  induction n with
  | zero => rfl
  | succ n ih =>
    simp only [sumTo, ih]
    omega
theorem ofL_all {N : Int} {l : List Nt} (h : ∀ x ∈ l, noteErr N x = 0) (kind : Int) (n : Nat) : sumTo (fun i => ofL l kind i) n ≤ l.length * 100000000000 := by
  induction l with
  | nil =>
    have e : sumTo (fun i => ofL [] kind i) n = 0 := by
      induction n with
      | zero => rfl
      | succ n ih => simp only [sumTo, ih]; simp [ofL]
    rw [e]
    simp
  | cons x l ih =>
    have h1 := noteErr_ok (h x (by simp))
    have h2 := ih fun y hy => h y (by simp [hy])
    have e : (fun i : Nat => ofL (x :: l) kind i) = fun i : Nat => (if x.k = kind ∧ x.i = (i : Int) then x.a else 0) + ofL l kind i := by
      funext i
      exact ofL_cons x l kind i
    rw [e, sumTo_add]
    have h3 := sumTo_one (p := x.k = kind) (x := x.i) (a := x.a) (by omega) n
    simp only [List.length_cons]
    have : (if 0 ≤ x.i ∧ x.i < (n : Int) then x.a else 0) ≤ x.a := by split <;> omega
    omega
/-- all values together -/
theorem worth_all {N : Int} {l : List Nt} (h : ∀ x ∈ l, noteErr N x = 0) (hl : l.length ≤ 300) (n : Nat) : (listI worthI l n).sum ≤ 30000000000000 := by
  rw [listI_sum]
  have h1 : sumTo (fun i => worthI (sums l i)) n ≤ sumTo (fun i => ofL l 1 i) n := sumTo_le fun i _ => by
    have := ofL_bd h 2 i
    have e : worthI (sums l i) = ofL l 1 i - ofL l 2 i := rfl
    rw [e]
    omega
  have h2 := ofL_all h 1 n
  omega
theorem keep_set {w : World} {p q : Addr} {u v : Value} (hc : w.cell? q = some u) (hne : p ≠ q) : (w.setCell p v).cell? q = some u := by
  rw [World.cell?_setCell_other w p q v hne]
  exact hc
theorem keep_set_drew {w : World} {p q : Addr} {u v : Value} (hc : w.drew.cell? q = some u) (hne : p ≠ q) : (w.setCell p v).drew.cell? q = some u := by
  have h : w.cell? q = some u := hc
  exact keep_set h hne
end Go.Proofs.Ytkbfdgacnoadlaa
