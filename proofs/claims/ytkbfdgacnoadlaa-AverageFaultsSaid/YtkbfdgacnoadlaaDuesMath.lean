/- Dues as plain data: tariffs, passes, the first pass with an error, the bills. No program in sight. -/
import Derived.Test.YtkbfdgacnoadlaaNotes
namespace Go.Proofs.Ytkbfdgacnoadlaa
open Go.RowKit

structure Tf where
  base : Int
  tons : Int
  length : Int
  passes : Int
  off : Int
  most : Int
structure Ps where
  p : Int
  t : Int
  l : Int
def tfV (t : Tf) : Array Value := #[.int .i64 t.base, .int .i64 t.tons, .int .i64 t.length, .int .i64 t.passes, .int .i64 t.off, .int .i64 t.most]
def passV (x : Ps) : List Value := [.int .i64 x.p, .int .i64 x.t, .int .i64 x.l]
def passesV (l : List Ps) : List Value := l.flatMap passV
theorem passV_len (x : Ps) : (passV x).length = 3 := rfl
theorem passesV_len (l : List Ps) : (passesV l).length = l.length * 3 := flat_len passV_len l
theorem passesV_one (l : List Ps) : ∀ u ∈ passesV l, u.oneCell' = true := flat_one (by intro x u hu; simp [passV] at hu; rcases hu with rfl | rfl | rfl <;> rfl) l
theorem passes_cells (l : List Ps) (k : Nat) (hk : k < l.length) (w : World) (B : Nat) (A : Option Addr) (n c : Nat) (hr : Rd w B 3 (.slice A n c) n (passesV l)) :
    ∃ b off, A = some ⟨b, off, none⟩ ∧ b < B ∧ w.cell? ⟨b, off + k * 3, none⟩ = some (.int .i64 l[k].p) ∧ w.cell? ⟨b, off + k * 3 + 1, none⟩ = some (.int .i64 l[k].t) ∧ w.cell? ⟨b, off + k * 3 + 2, none⟩ = some (.int .i64 l[k].l) := by
  have hl : n * 3 = l.length * 3 := by rw [← hr.len, passesV_len]
  obtain ⟨b, off, rfl, hb, hc⟩ := hr.at_ (by omega)
  refine ⟨b, off, rfl, hb, hc (k * 3) _ ?_, ?_, ?_⟩
  · exact flat_get passV_len l k hk 0 (by omega)
  · exact hc (k * 3 + 1) _ (flat_get passV_len l k hk 1 (by omega))
  · exact hc (k * 3 + 2) _ (flat_get passV_len l k hk 2 (by omega))

/-- the first element with an error, and this error -/
def firstBad {α : Type} (f : α → Int) : List α → Nat → Nat × Int
  | [], _ => (0, 0)
  | x :: l, i => if f x = 0 then firstBad f l (i + 1) else (i, f x)
theorem firstBad_ok {α : Type} {f : α → Int} : ∀ (l : List α) (i : Nat), (∀ x ∈ l, f x = 0) → firstBad f l i = (0, 0)
  | [], _, _ => rfl
  | x :: l, i, h => by
    rw [firstBad, if_pos (h x (by simp))]
    exact firstBad_ok l (i + 1) fun y hy => h y (by simp [hy])
theorem firstBad_at {α : Type} {f : α → Int} : ∀ (l : List α) (i k : Nat) (hk : k < l.length), (∀ x ∈ l.take k, f x = 0) → f l[k] ≠ 0 → firstBad f l i = (i + k, f l[k])
  | [], _, _, hk, _, _ => absurd hk (by simp)
  | x :: l, i, 0, _, _, hne => by
    rw [firstBad, if_neg (by simpa using hne)]
    rfl
  | x :: l, i, k + 1, hk, h, hne => by
    rw [firstBad, if_pos (h x (by simp)), firstBad_at l (i + 1) k (by simpa using hk) (fun y hy => h y (by simp [hy])) (by simpa using hne)]
    simp
    omega

def tfErr (t : Tf) : Int :=
  if [t.base, t.tons, t.length].all (inB 0 1000000) = false then 2 else if inB 0 300 t.passes = false then 2 else if inB 0 10000 t.off = false then 2 else if inB 0 100000000000000 t.most = false then 2 else 0
def passErr (n : Int) (x : Ps) : Int := if inB 0 (n - 1) x.p = false then 7 else if inB 0 400000 x.t = false then 2 else if inB 0 3000 x.l = false then 2 else 0
def duesErr (t : Tf) (n : Int) (l : List Ps) : Nat × Int :=
  if tfErr t = 0 then (if inB 1 40 n = false then (0, 3) else if 300 < l.length then (0, 5) else firstBad (passErr n) l 0) else (0, 2)
/-- what a pass costs -/
def cost (t : Tf) (x : Ps) : Int := t.base + (x.t * t.tons + x.l * t.length + 99) / 100
/-- what a payer owes, and for how many passes -/
def billOf (t : Tf) (l : List Ps) (i : Nat) : Int × Int := (((l.filter fun x => decide (x.p = (i : Int))).map (cost t)).sum, ((l.filter fun x => decide (x.p = (i : Int))).length : Nat))
def dueOf (t : Tf) (x : Int × Int) : Int := min (if t.passes ≤ x.2 then x.1 - x.1 * t.off / 10000 else x.1) t.most
def duesTo (t : Tf) (l : List Ps) (k : Nat) : List Int := (List.range k).map fun i => dueOf t (billOf t l i)
def duesSpec (t : Tf) (n : Int) (l : List Ps) : List Int × Nat × Int := if (duesErr t n l).2 = 0 then (duesTo t l n.toNat, 0, 0) else ([], (duesErr t n l).1, (duesErr t n l).2)

theorem duesTo_succ (t : Tf) (l : List Ps) (k : Nat) : duesTo t l (k + 1) = duesTo t l k ++ [dueOf t (billOf t l k)] := by simp [duesTo, List.range_succ]
theorem duesTo_len (t : Tf) (l : List Ps) (k : Nat) : (duesTo t l k).length = k := by simp [duesTo]
theorem billOf_nil (t : Tf) (i : Nat) : billOf t [] i = (0, 0) := by simp [billOf]
theorem billOf_snoc (t : Tf) (l : List Ps) (x : Ps) (i : Nat) : billOf t (l ++ [x]) i = if x.p = (i : Int) then ((billOf t l i).1 + cost t x, (billOf t l i).2 + 1) else billOf t l i := by
  unfold billOf
  rw [List.filter_append]
  by_cases h : x.p = (i : Int)
  · simp [h]
  · simp [h]
theorem tf_ok {t : Tf} (h : tfErr t = 0) : (0 ≤ t.base ∧ t.base ≤ 1000000) ∧ (0 ≤ t.tons ∧ t.tons ≤ 1000000) ∧ (0 ≤ t.length ∧ t.length ≤ 1000000) ∧ (0 ≤ t.passes ∧ t.passes ≤ 300) ∧ (0 ≤ t.off ∧ t.off ≤ 10000) ∧ 0 ≤ t.most ∧ t.most ≤ 100000000000000 := by
  unfold tfErr at h
  split at h
  · omega
  split at h
  · omega
  split at h
  · omega
  split at h
  · omega
  rename_i h1 h2 h3 h4
  have a := inB_iff.1 (by simpa using h2)
  have b := inB_iff.1 (by simpa using h3)
  have c := inB_iff.1 (by simpa using h4)
  have d : [t.base, t.tons, t.length].all (inB 0 1000000) = true := by simpa using h1
  simp [inB] at d
  omega
theorem pass_ok {n : Int} {x : Ps} (h : passErr n x = 0) : (0 ≤ x.p ∧ x.p < n) ∧ (0 ≤ x.t ∧ x.t ≤ 400000) ∧ 0 ≤ x.l ∧ x.l ≤ 3000 := by
  unfold passErr at h
  split at h
  · omega
  split at h
  · omega
  split at h
  · omega
  rename_i h1 h2 h3
  have a := inB_iff.1 (by simpa using h1)
  have b := inB_iff.1 (by simpa using h2)
  have c := inB_iff.1 (by simpa using h3)
  omega
theorem prod_bd {x y a b : Int} (hx : 0 ≤ x ∧ x ≤ a) (hy : 0 ≤ y ∧ y ≤ b) : 0 ≤ x * y ∧ x * y ≤ a * b := by
  refine ⟨Int.mul_nonneg hx.1 hy.1, ?_⟩
  have h1 : x * y ≤ a * y := Int.mul_le_mul_of_nonneg_right hx.2 hy.1
  have h2 : a * y ≤ a * b := Int.mul_le_mul_of_nonneg_left hy.2 (by omega)
  omega
theorem cost_bd {t : Tf} (ht : tfErr t = 0) {n : Int} {x : Ps} (hx : passErr n x = 0) : 0 ≤ cost t x ∧ cost t x ≤ 5000000000 := by
  obtain ⟨h1, h2, h3, _⟩ := tf_ok ht
  obtain ⟨_, h4, h5⟩ := pass_ok hx
  have p1 := prod_bd h4 h2
  have p2 := prod_bd h5 h3
  unfold cost
  omega
theorem bill_bd {t : Tf} (ht : tfErr t = 0) {n : Int} {l : List Ps} (hl : ∀ x ∈ l, passErr n x = 0) (i : Nat) : 0 ≤ (billOf t l i).1 ∧ (billOf t l i).1 ≤ l.length * 5000000000 ∧ 0 ≤ (billOf t l i).2 ∧ (billOf t l i).2 ≤ l.length := by
  induction l with
  | nil => simp [billOf]
  | cons x l ih =>
    have h1 := cost_bd ht (hl x (by simp))
    have h2 := ih fun y hy => hl y (by simp [hy])
    have e : billOf t (x :: l) i = if x.p = (i : Int) then (cost t x + (billOf t l i).1, (billOf t l i).2 + 1) else billOf t l i := by
      unfold billOf
      by_cases h : x.p = (i : Int) <;> simp [h]
    rw [e]
    simp only [List.length_cons]
    split <;> simp <;> omega
end Go.Proofs.Ytkbfdgacnoadlaa
