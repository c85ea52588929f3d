/- Notes as data; the sums of an interest's notes by kinds; the first note with an error. No program in sight. -/
import Derived.Test.YtkbfdgacnoadlaaBase4
namespace Go.Proofs.Ytkbfdgacnoadlaa
open Go.RowKit

structure Nt where
  k : Int
  i : Int
  a : Int

def noteV (x : Nt) : List Value := [.int .i64 x.k, .int .i64 x.i, .int .i64 x.a]
def notesV (l : List Nt) : List Value := l.flatMap noteV

theorem flat_len {α : Type} {f : α → List Value} {s : Nat} (hf : ∀ x, (f x).length = s) (l : List α) : (l.flatMap f).length = l.length * s := by
  induction l with
  | nil => simp
  | cons x l ih => simp [ih, hf, Nat.add_mul]; omega
theorem flat_get {α : Type} {f : α → List Value} {s : Nat} (hf : ∀ x, (f x).length = s) : ∀ (l : List α) (k : Nat) (hk : k < l.length) (j : Nat), j < s → (l.flatMap f)[k * s + j]? = (f l[k])[j]?
  | [], k, hk, _, _ => absurd hk (by simp)
  | x :: l, 0, _, j, hj => by
    rw [List.flatMap_cons, Nat.zero_mul, Nat.zero_add, List.getElem?_append_left (by rw [hf]; exact hj)]
    rfl
  | x :: l, k + 1, hk, j, hj => by
    rw [List.flatMap_cons, List.getElem?_append_right (by rw [hf, Nat.add_mul]; omega), hf, show (k + 1) * s + j - s = k * s + j by rw [Nat.add_mul]; omega]
    exact flat_get hf l k (by simpa using hk) j hj
theorem flat_one {α : Type} {f : α → List Value} (hf : ∀ x, ∀ u ∈ f x, u.oneCell' = true) (l : List α) : ∀ u ∈ l.flatMap f, u.oneCell' = true := by
  intro u hu
  obtain ⟨x, _, h⟩ := List.mem_flatMap.1 hu
  exact hf x u h

theorem noteV_len (x : Nt) : (noteV x).length = 3 := rfl
theorem notesV_len (l : List Nt) : (notesV l).length = l.length * 3 := flat_len noteV_len l
theorem notesV_one (l : List Nt) : ∀ u ∈ notesV l, u.oneCell' = true := flat_one (by intro x u hu; simp [noteV] at hu; rcases hu with rfl | rfl | rfl <;> rfl) l
theorem notes_cells (l : List Nt) (k : Nat) (hk : k < l.length) (w : World) (B : Nat) (A : Option Addr) (n c : Nat) (hr : Rd w B 3 (.slice A n c) n (notesV l)) :
    ∃ b off, A = some ⟨b, off, none⟩ ∧ b < B ∧ w.cell? ⟨b, off + k * 3, none⟩ = some (.int .i64 l[k].k) ∧ w.cell? ⟨b, off + k * 3 + 1, none⟩ = some (.int .i64 l[k].i) ∧ w.cell? ⟨b, off + k * 3 + 2, none⟩ = some (.int .i64 l[k].a) := by
  have hl : n * 3 = l.length * 3 := by rw [← hr.len, notesV_len]
  obtain ⟨b, off, rfl, hb, hc⟩ := hr.at_ (by omega)
  refine ⟨b, off, rfl, hb, hc (k * 3) _ ?_, ?_, ?_⟩
  · exact flat_get noteV_len l k hk 0 (by omega)
  · exact hc (k * 3 + 1) _ (flat_get noteV_len l k hk 1 (by omega))
  · exact hc (k * 3 + 2) _ (flat_get noteV_len l k hk 2 (by omega))

/-- the error of a note -/
def noteErr (n : Int) (x : Nt) : Int := if x.k < 1 then 2 else if 4 < x.k then 2 else if inB 0 (n - 1) x.i = false then 7 else if inB 1 100000000000 x.a = false then 3 else 0
/-- the first note with an error, and this error -/
def firstErr (n : Int) : List Nt → Nat → Nat × Int
  | [], _ => (0, 0)
  | x :: l, i => if noteErr n x = 0 then firstErr n l (i + 1) else (i, noteErr n x)
theorem firstErr_ok {n : Int} : ∀ (l : List Nt) (i : Nat), (∀ x ∈ l, noteErr n x = 0) → firstErr n l i = (0, 0)
  | [], _, _ => rfl
  | x :: l, i, h => by
    rw [firstErr, if_pos (h x (by simp))]
    exact firstErr_ok l (i + 1) fun y hy => h y (by simp [hy])
theorem firstErr_at {n : Int} : ∀ (l : List Nt) (i k : Nat) (hk : k < l.length), (∀ x ∈ l.take k, noteErr n x = 0) → noteErr n l[k] ≠ 0 → firstErr n l i = (i + k, noteErr n l[k])
  | [], _, _, hk, _, _ => absurd hk (by simp)
  | x :: l, i, 0, _, _, hne => by
    rw [firstErr, if_neg (by simpa using hne)]
    rfl
  | x :: l, i, k + 1, hk, h, hne => by
    rw [firstErr, if_pos (h x (by simp)), firstErr_at l (i + 1) k (by simpa using hk) (fun y hy => h y (by simp [hy])) (by simpa using hne)]
    simp
    omega
theorem noteErr_ok {n : Int} {x : Nt} (h : noteErr n x = 0) : 1 ≤ x.k ∧ x.k ≤ 4 ∧ 0 ≤ x.i ∧ x.i < n ∧ 1 ≤ x.a ∧ x.a ≤ 100000000000 := by
  unfold noteErr at h
  split at h
  · omega
  split at h
  · omega
  split at h
  · omega
  split at h
  · omega
  rename_i h1 h2 h3 h4
  have h3' := inB_iff.1 (by simpa using h3)
  have h4' := inB_iff.1 (by simpa using h4)
  omega

/-- the sum of the notes of a kind for an interest -/
def ofL (l : List Nt) (kind int : Int) : Int := ((l.filter fun x => decide (x.k = kind) && decide (x.i = int)).map Nt.a).sum
theorem ofL_snoc (l : List Nt) (x : Nt) (kind int : Int) : ofL (l ++ [x]) kind int = ofL l kind int + if x.k = kind ∧ x.i = int then x.a else 0 := by
  unfold ofL
  rw [List.filter_append, List.map_append, List.sum_append]
  by_cases h : x.k = kind ∧ x.i = int
  · simp [h]
  · rw [if_neg h]
    have : (decide (x.k = kind) && decide (x.i = int)) = false := by simpa using h
    simp [this]
theorem ofL_bd {n : Int} {l : List Nt} (h : ∀ x ∈ l, noteErr n x = 0) (kind int : Int) : 0 ≤ ofL l kind int ∧ ofL l kind int ≤ l.length * 100000000000 := by
  induction l with
  | nil => simp [ofL]
  | cons x l ih =>
    have h1 := noteErr_ok (h x (by simp))
    have h2 := ih fun y hy => h y (by simp [hy])
    have e : ofL (x :: l) kind int = (if x.k = kind ∧ x.i = int then x.a else 0) + ofL l kind int := by
      unfold ofL
      by_cases hx : x.k = kind ∧ x.i = int
      · simp [hx]
      · rw [if_neg hx]
        have : (decide (x.k = kind) && decide (x.i = int)) = false := by simpa using hx
        simp [this]
    rw [e]
    simp only [List.length_cons]
    split <;> omega

/-- the table of sums: five cells for each interest -/
def tab (n : Nat) (l : List Nt) : List Int := (List.range (n * 5)).map fun c => ofL l (c % 5 : Nat) (c / 5 : Nat)
theorem tab_len (n : Nat) (l : List Nt) : (tab n l).length = n * 5 := by simp [tab]
theorem tab_at {n : Nat} (l : List Nt) {i j : Nat} (hi : i < n) (hj : j < 5) : ∃ h : i * 5 + j < (tab n l).length, (tab n l)[i * 5 + j]'h = ofL l (j : Nat) (i : Nat) := by
  have h : i * 5 + j < (tab n l).length := by rw [tab_len]; omega
  refine ⟨h, ?_⟩
  simp only [tab, List.getElem_map, List.getElem_range]
  rw [show (i * 5 + j) % 5 = j by omega, show (i * 5 + j) / 5 = i by omega]
theorem tab_nil (n : Nat) : tab n [] = List.replicate (n * 5) 0 := by
  apply List.ext_getElem
  · simp [tab]
  · intro k h1 h2
    simp [tab, ofL]
theorem tab_snoc (n : Nat) (l : List Nt) (x : Nt) {i j : Nat} (hi : x.i = (i : Int)) (hj : x.k = (j : Int)) (hj5 : j < 5) : tab n (l ++ [x]) = (tab n l).set (i * 5 + j) (ofL l (j : Nat) (i : Nat) + x.a) := by
  apply List.ext_getElem
  · simp [tab]
  · intro k h1 h2
    simp only [tab, List.getElem_map, List.getElem_range, List.getElem_set]
    rw [ofL_snoc, hi, hj]
    by_cases hk : i * 5 + j = k
    · subst hk
      rw [if_pos rfl, show (i * 5 + j) % 5 = j by omega, show (i * 5 + j) / 5 = i by omega, if_pos ⟨rfl, rfl⟩]
    · rw [if_neg hk, if_neg (by omega)]
      omega
end Go.Proofs.Ytkbfdgacnoadlaa
