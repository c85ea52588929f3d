/- Plain facts for the law AverageOrders: the accounts hang on the sums of the notes alone. No program in sight. -/
import Derived.Test.YtkbfdgacnoadlaaBalMath
namespace Go.Proofs.Ytkbfdgacnoadlaa
open Go.RowKit

theorem ofL_perm {a b : List Nt} (h : a.Perm b) (kind int : Int) : ofL a kind int = ofL b kind int := by
  induction h with
  | nil => rfl
  | cons x _ ih => rw [ofL_cons, ofL_cons, ih]
  | swap x y l => rw [ofL_cons, ofL_cons, ofL_cons, ofL_cons]; omega
  | trans _ _ h1 h2 => rw [h1, h2]
theorem adj_same {N : Nat} {c : Int} {l m : List Nt} (hl : earlyErr N c l = (0, 0)) (hm : earlyErr N c m = (0, 0)) (h : ∀ kind int, ofL l kind int = ofL m kind int) : adjSpec N c l = adjSpec N c m := by
  have hs : sums l = sums m := by
    funext i j
    exact h _ _
  have hli : ∀ what k, listI what l k = listI what m k := fun what k => by
    unfold listI
    rw [hs]
  have hlate : ∀ k, lateErr c l k = lateErr c m k := fun k => by
    unfold lateErr
    rw [hli, hli, hli]
  have hacc : ∀ D k, accsTo c l D k = accsTo c m D k := fun D k => by
    unfold accsTo
    congr 1
    funext i
    unfold accAt
    rw [hs]
  unfold adjSpec adjTotal
  rw [hl, hm, hlate, hli, hli, hacc]
theorem early_ok {N : Nat} {c : Int} {l : List Nt} (n0 : 1 ≤ N) (n1 : N ≤ 40) (c0 : 0 ≤ c) (c1 : c ≤ 10000) (hl : l.length ≤ 300) (hall : ∀ x ∈ l, noteErr N x = 0) : earlyErr N c l = (0, 0) := by
  have a := (inB_iff (lo := 1) (hi := 40) (n := (N : Int))).2 ⟨by omega, by omega⟩
  have b := (inB_iff (lo := 0) (hi := 10000) (n := c)).2 ⟨c0, c1⟩
  unfold earlyErr
  rw [a, b, if_neg (by simp), if_neg (by simp), if_neg (by omega)]
  exact firstErr_ok l 0 hall
theorem late_three (c : Int) (l : List Nt) (n : Nat) : lateErr c l n = 0 ∨ lateErr c l n = 9 ∨ lateErr c l n = 80 := by
  unfold lateErr
  split
  · simp
  split
  · simp
  split <;> simp
/-- what Adjust returns where no note has an error -/
theorem adj_kinds {N : Nat} {c : Int} {l : List Nt} (h : earlyErr N c l = (0, 0)) : ∃ (out : List Acc) (t E : Int), adjSpec N c l = (out, t, 0, E) ∧ (E = 0 ∧ out.length = N ∨ (E = 9 ∨ E = 80)) ∧ out.length ≤ N := by
  unfold adjSpec
  rw [h, if_pos rfl, Int.toNat_natCast]
  rcases late_three c l N with k | k | k
  · rw [if_pos k]
    exact ⟨_, _, _, rfl, .inl ⟨rfl, accsTo_len _ _ _ _⟩, Nat.le_of_eq (accsTo_len _ _ _ _)⟩
  · rw [if_neg (by omega)]
    exact ⟨_, _, _, rfl, .inr (.inl k), by simp⟩
  · rw [if_neg (by omega)]
    exact ⟨_, _, _, rfl, .inr (.inr k), by simp⟩

/-- the notes in a turn -/
def note0 : Nt := ⟨0, 0, 0⟩
def turned (l : List Nt) (T : List Nat) : List Nt := T.map fun i => l.getD i note0
theorem turned_perm (l : List Nt) {T : List Nat} (h : T.Perm (List.range l.length)) : (turned l T).Perm l := by
  have h1 := h.map fun i => l.getD i note0
  have h2 : (List.range l.length).map (fun i => l.getD i note0) = l := by
    apply List.ext_getElem
    · simp
    · intro i h1 h2
      simp [h2]
  rw [h2] at h1
  exact h1
theorem turned_snoc (l : List Nt) (T : List Nat) (i : Nat) : turned l (T ++ [i]) = turned l T ++ [l.getD i note0] := by simp [turned]

/-- what the law's loop has made of the first notes of a turn -/
structure Other (N : Int) (l : List Nt) (T : List Nat) (k : Nat) (oth : List Nt) : Prop where
  sums : ∀ kind int, ofL oth kind int = ofL (turned l (T.take k)) kind int
  ok : ∀ x ∈ oth, noteErr N x = 0
  len : oth.length ≤ k + if l.length / 2 < k then 1 else 0
theorem Other.start (N : Int) (l : List Nt) (T : List Nat) : Other N l T 0 [] := ⟨fun _ _ => rfl, fun x hx => (by cases hx), by simp⟩
theorem Other.one {N : Int} {l : List Nt} {T : List Nat} {k : Nat} {oth : List Nt} (h : Other N l T k oth) (hk : k < T.length) {x : Nt} (hx : x = l.getD T[k] note0) (hok : noteErr N x = 0) : Other N l T (k + 1) (oth ++ [x]) := by
  refine ⟨fun kind int => ?_, fun y hy => ?_, ?_⟩
  · rw [List.take_succ_eq_append_getElem hk, turned_snoc, ofL_snoc, ofL_snoc, h.sums, hx]
  · rcases List.mem_append.1 hy with h1 | h1
    · exact h.ok y h1
    · rw [List.mem_singleton.1 h1]
      exact hok
  · have := h.len
    rw [List.length_append, List.length_singleton]
    split at this <;> split <;> omega
theorem Other.two {N : Int} {l : List Nt} {T : List Nat} {k : Nat} {oth : List Nt} (h : Other N l T k oth) (hk : k < T.length) (hm : k = l.length / 2) {a b c d : Int} (hx : (⟨a, b, c⟩ : Nt) = l.getD T[k] note0) (hok : noteErr N ⟨a, b, c⟩ = 0) (h1 : 1 ≤ d) (h2 : d < c) :
    Other N l T (k + 1) (oth ++ [⟨a, b, d⟩] ++ [⟨a, b, c - d⟩]) := by
  have e := noteErr_ok hok
  simp only at e
  have hin : inB 0 (N - 1) b = true := inB_iff.2 ⟨by omega, by omega⟩
  refine ⟨fun kind int => ?_, fun y hy => ?_, ?_⟩
  · rw [List.take_succ_eq_append_getElem hk, turned_snoc, ofL_snoc, ofL_snoc, ofL_snoc, h.sums, ← hx]
    simp only
    split <;> omega
  · rcases List.mem_append.1 hy with h3 | h3
    · rcases List.mem_append.1 h3 with h4 | h4
      · exact h.ok y h4
      · rw [List.mem_singleton.1 h4]
        have : inB 1 100000000000 d = true := inB_iff.2 ⟨h1, by omega⟩
        unfold noteErr
        rw [if_neg (by simp only; omega), if_neg (by simp only; omega), if_neg (by simp [hin]), if_neg (by simp [this])]
    · rw [List.mem_singleton.1 h3]
      have : inB 1 100000000000 (c - d) = true := inB_iff.2 ⟨by omega, by omega⟩
      unfold noteErr
      rw [if_neg (by simp only; omega), if_neg (by simp only; omega), if_neg (by simp [hin]), if_neg (by simp [this])]
  · have := h.len
    rw [if_neg (by omega)] at this
    rw [List.length_append, List.length_append, List.length_singleton, List.length_singleton, if_pos (by omega)]
    omega
theorem Other.done {N : Nat} {l : List Nt} {T : List Nat} {oth : List Nt} (h : Other N l T l.length oth) (hT : T.Perm (List.range l.length)) : (∀ kind int, ofL oth kind int = ofL l kind int) ∧ oth.length ≤ l.length + 1 := by
  have hl : T.length = l.length := by rw [hT.length_eq, List.length_range]
  refine ⟨fun kind int => ?_, ?_⟩
  · rw [h.sums, ← hl, List.take_length]
    exact ofL_perm (turned_perm l hT) kind int
  · have := h.len
    split at this <;> omega
end Go.Proofs.Ytkbfdgacnoadlaa
