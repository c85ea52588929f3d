/- Soundings and bunkers as plain data. No program in sight. -/
import Derived.Test.YtkbfdgacnoadlaaNotes
namespace Go.Proofs.Ytkbfdgacnoadlaa
open Go.RowKit

structure Sd where
  m : Int
  lo : Int
  hi : Int
structure Bk where
  m : Int
  l : Int
def sdV (x : Sd) : List Value := [.int .i64 x.m, .int .i64 x.lo, .int .i64 x.hi]
def sdsV (l : List Sd) : List Value := l.flatMap sdV
def bkV (x : Bk) : List Value := [.int .i64 x.m, .int .i64 x.l]
def bksV (l : List Bk) : List Value := l.flatMap bkV
theorem sdV_len (x : Sd) : (sdV x).length = 3 := rfl
theorem sdsV_len (l : List Sd) : (sdsV l).length = l.length * 3 := flat_len sdV_len l
theorem sdsV_one (l : List Sd) : ∀ u ∈ sdsV l, u.oneCell' = true := flat_one (by intro x u hu; simp [sdV] at hu; rcases hu with rfl | rfl | rfl <;> rfl) l
theorem bkV_len (x : Bk) : (bkV x).length = 2 := rfl
theorem bksV_len (l : List Bk) : (bksV l).length = l.length * 2 := flat_len bkV_len l
theorem bksV_one (l : List Bk) : ∀ u ∈ bksV l, u.oneCell' = true := flat_one (by intro x u hu; simp [bkV] at hu; rcases hu with rfl | rfl <;> rfl) l
theorem sds_cells (l : List Sd) (k : Nat) (hk : k < l.length) (w : World) (B : Nat) (A : Option Addr) (n c : Nat) (hr : Rd w B 3 (.slice A n c) n (sdsV l)) :
    ∃ b off, A = some ⟨b, off, none⟩ ∧ b < B ∧ w.cell? ⟨b, off + k * 3, none⟩ = some (.int .i64 l[k].m) ∧ w.cell? ⟨b, off + k * 3 + 1, none⟩ = some (.int .i64 l[k].lo) ∧ w.cell? ⟨b, off + k * 3 + 2, none⟩ = some (.int .i64 l[k].hi) := by
  have hl : n * 3 = l.length * 3 := by rw [← hr.len, sdsV_len]
  obtain ⟨b, off, rfl, hb, hc⟩ := hr.at_ (by omega)
  refine ⟨b, off, rfl, hb, hc (k * 3) _ ?_, ?_, ?_⟩
  · exact flat_get sdV_len l k hk 0 (by omega)
  · exact hc (k * 3 + 1) _ (flat_get sdV_len l k hk 1 (by omega))
  · exact hc (k * 3 + 2) _ (flat_get sdV_len l k hk 2 (by omega))
theorem bks_cells (l : List Bk) (k : Nat) (hk : k < l.length) (w : World) (B : Nat) (A : Option Addr) (n c : Nat) (hr : Rd w B 2 (.slice A n c) n (bksV l)) :
    ∃ b off, A = some ⟨b, off, none⟩ ∧ b < B ∧ w.cell? ⟨b, off + k * 2, none⟩ = some (.int .i64 l[k].m) ∧ w.cell? ⟨b, off + k * 2 + 1, none⟩ = some (.int .i64 l[k].l) := by
  have hl : n * 2 = l.length * 2 := by rw [← hr.len, bksV_len]
  obtain ⟨b, off, rfl, hb, hc⟩ := hr.at_ (by omega)
  refine ⟨b, off, rfl, hb, hc (k * 2) _ ?_, ?_⟩
  · exact flat_get bkV_len l k hk 0 (by omega)
  · exact hc (k * 2 + 1) _ (flat_get bkV_len l k hk 1 (by omega))

def bkOk (x : Bk) : Bool := inB 0 1000000 x.m && inB 1 10000000 x.l
/-- a sounding behind a minute -/
def sdOk (before : Int) (x : Sd) : Bool := inB (before + 1) 1000000 x.m && ([x.lo, x.hi].all (inB 0 10000000) && decide (x.lo ≤ x.hi))
def sdsOk : Int → List Sd → Bool
  | _, [] => true
  | before, x :: l => sdOk before x && sdsOk x.m l
def tankErr (l : List Sd) (b : List Bk) : Int := if 100 < l.length then 5 else if 100 < b.length then 5 else if l.length = 0 then 4 else if b.all bkOk = false then 2 else if sdsOk (-1) l = false then 2 else 0
/-- all fuel that was taken up to a minute -/
def takenAt (b : List Bk) (m : Int) : Int := ((b.filter fun y => decide (y.m ≤ m)).map Bk.l).sum
def takenTo (l : List Sd) (b : List Bk) (k : Nat) : List Int := (l.take k).map fun x => takenAt b x.m
/-- the minute ahead of the k-th sounding -/
def prevM (l : List Sd) : Nat → Int
  | 0 => -1
  | k + 1 => (l.getD k ⟨0, 0, 0⟩).m
theorem prevM_succ (l : List Sd) {k : Nat} (hk : k < l.length) : prevM l (k + 1) = l[k].m := by simp [prevM, hk]

theorem takenAt_snoc (b : List Bk) (y : Bk) (m : Int) : takenAt (b ++ [y]) m = takenAt b m + if y.m ≤ m then y.l else 0 := by
  unfold takenAt
  rw [List.filter_append]
  by_cases h : y.m ≤ m <;> simp [h]
theorem takenAt_bd {b : List Bk} (h : ∀ y ∈ b, bkOk y = true) (m : Int) : 0 ≤ takenAt b m ∧ takenAt b m ≤ b.length * 10000000 := by
  induction b with
  | nil => simp [takenAt]
  | cons y b ih =>
    have h2 := ih fun z hz => h z (by simp [hz])
    have h1 := h y (by simp)
    simp only [bkOk, Bool.and_eq_true, inB_iff] at h1
    have e : takenAt (y :: b) m = (if y.m ≤ m then y.l else 0) + takenAt b m := by
      unfold takenAt
      by_cases h : y.m ≤ m <;> simp [h]
    rw [e]
    simp only [List.length_cons]
    split <;> omega
theorem takenTo_succ (l : List Sd) (b : List Bk) {k : Nat} (hk : k < l.length) : takenTo l b (k + 1) = takenTo l b k ++ [takenAt b l[k].m] := by
  simp only [takenTo, List.take_succ_eq_append_getElem hk, List.map_append, List.map_cons, List.map_nil]
theorem takenTo_len (l : List Sd) (b : List Bk) {k : Nat} (hk : k ≤ l.length) : (takenTo l b k).length = k := by simp [takenTo]; omega

/-- the soundings up to one are in order: read one by one -/
theorem sdsOk_at : ∀ (l : List Sd) (p : Int), sdsOk p l = true ↔ ∀ k (hk : k < l.length), sdOk (match k with | 0 => p | j + 1 => (l.getD j ⟨0, 0, 0⟩).m) l[k] = true
  | [], p => by simp [sdsOk]
  | x :: l, p => by
    rw [sdsOk, Bool.and_eq_true, sdsOk_at l x.m]
    constructor
    · rintro ⟨h1, h2⟩ k hk
      cases k with
      | zero => exact h1
      | succ k =>
        have := h2 k (by simpa using hk)
        cases k with
        | zero => simpa using this
        | succ k => simpa using this
    · intro h
      refine ⟨h 0 (by simp), fun k hk => ?_⟩
      have := h (k + 1) (by simpa using hk)
      cases k with
      | zero => simpa using this
      | succ k => simpa using this
theorem sdsOk_iff (l : List Sd) : sdsOk (-1) l = true ↔ ∀ k (hk : k < l.length), sdOk (prevM l k) l[k] = true := by
  rw [sdsOk_at]
  constructor <;> intro h k hk <;> have := h k hk <;> cases k <;> exact this
end Go.Proofs.Ytkbfdgacnoadlaa
