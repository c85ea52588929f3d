/- River: a store into a row of one's own; parts of a slice that is read. -/
import Derived.Test.YtncnlhkmdljgpaaLaw2
import Derived.Test.YtncnlhkmdljgpaaWayMath
set_option linter.unusedVariables false
namespace Go.Proofs.Ytncnlhkmdljgpaa
open Go Go.RowKit

theorem spl_len {l : List Value} {o : Nat} {vs : List Value} (h : o + vs.length ≤ l.length) : (spl l o vs).length = l.length := by
  rw [spl_eq l o vs h]
  simp
  omega
theorem spl_take {l : List Value} {o N : Nat} {vs : List Value} (h : o + vs.length ≤ N) (hN : N ≤ l.length) : (spl l o vs).take N = spl (l.take N) o vs := by
  rw [spl_eq l o vs (by omega), spl_eq (l.take N) o vs (by rw [List.length_take]; omega)]
  apply List.ext_getElem?
  intro i
  simp only [List.getElem?_take, List.getElem?_append, List.getElem?_drop, List.length_append, List.length_take]
  by_cases h1 : i < N
  · rw [if_pos h1]
    by_cases h2 : i < o
    · rw [if_pos (by omega), if_pos (by omega), if_pos h2, if_pos (by omega), if_pos (by omega), if_pos h2, if_pos h1]
    · by_cases h3 : i < o + vs.length
      · rw [if_pos (by omega), if_neg (by omega), if_pos (by omega), if_neg (by omega)]
        congr 1
        omega
      · rw [if_neg (by omega), if_neg (by omega), if_pos (by omega)]
        congr 1
        omega
  · rw [if_neg h1, if_neg (by omega), if_neg (by omega)]
section
variable {P : Program} {n : Nat} {σ : Sg} {w : World} {Q : Exit → Act → World → Prop} {L : List Oper} {rest : List Oper}
theorem EL.storeRow {ty t g o k base e size m cap : Nat} {x y : Operand} {pos : String} {af : Array Edge} {l' xs : List Value} {v : Value} (hx : evS σ x = some (.pointer (some ⟨g, o, none⟩))) (hy : evS σ y = some v) (hown : w.ownsRow base e size (.slice (some ⟨g, 0, none⟩) m cap) m xs) (hs : (P.info? t).map (·.size) = some k) (hv : v.cells.toList = l') (hk : lenV l' = k) (ho : o + k ≤ xs.length) (h1 : allOne l' = true)
    (next : ∀ w', w'.ownsRow base e size (.slice (some ⟨g, 0, none⟩) m cap) m (spl xs o l') → w.grownBy w' (some g) → EL P n L Q rest σ w') : EL P n L Q (⟨none, .store t x y, ty, pos, af, none⟩ :: rest) σ w := by
  obtain ⟨hl, ⟨h, _⟩ | ⟨g', cap', cur, h, hb, hg, hc1, hc2, hc3, hc4⟩⟩ := hown
  · cases h
  · injection h with h _ h2
    injection h with h
    injection h with h _
    subst h
    subst h2
    have hlk : l'.length = k := by rw [← lenV_eq]; exact hk
    have hle : m * size ≤ cur.toList.length := by rw [Array.length_toList, hc3]; exact Nat.mul_le_mul_right _ hc1
    have hq : Blk w g e cur.toList.toArray := hg
    refine EL.store hx hy hq hs hv hk (by simp only [Nat.ble_eq, lenV_eq]; omega) h1 fun w' hq' hgr => next w' ?_ hgr
    have hx2 : spl xs o l' = (spl cur.toList o l').take (m * size) := by rw [spl_take (by omega) hle, hc4]
    refine ⟨by rw [spl_len (by omega)]; exact hl, .inr ⟨g, cap, _, rfl, hb, hq', hc1, hc2, ?_, ?_⟩⟩
    · rw [List.size_toArray, spl_len (by omega), Array.length_toList]; exact hc3
    · rw [hx2]
end
theorem pass_set1 : ∀ {l : List Pass} {i : Nat} (a : Int), i < l.length → spl (passesC l) (i * 3 + 1) [.int .i64 a] = passesC (l.set i ⟨(l.getD i pass0).place, ⟨a, (l.getD i pass0).hours.hi⟩⟩)
  | [], i, _, h => by simp at h
  | x :: l, 0, a, _ => rfl
  | x :: l, i + 1, a, h => by
    have ih := pass_set1 (l := l) (i := i) a (by simpa using h)
    rw [show (i + 1) * 3 + 1 = (i * 3 + 1) + 3 by omega]
    show passC x ++ spl (passesC l) (i * 3 + 1) [.int .i64 a] = _
    rw [ih]
    rfl
theorem pass_set2 : ∀ {l : List Pass} {i : Nat} (a : Int), i < l.length → spl (passesC l) (i * 3 + 2) [.int .i64 a] = passesC (l.set i ⟨(l.getD i pass0).place, ⟨(l.getD i pass0).hours.lo, a⟩⟩)
  | [], i, _, h => by simp at h
  | x :: l, 0, a, _ => by
    show Value.int .i64 x.place :: .int .i64 x.hours.lo :: .int .i64 a :: ovr (passesC l) [] = _
    rw [ovr_eq _ _ (by simp)]
    rfl
  | x :: l, i + 1, a, h => by
    have ih := pass_set2 (l := l) (i := i) a (by simpa using h)
    rw [show (i + 1) * 3 + 2 = (i * 3 + 2) + 3 by omega]
    show passC x ++ spl (passesC l) (i * 3 + 2) [.int .i64 a] = _
    rw [ih]
    rfl
/-- the hours, made wider -/
def wideP (cut H : Int) (p : Pass) : Pass := ⟨p.place, ⟨max 0 (p.hours.lo - cut.tmod 5), min (H - 1) (p.hours.hi + cut.tmod 4)⟩⟩
def mkWide (cut H : Int) (l : List Pass) : Nat → List Pass
  | 0 => l
  | i + 1 => (mkWide cut H l i).set i (wideP cut H (l.getD i pass0))
theorem mkWide_len (cut H : Int) (l : List Pass) : ∀ i, (mkWide cut H l i).length = l.length
  | 0 => rfl
  | i + 1 => by rw [mkWide, List.length_set, mkWide_len cut H l i]
theorem getD_set {α : Type} {l : List α} {i j : Nat} {x d : α} (hi : i < l.length) : (l.set i x).getD j d = if i = j then x else l.getD j d := by
  simp only [List.getD_eq_getElem?_getD, List.getElem?_set]
  by_cases h : i = j
  · subst h; simp [hi]
  · simp [h]
theorem mkWide_at (cut H : Int) (l : List Pass) : ∀ {i j : Nat}, i ≤ l.length → (mkWide cut H l i).getD j pass0 = if j < i then wideP cut H (l.getD j pass0) else l.getD j pass0
  | 0, j, _ => by simp [mkWide]
  | i + 1, j, hi => by
    rw [mkWide, getD_set (by rw [mkWide_len]; omega), mkWide_at cut H l (i := i) (by omega)]
    by_cases h : i = j
    · subst h; simp
    · by_cases h2 : j < i
      · rw [if_neg h, if_pos h2, if_pos (by omega)]
      · rw [if_neg h, if_neg h2, if_neg (by omega)]
/-- parts of what is read -/
theorem Rd.takeP {w : World} {B b o c : Nat} {l : List Pass} (h : Rd w B 3 (.slice (some ⟨b, o, none⟩) l.length c) l.length (passesC l)) {k : Nat} (hk : k ≤ l.length) : Rd w B 3 (.slice (some ⟨b, o, none⟩) k c) k (passesC (l.take k)) := by
  obtain ⟨_, A, c', e, hc, hr⟩ := h
  injection e with e1 e2 e3
  subst e1
  subst e3
  refine ⟨by rw [passesC_len, List.length_take, Nat.min_eq_left hk], _, _, rfl, by omega, fun h0 => ?_⟩
  obtain ⟨b', o', e, hb, hcell⟩ := hr (by omega)
  refine ⟨b', o', e, hb, fun j u hu => hcell j u ?_⟩
  have hj : j < (passesC (l.take k)).length := by
    rcases Nat.lt_or_ge j (passesC (l.take k)).length with h | h
    · exact h
    · rw [List.getElem?_eq_none h] at hu; cases hu
  have e2 : passesC l = passesC (l.take k) ++ passesC (l.drop k) := by unfold passesC; rw [← List.flatMap_append, List.take_append_drop]
  rw [e2, List.getElem?_append_left hj]
  exact hu
theorem Rd.dropP {w : World} {B b o c r : Nat} {l : List Pass} (h : Rd w B 3 (.slice (some ⟨b, o, none⟩) l.length c) l.length (passesC l)) {k : Nat} (hk : k < l.length) (hr : (if c = k then o else o + k * 3) = r) : Rd w B 3 (.slice (some ⟨b, r, none⟩) (l.length - k) (c - k)) (l.length - k) (passesC (l.drop k)) := by
  obtain ⟨_, A, c', e, hc, hrd⟩ := h
  injection e with e1 e2 e3
  subst e1
  subst e3
  rw [if_neg (by omega)] at hr
  subst hr
  refine ⟨by rw [passesC_len, List.length_drop], _, _, rfl, by omega, fun h0 => ?_⟩
  obtain ⟨b', o', e, hb, hcell⟩ := hrd (by omega)
  injection e with e
  injection e with e1 e2
  subst e1
  subst e2
  refine ⟨b, o + k * 3, rfl, hb, fun j u hu => ?_⟩
  rw [Nat.add_assoc]
  refine hcell (k * 3 + j) u ?_
  have e2 : passesC l = passesC (l.take k) ++ passesC (l.drop k) := by unfold passesC; rw [← List.flatMap_append, List.take_append_drop]
  have e3 : (passesC (l.take k)).length = k * 3 := by rw [passesC_len, List.length_take, Nat.min_eq_left (by omega)]
  rw [e2, List.getElem?_append_right (by omega), e3, Nat.add_sub_cancel_left]
  exact hu
end Go.Proofs.Ytncnlhkmdljgpaa
