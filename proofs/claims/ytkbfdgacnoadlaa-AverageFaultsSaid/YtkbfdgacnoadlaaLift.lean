/- From an argument as the frame hands it to the words of the walks. -/
import Derived.Test.YtkbfdgacnoadlaaBase
namespace Go.Proofs.Ytkbfdgacnoadlaa
open Go.RowKit

theorem cell_spot {w : World} {x : Addr} {u : Value} (h : w.cell? x = some u) : x.spot = none ∧ x.block < w.heap.size := by
  unfold World.cell? at h
  split at h
  · rename_i c e f hg
    split at h
    · cases h
    · rename_i hs
      refine ⟨by simpa using hs, ?_⟩
      rcases Nat.lt_or_ge x.block w.heap.size with hlt | hge
      · exact hlt
      · rw [Array.getElem?_eq_none hge] at hg; cases hg
  · cases h

theorem rd_of_row {w : World} {a : Option Addr} {len cap : Nat} {zs : List Int}
    (h : (a = none ∧ len = 0 ∧ cap = 0 ∧ zs = []) ∨ ∃ x, a = some x ∧ len ≤ cap ∧ cap ≤ maxLen ∧ zs.length = cap ∧ (∀ i, i < zs.length → w.cell? (x.add i) = some (.int .i64 (zs.getD i 0))) ∧ ∀ n ∈ zs, (Lit.int .i64 n).wf = true) :
    ∃ l : List Int, len = l.length ∧ Rd w w.heap.size 1 (.slice a len cap) len (ints l) ∧ (∀ n ∈ l, (Lit.int .i64 n).wf = true) ∧ len ≤ maxLen := by
  rcases h with ⟨rfl, rfl, rfl, rfl⟩ | ⟨x, rfl, hl, hm, hz, hcell, hwf⟩
  · exact ⟨[], rfl, Rd.nil_ _ _ _, by simp, Nat.zero_le _⟩
  · refine ⟨zs.take len, by simp; omega, ⟨by simp [ints]; omega, _, _, rfl, hl, fun hn => ?_⟩, fun n hn => hwf n (List.mem_of_mem_take hn), Nat.le_trans hl hm⟩
    have h0 := hcell 0 (by omega)
    obtain ⟨hs, hb⟩ := cell_spot h0
    have e0 : x.add 0 = x := by simp [Addr.add]
    rw [e0] at hs hb
    obtain ⟨b, off, spot⟩ := x
    subst hs
    refine ⟨b, off, rfl, hb, fun j u hu => ?_⟩
    have hj : j < len := by
      have := (List.getElem?_eq_some_iff.1 hu).1
      simp [ints] at this
      omega
    have hc := hcell j (by omega)
    rw [Addr.add_lit] at hc
    rw [hc]
    simp [ints, hj] at hu
    obtain ⟨z, hz1, rfl⟩ := hu
    simp [List.getD, hz1]
end Go.Proofs.Ytkbfdgacnoadlaa
