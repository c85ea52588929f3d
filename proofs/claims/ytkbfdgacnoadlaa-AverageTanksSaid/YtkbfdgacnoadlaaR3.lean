/- The laws' part: one byte of a row, the row being read round and round. -/
import Derived.Test.YtkbfdgacnoadlaaA4
import Derived.Test.YtkbfdgacnoadlaaBlameMath
namespace Go.Proofs.Ytkbfdgacnoadlaa
open Go.RowKit

def u8s (l : List Int) : List Value := l.map (Value.int .u8)

set_option maxHeartbeats 1000000 in
theorem part_any (l : List Int) (i : Nat) (v : Value) (n : Nat) (w : World) (B : Nat) (hr : Rd w B 1 v n (u8s l)) (hn : n ≤ 9223372036854775807) (hi : i ≤ 9223372036854775807) :
    Calls Try.prog 24 #[v, .int .i64 i] w fun e w' => e = .returned (.int .u8 (at0 l (i % l.length))) ∧ w = w' := by
  obtain ⟨A, c, rfl, hnc⟩ := hr.shape
  have hl : n = l.length := by have := hr.len; simp [u8s] at this; omega
  subst hl
  by_cases h0 : l.length = 0
  · have e0 : l = [] := List.eq_nil_of_length_eq_zero h0
    subst e0
    go_enter Try.func24, Try.ntmps24
    go_wp2
    go_ret
    exact ⟨by simp [at0], rfl⟩
  · obtain ⟨b, off, rfl, hb, hc⟩ := hr.at_ (by omega)
    have hlt : i % l.length < l.length := Nat.mod_lt _ (by omega)
    have hc' : w.cell? ⟨b, off + i % l.length, none⟩ = some (.int .u8 l[i % l.length]) := hc _ _ (by simp [u8s, hlt])
    clear hc
    have ha : at0 l (i % l.length) = l[i % l.length] := by simp [at0, hlt]
    rw [ha]
    clear ha
    have ht : (i : Int).tmod (l.length : Int) = ((i % l.length : Nat) : Int) := by rw [Int.tmod_eq_emod_of_nonneg (by omega)]; simp
    obtain ⟨m, hm⟩ : ∃ m, m = i % l.length := ⟨_, rfl⟩
    obtain ⟨u, hu⟩ : ∃ u, u = l[i % l.length] := ⟨_, rfl⟩
    rw [← hu] at hc' ⊢
    rw [← hm] at hc' ht hlt
    clear hm hu
    go_enter Try.func24, Try.ntmps24
    go_wp2
    go_ret
    exact ⟨rfl, rfl⟩
end Go.Proofs.Ytkbfdgacnoadlaa
