/- The reference's Notes: the first note with an error. -/
import Derived.Test.YtkbfdgacnoadlaaR1
import Derived.Test.YtkbfdgacnoadlaaA9
namespace Go.Proofs.Ytkbfdgacnoadlaa
open Go.RowKit

set_option maxHeartbeats 2000000 in
theorem rnotes_any (n c : Int) (l : List Nt) (v : Value) (m : Nat) (w : World) (B : Nat) (hr : Rd w B 3 v m (notesV l)) (hB : B ≤ w.heap.size) (hm : m ≤ 1125899906842624) :
    Calls Try.prog 45 #[.int .i64 n, .int .i64 c, v] w fun e w' => e = .returned (.tuple #[.int .i64 (earlyErr n c l).1, .int .i64 (earlyErr n c l).2]) ∧ Below w.heap.size w w' := by
  obtain ⟨A, cap, rfl, hnc⟩ := hr.shape
  have hl : m = l.length := by have := hr.len; rw [notesV_len] at this; omega
  subst hl
  obtain ⟨S, hS⟩ : ∃ S, S = earlyErr n c l := ⟨_, rfl⟩
  rw [← hS]
  unfold earlyErr at hS
  rcases Bool.eq_false_or_eq_true (inB 1 40 n) with h1 | h1
  case inr =>
    rw [h1, if_pos rfl] at hS
    subst hS
    go_enter Try.func45, Try.ntmps45
    go_wp2_with (go_at_call 48; refine (in_any _ _ _ _).mono ?_; rintro e w' ⟨rfl, rfl⟩)
    all_goals (go_ret2; exact ⟨rfl, Below.refl _ _⟩)
  rcases Bool.eq_false_or_eq_true (inB 0 10000 c) with h2 | h2
  case inr =>
    rw [h1, h2, if_neg (by decide), if_pos rfl] at hS
    subst hS
    go_enter Try.func45, Try.ntmps45
    go_wp2_with (go_at_call 48; refine (in_any _ _ _ _).mono ?_; rintro e w' ⟨rfl, rfl⟩)
    all_goals (go_ret2; exact ⟨rfl, Below.refl _ _⟩)
  rw [h1, h2, if_neg (by decide), if_neg (by decide)] at hS
  by_cases h3 : 300 < l.length
  · rw [if_pos h3] at hS
    subst hS
    go_enter Try.func45, Try.ntmps45
    go_wp2_with (go_at_call 48; refine (in_any _ _ _ _).mono ?_; rintro e w' ⟨rfl, rfl⟩)
    all_goals (go_ret2; exact ⟨rfl, Below.refl _ _⟩)
  rw [if_neg h3] at hS
  have Hs := Lib.hid hS
  clear hS
  obtain ⟨n0, n1⟩ := inB_iff.1 h1
  have hw : IntKind.i64.wrap (n - 1) = n - 1 := IntWalk.i64_in _ ⟨by omega, by omega⟩
  go_enter Try.func45, Try.ntmps45
  go_wp2_with (go_at_call 48; refine (in_any _ _ _ _).mono ?_; rintro e w' ⟨rfl, rfl⟩)
  clear h1 h2
  go_loopw [6, 7, 8, 9] (fun r s i _ wr => ∃ k : Nat, k ≤ l.length ∧ i = .int .i64 k ∧ r = .int .i64 0 ∧ s = .int .i64 0 ∧ Hid (∀ x ∈ l.take k, noteErr n x = 0) ∧ Below w.heap.size w wr) (fun _ _ i _ _ => l.length - (intOf i).toNat)
  case atStart => exact ⟨0, Nat.zero_le _, rfl, rfl, rfl, Lib.hid (by simp), Below.refl _ _⟩
  case round =>
    obtain ⟨k, hk, rfl, rfl, rfl, Hok, hbw⟩ := hrel
    by_cases hlt : k < l.length
    · obtain ⟨b, off, rfl, hb, c0, c1, c2⟩ := notes_cells l k hlt _ B _ _ _ (hr.below (hbw.mono hB))
      have hat := fun h => firstErr_at (n := n) l 0 k hlt Hok.out h
      have htk := List.take_succ_eq_append_getElem hlt
      obtain ⟨x, hx⟩ : ∃ x, x = l[k] := ⟨_, rfl⟩
      rw [← hx] at c0 c1 c2 hat htk
      clear hx
      obtain ⟨kk, ii, aa⟩ := x
      simp only at c0 c1 c2
      have Hat := Lib.hid hat
      have Htk := Lib.hid htk
      clear hat htk
      have hsz := hbw.size
      have fin : ∀ E, noteErr n ⟨kk, ii, aa⟩ = E → E ≠ 0 → S = (k, E) := by
        intro E h0 h1
        rw [Hs.out, Hat.out (by rw [h0]; exact h1), h0, Nat.zero_add]
      have Fin := Lib.hid fin
      clear fin
      by_cases g1 : kk < 1
      · have e0 : Hid (S = (k, 2)) := Lib.hid (Fin.out 2 (by simp [noteErr, g1]) (by decide))
        go_wp2_with fail
        go_ret2
        exact ⟨by rw [e0.out]; rfl, hbw.alloc hsz _⟩
      by_cases g2 : 4 < kk
      · have e0 : Hid (S = (k, 2)) := Lib.hid (Fin.out 2 (by simp [noteErr, g1, g2]) (by decide))
        go_wp2_with fail
        go_ret2
        exact ⟨by rw [e0.out]; rfl, hbw.alloc hsz _⟩
      rcases Bool.eq_false_or_eq_true (inB 0 (n - 1) ii) with g3 | g3
      case inr =>
        have e0 : Hid (S = (k, 7)) := Lib.hid (Fin.out 7 (by simp [noteErr, g1, g2, g3]) (by decide))
        go_wp2_with (go_at_call 48; refine (in_any _ _ _ _).mono ?_; rintro e w' ⟨rfl, rfl⟩)
        go_ret2
        exact ⟨by rw [e0.out]; rfl, hbw.alloc hsz _⟩
      rcases Bool.eq_false_or_eq_true (inB 1 100000000000 aa) with g4 | g4
      case inr =>
        have e0 : Hid (S = (k, 3)) := Lib.hid (Fin.out 3 (by simp [noteErr, g1, g2, g3, g4]) (by decide))
        go_wp2_with (go_at_call 48; refine (in_any _ _ _ _).mono ?_; rintro e w' ⟨rfl, rfl⟩)
        go_ret2
        exact ⟨by rw [e0.out]; rfl, hbw.alloc hsz _⟩
      have e0 : Hid (∀ x ∈ l.take (k + 1), noteErr n x = 0) := Lib.hid (by
        rw [Htk.out]
        intro x hx
        rcases List.mem_append.1 hx with h | h
        · exact Hok.out x h
        · rw [List.mem_singleton.1 h]
          simp [noteErr, g1, g2, g3, g4])
      go_wp2_with (go_at_call 48; refine (in_any _ _ _ _).mono ?_; rintro e w' ⟨rfl, rfl⟩)
      go_round
      case rel => exact ⟨k + 1, by omega, by go_num, rfl, rfl, e0, hbw.alloc hsz _⟩
      case measure => simp [intOf]; omega
    · have e0 : Hid (S = (0, 0)) := Lib.hid (by rw [Hs.out]; exact firstErr_ok l 0 (by have := Hok.out; rwa [List.take_of_length_le (by omega)] at this))
      go_wp2_with fail
      go_ret2
      exact ⟨by rw [e0.out]; rfl, hbw⟩
end Go.Proofs.Ytkbfdgacnoadlaa
