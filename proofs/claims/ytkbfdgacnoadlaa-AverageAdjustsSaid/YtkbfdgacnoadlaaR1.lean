/- The reference's Of: the sum of an interest's notes of a kind. -/
import Derived.Test.YtkbfdgacnoadlaaA6
namespace Go.Proofs.Ytkbfdgacnoadlaa
open Go.RowKit

set_option maxHeartbeats 1000000 in
theorem of_any (N : Int) (l : List Nt) (kind j : Int) (v : Value) (n : Nat) (w : World) (B : Nat) (hr : Rd w B 3 v n (notesV l)) (hn : n ≤ 300) (hok : ∀ x ∈ l, noteErr N x = 0) :
    Calls Try.prog 46 #[v, .int .i64 kind, .int .i64 j] w fun e w' => e = .returned (.int .i64 (ofL l kind j)) ∧ w = w' := by
  obtain ⟨A, c, rfl, hnc⟩ := hr.shape
  have hl : n = l.length := by have := hr.len; rw [notesV_len] at this; omega
  subst hl
  have Hok := Lib.hid hok
  clear hok
  go_enter Try.func46, Try.ntmps46
  go_wp2
  go_loop [7, 8] (fun s i => ∃ k : Nat, k ≤ l.length ∧ i = .int .i64 k ∧ s = .int .i64 (ofL (l.take k) kind j)) (fun _ i => l.length - (intOf i).toNat)
  case atStart => exact ⟨0, Nat.zero_le _, rfl, by simp [ofL]⟩
  case round =>
    obtain ⟨k, hk, rfl, rfl⟩ := hrel
    by_cases hlt : k < l.length
    · obtain ⟨b, off, rfl, hb, c0, c1, c2⟩ := notes_cells l k hlt _ B _ _ _ hr
      have htk := List.take_succ_eq_append_getElem hlt
      have hx := noteErr_ok (Hok.out l[k] (by simp))
      obtain ⟨o0, o1⟩ := ofL_bd (n := N) (l := l.take k) (fun x hx => Hok.out x (List.mem_of_mem_take hx)) kind j
      have ol : (l.take k).length ≤ 300 := by rw [List.length_take]; omega
      have hsn := ofL_snoc (l.take k) l[k] kind j
      rw [← htk] at hsn
      clear htk
      obtain ⟨x, ex⟩ : ∃ x, x = l[k] := ⟨_, rfl⟩
      rw [← ex] at c0 c1 c2 hx hsn
      clear ex
      obtain ⟨kk, ii, aa⟩ := x
      simp only at c0 c1 c2 hx hsn
      obtain ⟨old, eo⟩ : ∃ old, old = ofL (l.take k) kind j := ⟨_, rfl⟩
      rw [← eo] at o0 o1 hsn ⊢
      clear eo
      have i3 : IntKind.i64.wrap (old + aa) = old + aa := IntWalk.i64_in _ ⟨by omega, by omega⟩
      by_cases h1 : kk = kind
      · by_cases h2 : ii = j
        · rw [if_pos ⟨h1, h2⟩] at hsn
          have Hsn := Lib.hid hsn
          clear hsn
          subst h1 h2
          go_wp2
          go_round
          case rel => exact ⟨k + 1, by omega, by go_num, by rw [Hsn.out]⟩
          case measure => simp [intOf]; omega
        · rw [if_neg (fun h => h2 h.2)] at hsn
          have Hsn := Lib.hid hsn
          clear hsn
          subst h1
          go_wp2
          go_round
          case rel => exact ⟨k + 1, by omega, by go_num, by rw [Hsn.out]; simp⟩
          case measure => simp [intOf]; omega
      · rw [if_neg (fun h => h1 h.1)] at hsn
        have Hsn := Lib.hid hsn
        clear hsn
        go_wp2
        go_round
        case rel => exact ⟨k + 1, by omega, by go_num, by rw [Hsn.out]; simp⟩
        case measure => simp [intOf]; omega
    · go_wp2
      go_ret
      exact ⟨ret_int (by rw [List.take_of_length_le (by omega)]), rfl⟩
end Go.Proofs.Ytkbfdgacnoadlaa
