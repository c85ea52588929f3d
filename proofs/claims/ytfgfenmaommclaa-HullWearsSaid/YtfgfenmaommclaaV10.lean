/- River: the search in a curve. -/
import Derived.Test.YtfgfenmaommclaaV2
namespace Go.Proofs.Ytfgfenmaommclaa
open Go.RowKit

set_option maxHeartbeats 1000000 in
theorem at1_any (c : List Row) (A : Option Addr) (cp : Nat) (p q : Addr) (f : Int) (i : Nat) (w : World) (B : Nat) (hr : Rd w B 2 (.slice A c.length cp) c.length (rowsC c)) (hi : i < c.length)
    (hp : w.cell? p = some (.slice A c.length cp)) (hq : w.cell? q = some (.int .i64 f)) :
    Calls Try.prog 103 #[.int .i64 i, .pointer (some p), .pointer (some q)] w fun e w' => e = .returned (.bool (decide (f < (c.getD i row0).flow))) ∧ Below w.heap.size w w' := by
  obtain ⟨b, off, rfl, hb, c0, _⟩ := rows_cells c i hi _ _ _ _ _ hr
  obtain ⟨x, hx⟩ : ∃ x, x = (c.getD i row0).flow := ⟨_, rfl⟩
  rw [← hx] at c0 ⊢
  clear hx
  have h0 : (0 : Int) ≤ (i : Int) := by omega
  have h1 : (i : Int) < (c.length : Int) := by omega
  go_enter Try.func103, Try.ntmps103
  go_wp2_with fail
  go_quiet (fail)
  go_wp2_with fail
  go_ret
  exact ⟨rfl, below_drewN (Below.refl _ _) _⟩

theorem next_iff {c : List Row} (h : curveB c = true) {f : Int} {i : Nat} (hi : i < c.length) : f < (c.getD i row0).flow ↔ nextR c f ≤ i := by
  constructor
  · intro h1
    rcases Nat.lt_or_ge i (nextR c f) with h2 | h2
    · have := nextR_lt c f i h2
      omega
    · exact h2
  · intro h1
    exact nextR_ge h h1 hi

set_option maxHeartbeats 2000000 in
theorem search_any (c : List Row) (A : Option Addr) (cp : Nat) (p q : Addr) (f : Int) (w : World) (B : Nat) (hr : Rd w B 2 (.slice A c.length cp) c.length (rowsC c)) (hB : B ≤ w.heap.size) (hl : c.length ≤ 1048576) (hc : curveB c = true)
    (hp : w.cell? p = some (.slice A c.length cp)) (hq : w.cell? q = some (.int .i64 f)) (hpb : p.block < w.heap.size) (hqb : q.block < w.heap.size) :
    Calls Try.prog 83 #[.int .i64 c.length, .func (.func 103) #[] #[.pointer (some p), .pointer (some q)]] w fun e w' => e = .returned (.int .i64 (nextR c f)) ∧ Below w.heap.size w w' := by
  have Hc := Lib.hid hc
  clear hc
  have hnl := nextR_le c f
  obtain ⟨N, eN⟩ : ∃ N, N = nextR c f := ⟨_, rfl⟩
  have HN := Lib.hid eN
  rw [← eN] at hnl ⊢
  clear eN
  go_enter Try.func83, Try.ntmps83
  go_wp2_with fail
  go_loopw [5, 6, 7] (fun i j _ wr => ∃ a b : Nat, i = .int .i64 a ∧ j = .int .i64 b ∧ a ≤ N ∧ N ≤ b ∧ b ≤ c.length ∧ Below w.heap.size w wr) (fun i j _ _ => (intOf j).toNat - (intOf i).toNat)
  case atStart => exact ⟨0, c.length, rfl, rfl, Nat.zero_le _, hnl, Nat.le_refl _, Below.refl _ _⟩
  case round =>
    obtain ⟨a, b, rfl, rfl, ha, hb, hbl, hbw⟩ := hrel
    by_cases hab : a < b
    · have hh : (a + b) / 2 < c.length := by omega
      have hcall := at1_any c A cp p q f ((a + b) / 2) wr B (hr.below (hbw.mono hB)) hh ((hbw.cell hpb).trans hp) ((hbw.cell hqb).trans hq)
      rw [show (((a + b) / 2 : Nat) : Int) = ((a : Int) + b) / 2 by omega] at hcall
      have hi := next_iff Hc.out (f := f) hh
      rw [← HN.out] at hi
      have Hcall := Lib.hid hcall
      have Hi := Lib.hid hi
      clear hcall hi
      by_cases hx : f < (c.getD ((a + b) / 2) row0).flow
      · rw [decide_eq_true hx] at Hcall
        have hN := Hi.out.1 hx
        clear hx Hi
        go_wp2_with fail
        refine Hcall.out.mono ?_
        rintro e w1 ⟨rfl, hb1⟩
        go_wp2_with fail
        go_roundw
        case rel => exact ⟨a, (a + b) / 2, rfl, by go_num, ha, by omega, by omega, hbw.trans (hb1.mono hbw.size)⟩
        case measure => simp [intOf]; omega
      · rw [decide_eq_false hx] at Hcall
        have hN : ¬ N ≤ (a + b) / 2 := fun h => hx (Hi.out.2 h)
        clear hx Hi
        go_wp2_with fail
        refine Hcall.out.mono ?_
        rintro e w1 ⟨rfl, hb1⟩
        go_wp2_with fail
        go_roundw
        case rel => exact ⟨(a + b) / 2 + 1, b, by go_num, rfl, by omega, by omega, by omega, hbw.trans (hb1.mono hbw.size)⟩
        case measure => simp [intOf]; omega
    · have e1 : a = N := by omega
      go_wp2_with fail
      go_ret
      exact ⟨ret_int (by rw [e1]), hbw⟩
end Go.Proofs.Ytfgfenmaommclaa
