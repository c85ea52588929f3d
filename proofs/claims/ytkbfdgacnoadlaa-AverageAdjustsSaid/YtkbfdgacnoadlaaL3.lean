/- Law AverageAdjusts, its walk. -/
import Derived.Test.YtkbfdgacnoadlaaA17
import Derived.Test.YtkbfdgacnoadlaaR8
import Derived.Test.YtkbfdgacnoadlaaL7
namespace Go.Proofs.Ytkbfdgacnoadlaa
open Go.RowKit

theorem padjust_int (n c : Int) (l : List Nt) (v : Value) (w : World) (B : Nat) (hr : Rd w B 3 v l.length (notesV l)) (hB : B ≤ w.heap.size) (hlen : l.length ≤ 1048576) :
    Calls Try.prog 15 #[.int .i64 n, .int .i64 c, v] w (AdjPost w (adjSpec n c l)) := by
  by_cases h : (earlyErr n c l).2 = 0
  · have h1 := (earlyErr_zero h).1
    obtain ⟨N, rfl⟩ : ∃ N : Nat, n = N := ⟨n.toNat, by have := inB_iff.1 h1; omega⟩
    exact adjust_late N c l v w B hr hB h
  · exact adjust_early n c l v w B hr hB hlen h
theorem radjust_int (n c : Int) (l : List Nt) (v : Value) (w : World) (B : Nat) (hr : Rd w B 3 v l.length (notesV l)) (hB : B ≤ w.heap.size) (hlen : l.length ≤ 1048576) :
    Calls Try.prog 16 #[.int .i64 n, .int .i64 c, v] w (AdjPost w (adjSpec n c l)) := by
  by_cases h : (earlyErr n c l).2 = 0
  · have h1 := (earlyErr_zero h).1
    obtain ⟨N, rfl⟩ : ∃ N : Nat, n = N := ⟨n.toNat, by have := inB_iff.1 h1; omega⟩
    exact radjust_late N c l v w B hr hB h
  · exact radjust_early n c l v w B hr hB hlen h
theorem adjSpec_len (n c : Int) (l : List Nt) : (adjSpec n c l).1.length ≤ 40 := by
  unfold adjSpec
  split
  · rename_i h
    have := inB_iff.1 (earlyErr_zero h).1
    split
    · simp only [accsTo_len]
      omega
    · simp
  · simp

set_option maxHeartbeats 4000000 in
set_option maxRecDepth 100000 in
theorem adjusts_law (n c : Int) (l : List Nt) (v : Value) (w : World) (B : Nat) (hr : Rd w B 3 v l.length (notesV l)) (hB : B ≤ w.heap.size) :
    Calls Try.prog 3 #[.int .i64 n, .int .i64 c, v] w fun e w' => e = .returned (.bool true) ∧ Below w.heap.size w w' := by
  obtain ⟨A, cl, rfl, hnc⟩ := hr.shape
  by_cases h320 : 320 < l.length
  · go_enter Try.func3, Try.ntmps3
    go_wp2_with fail
    refine (known_any _).mono ?_
    rintro e w1 ⟨rfl, hb⟩
    go_wp2_with fail
    go_ret
    exact ⟨rfl, hb⟩
  have c1 := fun (W : World) (u : Value) (h : Rd W W.heap.size 3 u l.length (notesV l)) => padjust_int n c l u W _ h (Nat.le_refl _) (by omega)
  have c2 := fun (W : World) (u : Value) (h : Rd W W.heap.size 3 u l.length (notesV l)) => radjust_int n c l u W _ h (Nat.le_refl _) (by omega)
  have hlen := adjSpec_len n c l
  obtain ⟨S, hS⟩ : ∃ S, S = adjSpec n c l := ⟨_, rfl⟩
  rw [← hS] at c1 c2 hlen
  clear hS
  obtain ⟨out, x, y, z⟩ := S
  unfold AdjPost at c1 c2
  simp only at c1 c2 hlen
  have C1 := Lib.hid c1
  have C2 := Lib.hid c2
  clear c1 c2
  go_enter Try.func3, Try.ntmps3
  go_wp2_with (at_builtin; refine wpList_copy_all note_elem rfl (.tmp 22) (.tmp 23) rfl hr hB rfl rfl (notesV_one l) (by omega) (by omega) ?_; intro v1 w1 hown1 hb1)
  have hr1 := Rd.of_own hown1
  clear hown1
  obtain ⟨A1, k1, rfl, hnc1⟩ := hr1.shape
  go_wp2_with fail
  refine (C1.out _ _ hr1).mono ?_
  rintro e w2 ⟨v2, rfl, ho2, hb2⟩
  have hr2 := Rd.of_own ho2
  clear ho2
  obtain ⟨A2, k2, rfl, hnc2⟩ := hr2.shape
  have b2 : Below w.heap.size w w2 := Below.on hb1 hb2 hb1.size
  have hrw := hr.below (b2.mono hB)
  have hri := hr1.go hb2
  have hB2 : B ≤ w2.heap.size := Nat.le_trans hB b2.size
  clear hr1 hb2 hr hb1
  go_wp2_with fail
  go_loopw [12] (fun i wr => ∃ k : Nat, k ≤ l.length ∧ i = .int .i64 k ∧ Below w2.heap.size w2 wr) (fun i _ => l.length - (intOf i).toNat)
  case atStart => exact ⟨0, Nat.zero_le _, rfl, Below.refl _ _⟩
  case round =>
    obtain ⟨k, hk, rfl, hbw⟩ := hrel
    have hsz := hbw.size
    by_cases hlt : k < l.length
    · obtain ⟨b, off, rfl, hbB, c0, c1, c2⟩ := notes_cells l k hlt _ B _ _ _ (hrw.below (hbw.mono hB2))
      obtain ⟨b', off', rfl, hbB', d0, d1, d2⟩ := notes_cells l k hlt _ _ _ _ _ (hri.below hbw)
      obtain ⟨q, hx⟩ : ∃ q, q = l[k] := ⟨_, rfl⟩
      rw [← hx] at c0 c1 c2 d0 d1 d2
      clear hx
      obtain ⟨xp, xt, xl⟩ := q
      simp only at c0 c1 c2 d0 d1 d2
      have i0 : (0 : Int) ≤ (k : Int) := Int.natCast_nonneg _
      have i1 : (k : Int) < (l.length : Int) := by omega
      go_wp2_with fail
      go_quiet (fail)
      go_wp2_with fail
      go_roundw
      case rel => exact ⟨k + 1, by omega, by go_num, below_drewN hbw _⟩
      case measure => simp [intOf]; omega
    · have hrx := (hrw.below (hbw.mono hB2)).more (Nat.le_trans hB2 hsz)
      have hr2x := hr2.go hbw
      have b3 := Below.on b2 hbw b2.size
      clear hrw hri hr2 hbw
      go_wp2_with fail
      refine (C2.out _ _ hrx).mono ?_
      rintro e w4 ⟨v4, rfl, ho4, hb4⟩
      have hr4 := Rd.of_own ho4
      clear ho4 hrx
      obtain ⟨A4, k4, rfl, hnc4⟩ := hr4.shape
      have hr2y := hr2x.go hb4
      have b4 := Below.on b3 hb4 b3.size
      clear hr2x hb4 b3
      go_wp2_with fail
      go_loopw [17] (fun i wi => ∃ j : Nat, j ≤ out.length ∧ i = .int .i64 j ∧ Below w4.heap.size w4 wi) (fun i _ => out.length - (intOf i).toNat)
      case atStart => exact ⟨0, Nat.zero_le _, rfl, Below.refl _ _⟩
      case round =>
        obtain ⟨j, hj, rfl, hbi⟩ := hrel
        have hszi := hbi.size
        by_cases hjl : j < out.length
        · obtain ⟨b, off, rfl, hbB, c0, c1, c2, c3⟩ := accs_cells out j hjl _ _ _ _ _ (hr2y.below hbi)
          obtain ⟨b', off', rfl, hbB', d0, d1, d2, d3⟩ := accs_cells out j hjl _ _ _ _ _ (hr4.below hbi)
          obtain ⟨q, hx⟩ : ∃ q, q = out[j] := ⟨_, rfl⟩
          rw [← hx] at c0 c1 c2 c3 d0 d1 d2 d3
          clear hx
          obtain ⟨qa, qb, qc, qd⟩ := q
          simp only at c0 c1 c2 c3 d0 d1 d2 d3
          have i0 : (0 : Int) ≤ (j : Int) := Int.natCast_nonneg _
          have i1 : (j : Int) < (out.length : Int) := by omega
          go_wp2_with fail
          go_quiet (fail)
          go_wp2_with fail
          go_roundw
          case rel => exact ⟨j + 1, by omega, by go_num, below_drewN hbi _⟩
          case measure => simp [intOf]; omega
        · have b5 := Below.on b4 hbi b4.size
          go_wp2_with fail
          refine (known_any _).mono ?_
          rintro e w6 ⟨rfl, hb6⟩
          go_wp2_with fail
          go_ret
          exact ⟨rfl, b5.trans (hb6.mono b5.size)⟩
end Go.Proofs.Ytkbfdgacnoadlaa
