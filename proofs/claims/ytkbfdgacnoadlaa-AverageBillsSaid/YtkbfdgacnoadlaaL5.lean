/- Law AverageDues, its walk. -/
import Derived.Test.YtkbfdgacnoadlaaA17
import Derived.Test.YtkbfdgacnoadlaaR6
import Derived.Test.YtkbfdgacnoadlaaBase6
namespace Go.Proofs.Ytkbfdgacnoadlaa
open Go.RowKit

theorem pass_info : (Try.prog.info? 46).map (fun i => (i.zero, i.size, i.bytes)) = some (some (.agg #[.int .i64 0, .int .i64 0, .int .i64 0]), 3, 24) := by kernel_rfl
theorem pass_elem : Elem Try.prog 42 46 3 24 := Elem.mk' Try.underlying42 pass_info rfl (by omega)

theorem eqL_refl (l : List Int) : eqL l l = true := by simp [eqL]

theorem pdues_any (t : Tf) (n : Int) (l : List Ps) (v : Value) (w : World) (B : Nat) (hr : Rd w B 3 v l.length (passesV l)) (hB : B ≤ w.heap.size) (hlen : l.length ≤ 1048576) :
    Calls Try.prog 21 #[.agg (tfV t), .int .i64 n, v] w (DuesPost w (duesSpec t n l)) := by
  by_cases h : tfErr t ≠ 0 ∨ inB 1 40 n = false ∨ 300 < l.length
  · exact dues_early t n l v w B hr hlen h
  · have h1 : tfErr t = 0 := Classical.not_not.1 fun k => h (.inl k)
    have h2 : inB 1 40 n = true := by
      rcases Bool.eq_false_or_eq_true (inB 1 40 n) with k | k
      · exact k
      · exact absurd (.inr (.inl k)) h
    have h3 : ¬ 300 < l.length := fun k => h (.inr (.inr k))
    obtain ⟨N, rfl⟩ : ∃ N : Nat, n = N := ⟨n.toNat, by have := inB_iff.1 h2; omega⟩
    exact dues_late t N l v w B hr hB h1 h2 (by omega)
theorem rdues_any (t : Tf) (n : Int) (l : List Ps) (v : Value) (w : World) (B : Nat) (hr : Rd w B 3 v l.length (passesV l)) (hB : B ≤ w.heap.size) (hlen : l.length ≤ 1048576) :
    Calls Try.prog 22 #[.agg (tfV t), .int .i64 n, v] w (DuesPost w (duesSpec t n l)) := by
  by_cases h : tfErr t ≠ 0 ∨ inB 1 40 n = false ∨ 300 < l.length
  · exact rdues_early t n l v w B hr hlen h
  · have h1 : tfErr t = 0 := Classical.not_not.1 fun k => h (.inl k)
    have h2 : inB 1 40 n = true := by
      rcases Bool.eq_false_or_eq_true (inB 1 40 n) with k | k
      · exact k
      · exact absurd (.inr (.inl k)) h
    have h3 : ¬ 300 < l.length := fun k => h (.inr (.inr k))
    obtain ⟨N, rfl⟩ : ∃ N : Nat, n = N := ⟨n.toNat, by have := inB_iff.1 h2; omega⟩
    exact rdues_late t N l v w B hr hB h1 h2 (by omega)
theorem duesSpec_len (t : Tf) (n : Int) (l : List Ps) : (duesSpec t n l).1.length ≤ 40 := by
  unfold duesSpec
  split
  · rename_i h
    simp only [duesTo_len]
    unfold duesErr at h
    split at h
    · split at h
      · simp at h
      · rename_i g
        have := inB_iff.1 (by simpa using g)
        omega
    · simp at h
  · simp

theorem tfc {w : World} {g : Nat} {a b c d e f : Int} (h : Blk w g 41 #[.int .i64 a, .int .i64 b, .int .i64 c, .int .i64 d, .int .i64 e, .int .i64 f]) : w.cell? ⟨g, 0, none⟩ = some (.int .i64 a) ∧ w.cell? ⟨g, 1, none⟩ = some (.int .i64 b) ∧ w.cell? ⟨g, 2, none⟩ = some (.int .i64 c) ∧
    w.cell? ⟨g, 3, none⟩ = some (.int .i64 d) ∧ w.cell? ⟨g, 4, none⟩ = some (.int .i64 e) ∧ w.cell? ⟨g, 5, none⟩ = some (.int .i64 f) :=
  ⟨h.cell 0, h.cell 1, h.cell 2, h.cell 3, h.cell 4, h.cell 5⟩

set_option maxHeartbeats 4000000 in
set_option maxRecDepth 100000 in
theorem dues_law (t : Tf) (n : Int) (l : List Ps) (v : Value) (w : World) (B : Nat) (hr : Rd w B 3 v l.length (passesV l)) (hB : B ≤ w.heap.size) :
    Calls Try.prog 5 #[.agg (tfV t), .int .i64 n, v] w fun e w' => e = .returned (.bool true) ∧ Below w.heap.size w w' := by
  obtain ⟨A, c, rfl, hnc⟩ := hr.shape
  by_cases h320 : 320 < l.length
  · unfold tfV
    go_enter Try.func5, Try.ntmps5
    go_wp2_with fail
    refine (known_any _).mono ?_
    rintro e w1 ⟨rfl, hb⟩
    go_wp2_with fail
    go_ret
    exact ⟨rfl, ((Below.refl _ _).alloc (Nat.le_refl _) _).trans (hb.mono (by simp))⟩
  have c1 := fun (W : World) (u : Value) (h : Rd W W.heap.size 3 u l.length (passesV l)) => pdues_any t n l u W _ h (Nat.le_refl _) (by omega)
  have c2 := fun (W : World) (u : Value) (h : Rd W W.heap.size 3 u l.length (passesV l)) => rdues_any t n l u W _ h (Nat.le_refl _) (by omega)
  have hlen := duesSpec_len t n l
  obtain ⟨S, hS⟩ : ∃ S, S = duesSpec t n l := ⟨_, rfl⟩
  rw [← hS] at c1 c2 hlen
  clear hS
  obtain ⟨out, x, y⟩ := S
  unfold DuesPost at c1 c2
  obtain ⟨tb, tt, tl, tp, tof, tm⟩ := t
  unfold tfV at c1 c2 ⊢
  simp only at c1 c2 hlen ⊢
  have C1 := Lib.hid c1
  have C2 := Lib.hid c2
  clear c1 c2
  have hq0 := Blk.new w 41 #[.int .i64 tb, .int .i64 tt, .int .i64 tl, .int .i64 tp, .int .i64 tof, .int .i64 tm]
  have hr0 := hr.alloc hB (.cells #[.int .i64 tb, .int .i64 tt, .int .i64 tl, .int .i64 tp, .int .i64 tof, .int .i64 tm] 41)
  have b0 : Below w.heap.size w (w.alloc (.cells #[.int .i64 tb, .int .i64 tt, .int .i64 tl, .int .i64 tp, .int .i64 tof, .int .i64 tm] 41)) := (Below.refl _ _).alloc (Nat.le_refl _) _
  go_enter Try.func5, Try.ntmps5
  go_wp2_with (at_builtin; refine wpList_copy_at pass_elem rfl (.tmp 19) (.tmp 20) rfl hr0 (by simp; omega) (w.heap.size + 1) rfl (by simp) rfl (passesV_one l) (by omega) (by omega) ?_; intro v1 w1 hown1 hb1; obtain ⟨q0, q1, q2, q3, q4, q5⟩ := tfc (hq0.below hb1 hq0.lt))
  have hr1 := Rd.of_own hown1
  have b1 := b0.trans (hb1.mono (by simp))
  have hq1 := hq0.below hb1 hq0.lt
  clear hown1 hr0 hb1 hq0 b0
  obtain ⟨A1, k1, rfl, hnc1⟩ := hr1.shape
  go_wp2_with fail
  refine (C1.out _ _ hr1).mono ?_
  rintro e w2 ⟨v2, rfl, ho2, hb2⟩
  have hr2 := Rd.of_own ho2
  clear ho2 q0 q1 q2 q3 q4 q5
  obtain ⟨A2, k2, rfl, hnc2⟩ := hr2.shape
  have b2 : Below w.heap.size w w2 := Below.on b1 hb2 b1.size
  have hq2 := hq1.below hb2 hq1.lt
  have hrw := hr.below (b2.mono hB)
  have hri := hr1.go hb2
  have hB2 : B ≤ w2.heap.size := Nat.le_trans hB b2.size
  clear hr1 hb2 hr hq1 b1
  go_wp2_with fail
  go_loopw [11] (fun i wr => ∃ k : Nat, k ≤ l.length ∧ i = .int .i64 k ∧ Below w2.heap.size w2 wr) (fun i _ => l.length - (intOf i).toNat)
  case atStart => exact ⟨0, Nat.zero_le _, rfl, Below.refl _ _⟩
  case round =>
    obtain ⟨k, hk, rfl, hbw⟩ := hrel
    have hsz := hbw.size
    by_cases hlt : k < l.length
    · obtain ⟨b, off, rfl, hbB, c0, c1, c2⟩ := passes_cells l k hlt _ B _ _ _ (hrw.below (hbw.mono hB2))
      obtain ⟨b', off', rfl, hbB', d0, d1, d2⟩ := passes_cells l k hlt _ _ _ _ _ (hri.below hbw)
      obtain ⟨x, hx⟩ : ∃ x, x = l[k] := ⟨_, rfl⟩
      rw [← hx] at c0 c1 c2 d0 d1 d2
      clear hx
      obtain ⟨xp, xt, xl⟩ := x
      simp only at c0 c1 c2 d0 d1 d2
      have i0 : (0 : Int) ≤ (k : Int) := Int.natCast_nonneg _
      have i1 : (k : Int) < (l.length : Int) := by omega
      go_wp2_with fail
      go_quiet (fail)
      go_wp2_with fail
      go_roundw
      case rel => exact ⟨k + 1, by omega, by go_num, below_drewN hbw _⟩
      case measure => simp [intOf]; omega
    · have hqr := hq2.below hbw hq2.lt
      obtain ⟨q0, q1, q2, q3, q4, q5⟩ := tfc hqr
      have hrx := (hrw.below (hbw.mono hB2)).more (Nat.le_trans hB2 hsz)
      have hr2x := hr2.go hbw
      have b3 := Below.on b2 hbw b2.size
      clear hrw hri hr2 hq2 hbw
      go_wp2_with fail
      refine (C2.out _ _ hrx).mono ?_
      rintro e w4 ⟨v4, rfl, ho4, hb4⟩
      have hr4 := Rd.of_own ho4
      clear ho4 q0 q1 q2 q3 q4 q5 hrx
      obtain ⟨A4, k4, rfl, hnc4⟩ := hr4.shape
      have hr2y := hr2x.go hb4
      have b4 := Below.on b3 hb4 b3.size
      clear hr2x hb4
      go_wp2_with fail
      refine (equal_any out out _ _ out.length out.length _ _ _ hr2y hr4 (Nat.le_refl _) (Nat.le_refl _) (by omega)).mono ?_
      rw [eqL_refl]
      rintro e w5 ⟨rfl, hb5⟩
      have b5 := Below.on b4 hb5 b4.size
      go_wp2_with fail
      refine (known_any _).mono ?_
      rintro e w6 ⟨rfl, hb6⟩
      go_wp2_with fail
      go_ret
      exact ⟨rfl, b5.trans (hb6.mono b5.size)⟩
end Go.Proofs.Ytkbfdgacnoadlaa
