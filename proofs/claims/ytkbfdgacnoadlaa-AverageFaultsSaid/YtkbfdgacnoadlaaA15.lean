/- What went out of a tank between two soundings, and Burned. -/
import Derived.Test.YtkbfdgacnoadlaaA14
import Derived.Handy
namespace Go.Proofs.Ytkbfdgacnoadlaa
open Go.RowKit

theorem keepc {w W : World} {b o : Nat} {v : Value} (hb : b < w.heap.size) (hc : w.cell? ⟨b, o, none⟩ = some v) (hB : Below w.heap.size w W) : W.cell? ⟨b, o, none⟩ = some v :=
  (hB.cell (p := ⟨b, o, none⟩) hb).trans hc

set_option maxHeartbeats 4000000 in
set_option maxRecDepth 100000 in
theorem gone_any (g n b1 o1 k1 b2 o2 k2 i j : Nat) (ilo ihi jlo jhi ti tj : Int) (w : World) (hg : g < w.heap.size) (hb1 : b1 < w.heap.size) (hb2 : b2 < w.heap.size)
    (h0 : w.cell? ⟨g, 0, none⟩ = some (.slice (some ⟨b1, o1, none⟩) n k1)) (h1 : w.cell? ⟨g, 1, none⟩ = some (.slice (some ⟨b2, o2, none⟩) n k2))
    (hi1 : w.cell? ⟨b1, o1 + i * 3 + 1, none⟩ = some (.int .i64 ilo)) (hi2 : w.cell? ⟨b1, o1 + i * 3 + 2, none⟩ = some (.int .i64 ihi))
    (hj1 : w.cell? ⟨b1, o1 + j * 3 + 1, none⟩ = some (.int .i64 jlo)) (hj2 : w.cell? ⟨b1, o1 + j * 3 + 2, none⟩ = some (.int .i64 jhi))
    (hti : w.cell? ⟨b2, o2 + i, none⟩ = some (.int .i64 ti)) (htj : w.cell? ⟨b2, o2 + j, none⟩ = some (.int .i64 tj))
    (hin : i < n) (hjn : j < n) (q1 : 0 ≤ ilo ∧ ilo ≤ 10000000) (q2 : 0 ≤ ihi ∧ ihi ≤ 10000000) (q3 : 0 ≤ jlo ∧ jlo ≤ 10000000) (q4 : 0 ≤ jhi ∧ jhi ≤ 10000000) (q5 : 0 ≤ ti ∧ ti ≤ 1000000000) (q6 : 0 ≤ tj ∧ tj ≤ 1000000000) :
    Calls Try.prog 53 #[.pointer (some ⟨g, 0, none⟩), .int .i64 i, .int .i64 j] w fun e w' => e = .returned (.agg #[.int .i64 (ilo + (tj - ti) - jhi), .int .i64 (ihi + (tj - ti) - jlo)]) ∧ Below w.heap.size w w' := by
  have Hh0 := Lib.hid h0
  have Hh1 := Lib.hid h1
  have Hhi1 := Lib.hid hi1
  have Hhi2 := Lib.hid hi2
  have Hhj1 := Lib.hid hj1
  have Hhj2 := Lib.hid hj2
  have Hhti := Lib.hid hti
  have Hhtj := Lib.hid htj
  have i0 : (0 : Int) ≤ (i : Int) := Int.natCast_nonneg _
  have j0 : (0 : Int) ≤ (j : Int) := Int.natCast_nonneg _
  have i1 : (i : Int) < (n : Int) := by omega
  have j1 : (j : Int) < (n : Int) := by omega
  have s1 : IntKind.i64.wrap (tj - ti) = tj - ti := IntWalk.i64_in _ ⟨by omega, by omega⟩
  go_enter Try.func53, Try.ntmps53
  go_wp2_with fail
  go_region_held3 (fun w' => w'.cell? ⟨g, 0, none⟩ = some (.slice (some ⟨b1, o1, none⟩) n k1) ∧ w'.cell? ⟨g, 1, none⟩ = some (.slice (some ⟨b2, o2, none⟩) n k2) ∧
      w'.cell? ⟨b1, o1 + i * 3 + 1, none⟩ = some (.int .i64 ilo) ∧ w'.cell? ⟨b1, o1 + i * 3 + 2, none⟩ = some (.int .i64 ihi) ∧ w'.cell? ⟨b1, o1 + j * 3 + 1, none⟩ = some (.int .i64 jlo) ∧ w'.cell? ⟨b1, o1 + j * 3 + 2, none⟩ = some (.int .i64 jhi) ∧
      w'.cell? ⟨b2, o2 + i, none⟩ = some (.int .i64 ti) ∧ w'.cell? ⟨b2, o2 + j, none⟩ = some (.int .i64 tj))
    (first | (go_split_ands; exact ⟨keepc hg Hh0.out (by go_grown), keepc hg Hh1.out (by go_grown), keepc hb1 Hhi1.out (by go_grown), keepc hb1 Hhi2.out (by go_grown), keepc hb1 Hhj1.out (by go_grown), keepc hb1 Hhj2.out (by go_grown), keepc hb2 Hhti.out (by go_grown), keepc hb2 Hhtj.out (by go_grown)⟩) | go_keep) (fail)
  all_goals
    clear h0 h1 hi1 hi2 hj1 hj2 hti htj Hh0 Hh1 Hhi1 Hhi2 Hhj1 Hhj2 Hhti Hhtj
    go_wp2_with fail
    exact bodyPost_ret (v := .agg #[.int .i64 (ilo + (tj - ti) - jhi), .int .i64 (ihi + (tj - ti) - jlo)]) (by simp [results, Try.results53, go_sem]) rfl ⟨rfl, by go_grown⟩
end Go.Proofs.Ytkbfdgacnoadlaa
