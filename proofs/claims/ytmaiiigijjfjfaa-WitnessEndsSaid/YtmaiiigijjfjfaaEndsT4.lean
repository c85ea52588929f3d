/- X30, WWg, WTd, WTe, ExX31, X31, WLift3, WLift4, X25, X26, WWq, X27, WTr, WEn, ExX32, ExX33, X33: what WitnessEndsProof needs of them (merged by trimpack.py). -/
import Derived.Test.YtmaiiigijjfjfaaEndsT3
set_option linter.unusedVariables false
set_option linter.unusedSimpArgs false
namespace Go.Proofs.Ytmaiiigijjfjfaa
open Go Go.RowKit
set_option maxHeartbeats 1000000 in
theorem fits_seen (e : Nat) (k : Nat) (a : Int) (lo hi : Int) (M F : List Int) (vm vf : Value) (w : World) (B : Nat) (hm : Rd w B 1 vm M.length (ints M)) (hf : Rd w B 1 vf F.length (ints F)) (hB : B ≤ w.heap.size) (he : e < M.length) (hk : k < F.length) (hme : -1000000 ≤ M.getD e 0 ∧ M.getD e 0 ≤ 1000000) (hv : -1000000 ≤ F.getD k 0 ∧ F.getD k 0 ≤ 1000000) :
    Calls Try.prog 57 #[.agg #[.int .i64 1, .int .i64 (e : Nat), .int .i64 (k : Nat), .int .i64 a, .int .i64 lo, .int .i64 hi], vm, vf] w fun e_ w' => e_ = .returned (.bool (decide (lo ≤ M.getD e 0 + F.getD k 0) && decide (M.getD e 0 + F.getD k 0 ≤ hi))) ∧ Below w.heap.size w w' := by
  obtain ⟨Am, cm_, rfl, _⟩ := hm.shape
  obtain ⟨Af, cf_, rfl, _⟩ := hf.shape
  obtain ⟨bm, om, e1, _, ce⟩ := ints_cells M e he w B _ _ _ hm
  subst e1
  obtain ⟨bv, ov, e2, _, cv⟩ := ints_cells F k hk w B _ _ _ hf
  subst e2
  have hbw := Below.refl w.heap.size w
  refine EC.enter 81 Try.func57 rfl rfl rfl ?_
  refine EC.seq ?_
  refine EC.region ?_
  refine EL.newP (bx_71 rfl) rfl ?_
  intro g1 w1 q1 hb1 hg1 hl1
  have bhbw_1 := Nat.le_trans hbw.size hg1
  replace hbw := Below.on hbw hb1 hbw.size
  clear hb1 hg1 hl1
  refine EL.val (x_assign rfl) rfl ?_
  refine EL.nil ?_
  refine EX.seq ?_
  refine EC.seq ?_
  refine EC.seq ?_
  refine EC.region ?_
  refine EL.val (fa_71_1 rfl) rfl ?_
  refine EL.val (ld_3 rfl (q1.at (j := 1) rfl)) rfl ?_
  refine EL.val (x_lss (r := false) rfl rfl (decide_eq_false (by omega))) rfl ?_
  refine EL.val (x_move rfl) rfl ?_
  refine EL.valg rfl rfl (fa_71_1 rfl) rfl ?_
  refine EL.valg rfl rfl (ld_3 rfl (q1.at (j := 1) rfl)) rfl ?_
  refine EL.valg rfl rfl (x_move rfl) rfl ?_
  refine EL.valg rfl rfl (ln_26 rfl) rfl ?_
  refine EL.valg rfl rfl (x_geq (r := false) rfl rfl (decide_eq_false (by omega))) rfl ?_
  refine EL.val (x_pick_f rfl rfl) rfl ?_
  refine EL.nil ?_
  refine EX.seq ?_
  refine EC.no rfl ?_
  refine EC.skip ?_
  refine EX.seq ?_
  refine EC.seq ?_
  refine EC.region ?_
  refine EL.val (x_move rfl) rfl ?_
  refine EL.val (fa_71_1 rfl) rfl ?_
  refine EL.val (ld_3 rfl (q1.at (j := 1) rfl)) rfl ?_
  refine EL.val (ix_26 rfl rfl he) rfl ?_
  refine EL.val (ld_3 rfl (below_load hbw ce)) rfl ?_
  refine EL.val (x_assign rfl) rfl ?_
  refine EL.nil ?_
  refine EX.seq ?_
  refine EC.seq ?_
  refine EC.block ?_
  refine EC.seq ?_
  refine EC.region ?_
  refine EL.val (fa_71_0 rfl) rfl ?_
  refine EL.val (ld_69 rfl (q1.at (j := 0) rfl)) rfl ?_
  refine EL.val (x_eql (r := true) rfl rfl (decide_eq_true (by decide))) rfl ?_
  refine EL.val (x_move rfl) rfl ?_
  refine EL.valg rfl rfl (fa_71_2 rfl) rfl ?_
  refine EL.valg rfl rfl (ld_3 rfl (q1.at (j := 2) rfl)) rfl ?_
  refine EL.valg rfl rfl (x_geq (r := true) rfl rfl (decide_eq_true (by omega))) rfl ?_
  refine EL.val (x_pick_t rfl rfl) rfl ?_
  refine EL.val (x_move rfl) rfl ?_
  refine EL.valg rfl rfl (fa_71_2 rfl) rfl ?_
  refine EL.valg rfl rfl (ld_3 rfl (q1.at (j := 2) rfl)) rfl ?_
  refine EL.valg rfl rfl (x_move rfl) rfl ?_
  refine EL.valg rfl rfl (ln_26 rfl) rfl ?_
  refine EL.valg rfl rfl (x_lss (r := true) rfl rfl (decide_eq_true (by omega))) rfl ?_
  refine EL.val (x_pick_t rfl rfl) rfl ?_
  refine EL.val (x_assign rfl) rfl ?_
  refine EL.nil ?_
  refine EX.seq ?_
  refine EC.yes rfl ?_
  refine EC.region ?_
  refine EL.val (x_move rfl) rfl ?_
  refine EL.val (x_move rfl) rfl ?_
  refine EL.val (fa_71_2 rfl) rfl ?_
  refine EL.val (ld_3 rfl (q1.at (j := 2) rfl)) rfl ?_
  refine EL.val (ix_26 rfl rfl hk) rfl ?_
  refine EL.val (ld_3 rfl (below_load hbw cv)) rfl ?_
  refine EL.val (x_add rfl rfl (c := M.getD e 0 + F.getD k 0) (IntWalk.i64_in _ ⟨by omega, by omega⟩)) rfl ?_
  refine EL.val (x_assign rfl) rfl ?_
  refine EL.nil ?_
  refine EX.blk ?_
  refine EX.seq ?_
  refine EC.seq ?_
  refine EC.region ?_
  refine EL.val (x_move rfl) rfl ?_
  refine EL.val (fa_71_4 rfl) rfl ?_
  refine EL.val (fa_54_0 rfl) rfl ?_
  refine EL.val (ld_3 rfl (q1.at (j := 4) rfl)) rfl ?_
  by_cases h1 : lo ≤ M.getD e 0 + F.getD k 0
  ·
    refine EL.val (x_geq rfl rfl (by first | assumption | exact decide_eq_true (by omega))) rfl ?_
    refine EL.val (x_move rfl) rfl ?_
    refine EL.valg rfl rfl (x_move rfl) rfl ?_
    refine EL.valg rfl rfl (fa_71_4 rfl) rfl ?_
    refine EL.valg rfl rfl (fa_54_1 rfl) rfl ?_
    refine EL.valg rfl rfl (ld_3 rfl (q1.at (j := 5) rfl)) rfl ?_
    by_cases h2 : M.getD e 0 + F.getD k 0 ≤ hi
    ·
      refine EL.valg rfl rfl (x_leq rfl rfl (by first | assumption | exact decide_eq_true (by omega))) rfl ?_
      refine EL.val (x_pick_t rfl rfl) rfl ?_
      refine EL.val (x_assign rfl) rfl ?_
      refine EL.nil ?_
      refine EX.seq ?_
      refine EC.ret ?_
      exact EX.done (res1 rfl rfl) ⟨by congr 2; symm; first | (rw [Bool.and_eq_true, decide_eq_true_eq, decide_eq_true_eq]; omega) | (rw [Bool.and_eq_false_iff, decide_eq_false_iff_not, decide_eq_false_iff_not]; omega), hbw⟩
    ·
      refine EL.valg rfl rfl (x_leq rfl rfl (by first | assumption | exact decide_eq_false (by omega))) rfl ?_
      refine EL.val (x_pick_t rfl rfl) rfl ?_
      refine EL.val (x_assign rfl) rfl ?_
      refine EL.nil ?_
      refine EX.seq ?_
      refine EC.ret ?_
      exact EX.done (res1 rfl rfl) ⟨by congr 2; symm; first | (rw [Bool.and_eq_true, decide_eq_true_eq, decide_eq_true_eq]; omega) | (rw [Bool.and_eq_false_iff, decide_eq_false_iff_not, decide_eq_false_iff_not]; omega), hbw⟩
  ·
    refine EL.val (x_geq rfl rfl (by first | assumption | exact decide_eq_false (by omega))) rfl ?_
    refine EL.val (x_move rfl) rfl ?_
    refine EL.skip rfl rfl rfl rfl ?_
    refine EL.skip rfl rfl rfl rfl ?_
    refine EL.skip rfl rfl rfl rfl ?_
    refine EL.skip rfl rfl rfl rfl ?_
    refine EL.skip rfl rfl rfl rfl ?_
    refine EL.val (x_pick_f rfl rfl) rfl ?_
    refine EL.val (x_assign rfl) rfl ?_
    refine EL.nil ?_
    refine EX.seq ?_
    refine EC.ret ?_
    exact EX.done (res1 rfl rfl) ⟨by congr 2; symm; first | (rw [Bool.and_eq_true, decide_eq_true_eq, decide_eq_true_eq]; omega) | (rw [Bool.and_eq_false_iff, decide_eq_false_iff_not, decide_eq_false_iff_not]; omega), hbw⟩
set_option maxHeartbeats 1000000 in
theorem fits_gap (e : Nat) (k : Int) (a : Nat) (lo hi : Int) (M F : List Int) (vm vf : Value) (w : World) (B : Nat) (hm : Rd w B 1 vm M.length (ints M)) (hf : Rd w B 1 vf F.length (ints F)) (hB : B ≤ w.heap.size) (he : e < M.length) (hk : a < M.length) (hme : -1000000 ≤ M.getD e 0 ∧ M.getD e 0 ≤ 1000000) (hv : -1000000 ≤ M.getD a 0 ∧ M.getD a 0 ≤ 1000000) :
    Calls Try.prog 57 #[.agg #[.int .i64 2, .int .i64 (e : Nat), .int .i64 k, .int .i64 (a : Nat), .int .i64 lo, .int .i64 hi], vm, vf] w fun e_ w' => e_ = .returned (.bool (decide (lo ≤ M.getD e 0 - M.getD a 0) && decide (M.getD e 0 - M.getD a 0 ≤ hi))) ∧ Below w.heap.size w w' := by
  obtain ⟨Am, cm_, rfl, _⟩ := hm.shape
  obtain ⟨Af, cf_, rfl, _⟩ := hf.shape
  obtain ⟨bm, om, e1, _, ce⟩ := ints_cells M e he w B _ _ _ hm
  subst e1
  obtain ⟨bv, ov, e2, _, cv⟩ := ints_cells M a hk w B _ _ _ hm
  obtain ⟨rfl, rfl⟩ : bm = bv ∧ om = ov := by injection e2 with e2; injection e2 with h1 h2; exact ⟨h1, h2⟩
  have hbw := Below.refl w.heap.size w
  refine EC.enter 81 Try.func57 rfl rfl rfl ?_
  refine EC.seq ?_
  refine EC.region ?_
  refine EL.newP (bx_71 rfl) rfl ?_
  intro g1 w1 q1 hb1 hg1 hl1
  have bhbw_1 := Nat.le_trans hbw.size hg1
  replace hbw := Below.on hbw hb1 hbw.size
  clear hb1 hg1 hl1
  refine EL.val (x_assign rfl) rfl ?_
  refine EL.nil ?_
  refine EX.seq ?_
  refine EC.seq ?_
  refine EC.seq ?_
  refine EC.region ?_
  refine EL.val (fa_71_1 rfl) rfl ?_
  refine EL.val (ld_3 rfl (q1.at (j := 1) rfl)) rfl ?_
  refine EL.val (x_lss (r := false) rfl rfl (decide_eq_false (by omega))) rfl ?_
  refine EL.val (x_move rfl) rfl ?_
  refine EL.valg rfl rfl (fa_71_1 rfl) rfl ?_
  refine EL.valg rfl rfl (ld_3 rfl (q1.at (j := 1) rfl)) rfl ?_
  refine EL.valg rfl rfl (x_move rfl) rfl ?_
  refine EL.valg rfl rfl (ln_26 rfl) rfl ?_
  refine EL.valg rfl rfl (x_geq (r := false) rfl rfl (decide_eq_false (by omega))) rfl ?_
  refine EL.val (x_pick_f rfl rfl) rfl ?_
  refine EL.nil ?_
  refine EX.seq ?_
  refine EC.no rfl ?_
  refine EC.skip ?_
  refine EX.seq ?_
  refine EC.seq ?_
  refine EC.region ?_
  refine EL.val (x_move rfl) rfl ?_
  refine EL.val (fa_71_1 rfl) rfl ?_
  refine EL.val (ld_3 rfl (q1.at (j := 1) rfl)) rfl ?_
  refine EL.val (ix_26 rfl rfl he) rfl ?_
  refine EL.val (ld_3 rfl (below_load hbw ce)) rfl ?_
  refine EL.val (x_assign rfl) rfl ?_
  refine EL.nil ?_
  refine EX.seq ?_
  refine EC.seq ?_
  refine EC.block ?_
  refine EC.seq ?_
  refine EC.region ?_
  refine EL.val (fa_71_0 rfl) rfl ?_
  refine EL.val (ld_69 rfl (q1.at (j := 0) rfl)) rfl ?_
  refine EL.val (x_eql (r := false) rfl rfl (decide_eq_false (by decide))) rfl ?_
  refine EL.val (x_move rfl) rfl ?_
  refine EL.skip rfl rfl rfl rfl ?_
  refine EL.skip rfl rfl rfl rfl ?_
  refine EL.skip rfl rfl rfl rfl ?_
  refine EL.val (x_pick_f rfl rfl) rfl ?_
  refine EL.val (x_move rfl) rfl ?_
  refine EL.skip rfl rfl rfl rfl ?_
  refine EL.skip rfl rfl rfl rfl ?_
  refine EL.skip rfl rfl rfl rfl ?_
  refine EL.skip rfl rfl rfl rfl ?_
  refine EL.skip rfl rfl rfl rfl ?_
  refine EL.val (x_pick_f rfl rfl) rfl ?_
  refine EL.val (x_assign rfl) rfl ?_
  refine EL.nil ?_
  refine EX.seq ?_
  refine EC.no rfl ?_
  refine EC.seq ?_
  refine EC.region ?_
  refine EL.val (fa_71_0 rfl) rfl ?_
  refine EL.val (ld_69 rfl (q1.at (j := 0) rfl)) rfl ?_
  refine EL.val (x_eql (r := true) rfl rfl (decide_eq_true (by decide))) rfl ?_
  refine EL.val (x_move rfl) rfl ?_
  refine EL.valg rfl rfl (fa_71_3 rfl) rfl ?_
  refine EL.valg rfl rfl (ld_3 rfl (q1.at (j := 3) rfl)) rfl ?_
  refine EL.valg rfl rfl (x_geq (r := true) rfl rfl (decide_eq_true (by omega))) rfl ?_
  refine EL.val (x_pick_t rfl rfl) rfl ?_
  refine EL.val (x_move rfl) rfl ?_
  refine EL.valg rfl rfl (fa_71_3 rfl) rfl ?_
  refine EL.valg rfl rfl (ld_3 rfl (q1.at (j := 3) rfl)) rfl ?_
  refine EL.valg rfl rfl (x_move rfl) rfl ?_
  refine EL.valg rfl rfl (ln_26 rfl) rfl ?_
  refine EL.valg rfl rfl (x_lss (r := true) rfl rfl (decide_eq_true (by omega))) rfl ?_
  refine EL.val (x_pick_t rfl rfl) rfl ?_
  refine EL.val (x_assign rfl) rfl ?_
  refine EL.nil ?_
  refine EX.seq ?_
  refine EC.yes rfl ?_
  refine EC.region ?_
  refine EL.val (x_move rfl) rfl ?_
  refine EL.val (x_move rfl) rfl ?_
  refine EL.val (fa_71_3 rfl) rfl ?_
  refine EL.val (ld_3 rfl (q1.at (j := 3) rfl)) rfl ?_
  refine EL.val (ix_26 rfl rfl hk) rfl ?_
  refine EL.val (ld_3 rfl (below_load hbw cv)) rfl ?_
  refine EL.val (x_sub rfl rfl (c := M.getD e 0 - M.getD a 0) (IntWalk.i64_in _ ⟨by omega, by omega⟩)) rfl ?_
  refine EL.val (x_assign rfl) rfl ?_
  refine EL.nil ?_
  refine EX.blk ?_
  refine EX.seq ?_
  refine EC.seq ?_
  refine EC.region ?_
  refine EL.val (x_move rfl) rfl ?_
  refine EL.val (fa_71_4 rfl) rfl ?_
  refine EL.val (fa_54_0 rfl) rfl ?_
  refine EL.val (ld_3 rfl (q1.at (j := 4) rfl)) rfl ?_
  by_cases h1 : lo ≤ M.getD e 0 - M.getD a 0
  ·
    refine EL.val (x_geq rfl rfl (by first | assumption | exact decide_eq_true (by omega))) rfl ?_
    refine EL.val (x_move rfl) rfl ?_
    refine EL.valg rfl rfl (x_move rfl) rfl ?_
    refine EL.valg rfl rfl (fa_71_4 rfl) rfl ?_
    refine EL.valg rfl rfl (fa_54_1 rfl) rfl ?_
    refine EL.valg rfl rfl (ld_3 rfl (q1.at (j := 5) rfl)) rfl ?_
    by_cases h2 : M.getD e 0 - M.getD a 0 ≤ hi
    ·
      refine EL.valg rfl rfl (x_leq rfl rfl (by first | assumption | exact decide_eq_true (by omega))) rfl ?_
      refine EL.val (x_pick_t rfl rfl) rfl ?_
      refine EL.val (x_assign rfl) rfl ?_
      refine EL.nil ?_
      refine EX.seq ?_
      refine EC.ret ?_
      exact EX.done (res1 rfl rfl) ⟨by congr 2; symm; first | (rw [Bool.and_eq_true, decide_eq_true_eq, decide_eq_true_eq]; omega) | (rw [Bool.and_eq_false_iff, decide_eq_false_iff_not, decide_eq_false_iff_not]; omega), hbw⟩
    ·
      refine EL.valg rfl rfl (x_leq rfl rfl (by first | assumption | exact decide_eq_false (by omega))) rfl ?_
      refine EL.val (x_pick_t rfl rfl) rfl ?_
      refine EL.val (x_assign rfl) rfl ?_
      refine EL.nil ?_
      refine EX.seq ?_
      refine EC.ret ?_
      exact EX.done (res1 rfl rfl) ⟨by congr 2; symm; first | (rw [Bool.and_eq_true, decide_eq_true_eq, decide_eq_true_eq]; omega) | (rw [Bool.and_eq_false_iff, decide_eq_false_iff_not, decide_eq_false_iff_not]; omega), hbw⟩
  ·
    refine EL.val (x_geq rfl rfl (by first | assumption | exact decide_eq_false (by omega))) rfl ?_
    refine EL.val (x_move rfl) rfl ?_
    refine EL.skip rfl rfl rfl rfl ?_
    refine EL.skip rfl rfl rfl rfl ?_
    refine EL.skip rfl rfl rfl rfl ?_
    refine EL.skip rfl rfl rfl rfl ?_
    refine EL.skip rfl rfl rfl rfl ?_
    refine EL.val (x_pick_f rfl rfl) rfl ?_
    refine EL.val (x_assign rfl) rfl ?_
    refine EL.nil ?_
    refine EX.seq ?_
    refine EC.ret ?_
    exact EX.done (res1 rfl rfl) ⟨by congr 2; symm; first | (rw [Bool.and_eq_true, decide_eq_true_eq, decide_eq_true_eq]; omega) | (rw [Bool.and_eq_false_iff, decide_eq_false_iff_not, decide_eq_false_iff_not]; omega), hbw⟩
end Go.Proofs.Ytmaiiigijjfjfaa
set_option linter.unusedVariables false
set_option linter.unusedSimpArgs false
namespace Go.Proofs.Ytmaiiigijjfjfaa
open Go Go.RowKit
def withoutL (c : Case) (set : List Int) : Nat → List (List Opt)
  | 0 => []
  | k + 1 => withoutL c set k ++ (if ((k : Nat) : Int) ∈ set then [] else [c.clues.getD k []])
def withoutC (c : Case) (set : List Int) : Case := ⟨c.events, c.clocks, withoutL c set c.clues.length⟩
def hasC (c : Case) : Bool := !(coursesL c).isEmpty
section
variable {c : Case} {set : List Int}
end
def hasW (c : Case) (set : List Int) : Bool := hasC (withoutC c set)
theorem mem_flatR {α : Type} {f : Nat → List α} {n : Nat} {x : α} : x ∈ (List.range n).flatMap f ↔ ∃ i, i < n ∧ x ∈ f i := by
  simp [List.mem_flatMap]
end Go.Proofs.Ytmaiiigijjfjfaa
set_option linter.unusedVariables false
set_option linter.unusedSimpArgs false
namespace Go.Proofs.Ytmaiiigijjfjfaa
open Go Go.RowKit
theorem getD_lt {α : Type} {l : List α} {i : Nat} {d : α} (h : i < l.length) : l.getD i d = l[i] := by rw [List.getD_eq_getElem?_getD, List.getElem?_eq_getElem h, Option.getD_some]
/-- the minutes of the events -/
def minAt (xm : List Int) (i : Nat) : Int := if xm.length = 0 then 0 else xm.getD (i % xm.length) 0
def minsL (xm : List Int) (n : Nat) : List Int := (List.range n).map (minAt xm)
/-- how fast the clocks are -/
def fastAt (c : Case) (xf : List Int) (k : Nat) : Int := (c.clocks.getD k bd0).lo + (((c.clocks.getD k bd0).hi - (c.clocks.getD k bd0).lo) * partI xf k).tdiv 255
def fastL (c : Case) (xf : List Int) (n : Nat) : List Int := (List.range n).map (fastAt c xf)
theorem minsL_len (xm : List Int) (n : Nat) : (minsL xm n).length = n := by simp [minsL]
theorem fastL_len (c : Case) (xf : List Int) (n : Nat) : (fastL c xf n).length = n := by simp [fastL]
theorem minsL_succ (xm : List Int) (n : Nat) : minsL xm (n + 1) = minsL xm n ++ [minAt xm n] := by simp [minsL, List.range_succ]
theorem fastL_succ (c : Case) (xf : List Int) (n : Nat) : fastL c xf (n + 1) = fastL c xf n ++ [fastAt c xf n] := by simp [fastL, List.range_succ]
theorem minsL_get {xm : List Int} {n i : Nat} (hi : i < n) : (minsL xm n).getD i 0 = minAt xm i := by simp [minsL, List.getD, hi]
theorem fastL_get {c : Case} {xf : List Int} {n i : Nat} (hi : i < n) : (fastL c xf n).getD i 0 = fastAt c xf i := by simp [fastL, List.getD, hi]
theorem minAt_bd {xm : List Int} (h : ∀ y ∈ xm, 0 ≤ y ∧ y ≤ 65535) (i : Nat) : 0 ≤ minAt xm i ∧ minAt xm i ≤ 65535 := by
  unfold minAt
  by_cases h0 : xm.length = 0
  · rw [if_pos h0]; omega
  · rw [if_neg h0]
    have hk : i % xm.length < xm.length := Nat.mod_lt _ (by omega)
    rw [show xm.getD (i % xm.length) 0 = xm[i % xm.length] by simp [hk]]
    exact h _ (List.getElem_mem hk)
theorem fast_in {lo hi p : Int} (h : lo ≤ hi) (hp : 0 ≤ p ∧ p ≤ 255) : lo ≤ lo + ((hi - lo) * p).tdiv 255 ∧ lo + ((hi - lo) * p).tdiv 255 ≤ hi := by
  have h0 : 0 ≤ (hi - lo) * p := Int.mul_nonneg (by omega) hp.1
  have h1 : (hi - lo) * p ≤ (hi - lo) * 255 := Int.mul_le_mul_of_nonneg_left hp.2 (by omega)
  rw [Int.tdiv_eq_ediv_of_nonneg h0]
  generalize (hi - lo) * p = z at *
  omega
/-- what a witness of an option says if this is the truth -/
def tv (o : Opt) (M F : List Int) : Int := if o.kind = 1 then M.getD o.event.toNat 0 + F.getD o.clock.toNat 0 else M.getD o.event.toNat 0 - M.getD o.after.toNat 0
def tvIn (o : Opt) (M F : List Int) : Bool := decide (o.mins.lo ≤ tv o M F) && decide (tv o M F ≤ o.mins.hi)
def wideO (o : Opt) : Int := min 20 (max 0 (o.mins.hi - o.mins.lo))
def mvd (o : Opt) (M F : List Int) : Opt := ⟨o.kind, o.event, o.clock, o.after, ⟨tv o M F - (wideO o).tdiv 2, tv o M F + wideO o - (wideO o).tdiv 2⟩⟩
def mvO (o : Opt) (M F : List Int) : Opt := if tvIn o M F = true then o else mvd o M F
theorem wide_bd (o : Opt) : 0 ≤ wideO o ∧ wideO o ≤ 20 ∧ (wideO o).tdiv 2 = wideO o / 2 := by
  have h : 0 ≤ wideO o ∧ wideO o ≤ 20 := by unfold wideO; omega
  exact ⟨h.1, h.2, Int.tdiv_eq_ediv_of_nonneg h.1⟩
theorem mvd_in (o : Opt) (M F : List Int) : tvIn (mvd o M F) M F = true := by
  have h := wide_bd o
  refine (Bool.and_eq_true _ _).mpr ⟨decide_eq_true ?_, decide_eq_true ?_⟩
  · show tv o M F - (wideO o).tdiv 2 ≤ tv o M F
    rw [h.2.2]; omega
  · show tv o M F ≤ tv o M F + wideO o - (wideO o).tdiv 2
    rw [h.2.2]; omega
theorem mvO_in (o : Opt) (M F : List Int) : tvIn (mvO o M F) M F = true := by
  unfold mvO
  by_cases h : tvIn o M F = true
  · rw [if_pos h]; exact h
  · rw [if_neg h]; exact mvd_in _ _ _
theorem mvd_ok {c : Case} {o : Opt} {M F : List Int} (h : optB c o = true) (ht : -1000000 ≤ tv o M F ∧ tv o M F ≤ 1000000) : optB c (mvd o M F) = true := by
  have hw := wide_bd o
  simp only [optB, Bool.and_eq_true, bdOk_iff] at h ⊢
  refine ⟨h.1, ?_, h.2.2⟩
  simp only [mvd]
  rw [hw.2.2]
  omega
theorem mvO_ok {c : Case} {o : Opt} {M F : List Int} (h : optB c o = true) (ht : -1000000 ≤ tv o M F ∧ tv o M F ≤ 1000000) : optB c (mvO o M F) = true := by
  unfold mvO
  split
  · exact h
  · exact mvd_ok h ht
/-! ### One option of one clue set anew -/
def setO (l : List (List Opt)) (x K : Nat) (p : Opt) : List (List Opt) := l.set x ((l.getD x []).set K p)
theorem setO_len (l : List (List Opt)) (x K : Nat) (p : Opt) : (setO l x K p).length = l.length := by simp [setO]
theorem setO_at {l : List (List Opt)} {x K : Nat} {p : Opt} (hx : x < l.length) : (setO l x K p).getD x [] = (l.getD x []).set K p := by simp [setO, List.getD, hx]
theorem setO_ne {l : List (List Opt)} {x K i : Nat} {p : Opt} (hi : i ≠ x) : (setO l x K p).getD i [] = l.getD i [] := by
  simp only [setO, List.getD]
  rw [List.getElem?_set_ne (by omega)]
theorem setO_same {l : List (List Opt)} {x K : Nat} (hx : x < l.length) (hK : K < (l.getD x []).length) : setO l x K ((l.getD x []).getD K opt0) = l := by
  unfold setO
  rw [getD_lt hK, List.set_getElem_self, getD_lt hx, List.set_getElem_self]
theorem setO_twice {l : List (List Opt)} {x K : Nat} {p q : Opt} (hx : x < l.length) : setO (setO l x K p) x K q = setO l x K q := by
  rw [show setO (setO l x K p) x K q = (setO l x K p).set x (((setO l x K p).getD x []).set K q) from rfl, setO_at hx]
  unfold setO
  rw [List.set_set, List.set_set]
/-! ### The case -/
def mvCl (c : Case) (b M F : List Int) (i : Nat) : List Opt := (c.clues.getD i []).set (pickK c b i) (mvO (chosen c b i) M F)
def toldL (c : Case) (b M F : List Int) (x : Nat) : List (List Opt) := (List.range c.clues.length).map fun i => if i < x then mvCl c b M F i else c.clues.getD i []
def toldC (c : Case) (b M F : List Int) : Case := ⟨c.events, c.clocks, toldL c b M F c.clues.length⟩
section
variable {c : Case} {b M F : List Int} {x : Nat}
theorem toldL_len (c : Case) (b M F : List Int) (x : Nat) : (toldL c b M F x).length = c.clues.length := by simp [toldL]
theorem toldL_get {i : Nat} (hi : i < c.clues.length) : (toldL c b M F x).getD i [] = if i < x then mvCl c b M F i else c.clues.getD i [] := by simp [toldL, List.getD, hi]
theorem ext_getD {α : Type} {d : α} {l m : List α} (h1 : l.length = m.length) (h : ∀ i, i < l.length → l.getD i d = m.getD i d) : l = m := by
  refine List.ext_getElem h1 fun i h2 h3 => ?_
  have := h i h2
  simpa [List.getD, h2, h3] using this
theorem toldL_zero : toldL c b M F 0 = c.clues := ext_getD (d := []) (toldL_len _ _ _ _ _) fun i hi => by
  rw [toldL_len] at hi
  rw [toldL_get hi, if_neg (by omega)]
theorem toldL_succ (hx : x < c.clues.length) : toldL c b M F (x + 1) = setO (toldL c b M F x) x (pickK c b x) (mvO (chosen c b x) M F) := ext_getD (d := []) (by rw [setO_len, toldL_len, toldL_len]) fun i hi => by
  rw [toldL_len] at hi
  rw [toldL_get hi]
  by_cases e : i = x
  · subst e
    rw [if_pos (by omega), setO_at (by rw [toldL_len]; exact hi), toldL_get hi, if_neg (by omega)]
    rfl
  · rw [setO_ne e, toldL_get hi]
    by_cases h : i < x
    · rw [if_pos h, if_pos (by omega)]
    · rw [if_neg h, if_neg (by omega)]
theorem toldL_row (i : Nat) : ((toldL c b M F x).getD i []).length = (c.clues.getD i []).length := by
  by_cases hi : i < c.clues.length
  · rw [toldL_get hi]
    split
    · simp [mvCl]
    · rfl
  · rw [List.getD_eq_getElem?_getD, List.getD_eq_getElem?_getD, List.getElem?_eq_none (by rw [toldL_len]; omega), List.getElem?_eq_none (by omega)]
/-- what is known of a truth -/
structure Truth (c : Case) (M F : List Int) : Prop where
  mlen : M.length = c.events.toNat
  flen : F.length = c.clocks.length
  mins : ∀ i, i < c.events.toNat → 0 ≤ M.getD i 0 ∧ M.getD i 0 ≤ 1000000
  fast : ∀ k, k < c.clocks.length → (c.clocks.getD k bd0).lo ≤ F.getD k 0 ∧ F.getD k 0 ≤ (c.clocks.getD k bd0).hi
  m16 : ∀ i, i < c.events.toNat → M.getD i 0 ≤ 65535
theorem Truth.fbd (ht : Truth c M F) (hc : caseB c = true) {k : Nat} (hk : k < c.clocks.length) : -100000 ≤ F.getD k 0 ∧ F.getD k 0 ≤ 100000 := by
  have h1 := bdOk_iff.1 ((caseB_ok hc).2.2.2.1 k hk)
  have h2 := ht.fast k hk
  omega
theorem Truth.tv_bd (ht : Truth c M F) (hc : caseB c = true) {o : Opt} (ho : optB c o = true) : -1000000 ≤ tv o M F ∧ tv o M F ≤ 1000000 := by
  have h := optB_ok ho
  have he := (caseB_ok hc).1
  have h1 := h.event
  have m1 := ht.mins o.event.toNat (by omega)
  have m2 := ht.m16 o.event.toNat (by omega)
  unfold tv
  rcases h.kind with ⟨hk, hr⟩ | ⟨hk, hr⟩
  · rw [if_pos hk]
    have := ht.fbd hc (k := o.clock.toNat) (by omega)
    omega
  · rw [if_neg (by omega)]
    have m3 := ht.mins o.after.toNat (by omega)
    have m4 := ht.m16 o.after.toNat (by omega)
    omega
theorem told_ok (hc : caseB c = true) (ht : Truth c M F) : caseB (toldC c b M F) = true := by
  have h0 := caseB_ok hc
  simp only [caseB, Bool.and_eq_true, decide_eq_true_eq] at hc ⊢
  refine ⟨hc.1, hc.2.1, ?_, hc.2.2.2.1, List.all_eq_true.2 fun l hl => ?_⟩
  · show (toldL c b M F c.clues.length).length ≤ 20
    rw [toldL_len]; exact hc.2.2.1
  · obtain ⟨i, hi, rfl⟩ := List.mem_map.1 hl
    have hi := List.mem_range.1 hi
    have hcb : caseB c = true := by simp only [caseB, Bool.and_eq_true, decide_eq_true_eq]; exact hc
    rw [if_pos hi]
    have hr := h0.2.2.2.2 i hi
    simp only [clueB, Bool.and_eq_true, inB_iff]
    refine ⟨by simp only [mvCl, List.length_set]; omega, List.all_eq_true.2 fun p hp => ?_⟩
    change optB c p = true
    rcases List.mem_or_eq_of_mem_set hp with h | rfl
    · obtain ⟨j, hj, rfl⟩ := List.mem_iff_getElem.1 h
      have := hr.2 j hj
      rwa [getD_lt hj] at this
    · exact mvO_ok (chosen_ok hcb hi) (ht.tv_bd hcb (chosen_ok hcb hi))
theorem told_course (hc : caseB c = true) : inCourse (toldC c b M F) (crsBy c b c.clues.length) := by
  have h := inCourse_by (b := b) hc (Nat.le_refl _)
  refine ⟨by show _ ≤ (toldL c b M F c.clues.length).length; rw [toldL_len]; exact h.1, fun i hi => ?_⟩
  have := h.2 i hi
  show _ ∧ _ < (((toldL c b M F c.clues.length).getD i []).length : Int)
  rw [toldL_row]
  exact this
theorem told_start (hc : caseB c = true) (ht : Truth c M F) : startErr (toldC c b M F) (crsBy c b c.clues.length) = 0 :=
  start_of (told_ok hc ht) (by show _ = (toldL c b M F c.clues.length).length; rw [toldL_len, crsBy_len]) (told_course hc)
/-- the numbers of the truth -/
def piT (c : Case) (M F : List Int) (v : Nat) : Int := if v = 0 then 0 else if v < 1 + c.events.toNat then M.getD (v - 1) 0 else -F.getD (v - 1 - c.events.toNat) 0
theorem piT_zero : piT c M F 0 = 0 := rfl
theorem piT_ev {i : Nat} (hi : i < c.events.toNat) : piT c M F (1 + i) = M.getD i 0 := by
  unfold piT
  rw [if_neg (by omega), if_pos (by omega), show 1 + i - 1 = i by omega]
theorem piT_cl (k : Nat) : piT c M F (1 + c.events.toNat + k) = -F.getD k 0 := by
  unfold piT
  rw [if_neg (by omega), if_neg (by omega), show 1 + c.events.toNat + k - 1 - c.events.toNat = k by omega]
theorem piT_from (ht : Truth c M F) {o : Opt} (h : OptOk c o) : piT c M F (1 + o.event.toNat) - piT c M F (optFrom c o) = tv o M F := by
  have h1 := h.event
  rw [piT_ev (by omega)]
  unfold optFrom tv
  rcases h.kind with ⟨hk, hr⟩ | ⟨hk, hr⟩
  · rw [if_neg (by omega), piT_cl, if_pos hk]; omega
  · rw [if_pos hk, piT_ev (by omega), if_neg (by omega)]
theorem told_chosen {i : Nat} (hi : i < c.clues.length) (hc : caseB c = true) : optAt (toldC c b M F) i ((crsBy c b c.clues.length).getD i 0) = mvO (chosen c b i) M F := by
  rw [crsBy_get hi]
  unfold optAt
  rw [Int.toNat_natCast]
  show ((toldL c b M F c.clues.length).getD i []).getD (pickK c b i) opt0 = _
  rw [toldL_get hi, if_pos hi]
  have := pick_lt (b := b) hc hi
  rw [getD_lt (by simp only [mvCl, List.length_set]; exact this)]
  simp [mvCl]
theorem told_feas (hc : caseB c = true) (ht : Truth c M F) : FeasM (linksOf (toldC c b M F) (crsBy c b c.clues.length)) (piT c M F) := by
  intro x hx
  unfold linksOf at hx
  rcases List.mem_append.1 hx with hx | hx
  · rcases List.mem_append.1 hx with hx | hx
    · obtain ⟨i, hi, hm⟩ := mem_flatR.1 hx
      have hm' : x ∈ evL i := hm
      simp only [evL, List.mem_cons, List.not_mem_nil, or_false] at hm'
      have hi' : i < c.events.toNat := hi
      have := ht.mins i hi'
      rcases hm' with rfl | rfl
      · simp only [piT_ev hi', piT_zero]; omega
      · simp only [piT_ev hi', piT_zero]; omega
    · obtain ⟨k, hk, hm⟩ := mem_flatR.1 hx
      have hk' : k < c.clocks.length := hk
      have := ht.fast k hk'
      have hm' : x ∈ clL c k := hm
      simp only [clL, List.mem_cons, List.not_mem_nil, or_false] at hm'
      rcases hm' with rfl | rfl
      · simp only [piT_cl, piT_zero]; omega
      · simp only [piT_cl, piT_zero]; omega
  · unfold crsLinks at hx
    rw [crsBy_len] at hx
    obtain ⟨i, hi, hm⟩ := mem_flatR.1 hx
    unfold crsL at hm
    rw [if_neg (by rw [crsBy_get hi]; omega), told_chosen hi hc] at hm
    have ho := mvO_ok (chosen_ok (b := b) hc hi) (ht.tv_bd hc (chosen_ok (b := b) hc hi))
    have hp := piT_from ht (optB_ok ho)
    have hin := mvO_in (chosen c b i) M F
    simp only [tvIn, Bool.and_eq_true, decide_eq_true_eq] at hin
    have hm' : x ∈ optL c (mvO (chosen c b i) M F) := hm
    simp only [optL, List.mem_cons, List.not_mem_nil, or_false] at hm'
    rcases hm' with rfl | rfl
    · simp only; omega
    · simp only; omega
end
end Go.Proofs.Ytmaiiigijjfjfaa
set_option linter.unusedVariables false
set_option linter.unusedSimpArgs false
namespace Go.Proofs.Ytmaiiigijjfjfaa
open Go Go.RowKit
def u16s (l : List Int) : List Value := l.map fun x => .int .u16 x
section
variable {P : Program} {n : Nat} {σ : Sg} {w : World}
theorem resc5 {fn : Func} {c s1 s2 s3 s4 : Tmp} {t : TypeId} {p : Addr} {v u1 u2 u3 u4 : Value} (h : fn.results = #[.cell c t, .tmp s1, .tmp s2, .tmp s3, .tmp s4]) (hc : σ c = some (.pointer (some p))) (h1 : σ s1 = some u1) (h2 : σ s2 = some u2) (h3 : σ s3 = some u3) (h4 : σ s4 = some u4) (hl : (loadVar t p).run P w = .ok v w) (a : Act) (ha : Env n σ a) : (results fn a.tmps).run P w = .ok (.tuple #[v, u1, u2, u3, u4]) w := by
  have e0 : a.tmps.getD c undef = .pointer (some p) := ha.eval (x := .tmp c) hc
  have e1 : a.tmps.getD s1 undef = u1 := ha.eval (x := .tmp s1) h1
  have e2 : a.tmps.getD s2 undef = u2 := ha.eval (x := .tmp s2) h2
  have e3 : a.tmps.getD s3 undef = u3 := ha.eval (x := .tmp s3) h3
  have e4 : a.tmps.getD s4 undef = u4 := ha.eval (x := .tmp s4) h4
  rw [Array.getD_eq_getD_getElem?] at e0 e1 e2 e3 e4
  simp [results, h, e0, e1, e2, e3, e4, asAddr, hl]
end
/-- three rows of integers of one's own, apart from each other -/
structure Rows3 (W : World) (base : Nat) (v1 v2 v3 : Value) (l1 l2 l3 : List Int) : Prop where
  r1 : W.ownsRow base 3 1 v1 l1.length (ints l1)
  r2 : W.ownsRow base 3 1 v2 l2.length (ints l2)
  r3 : W.ownsRow base 3 1 v3 l3.length (ints l3)
  a12 : Apart v1 v2
  a13 : Apart v1 v3
  a23 : Apart v2 v3
section
variable {W W' : World} {base base2 : Nat} {v1 v2 v3 v : Value} {l1 l2 l3 : List Int}
theorem Rows3.below (h : Rows3 W base v1 v2 v3 l1 l2 l3) (hb : Below W.heap.size W W') : Rows3 W' base v1 v2 v3 l1 l2 l3 := ⟨own_below h.r1 hb (Nat.le_refl _), own_below h.r2 hb (Nat.le_refl _), own_below h.r3 hb (Nat.le_refl _), h.a12, h.a13, h.a23⟩
theorem Rows3.type {g T : Nat} {cs : Array Value} (h : Rows3 W base v1 v2 v3 l1 l2 l3) (hq : Blk W g T cs) (hT : Nat.beq T 3 = false) (hg : W.grownBy W' (some g)) : Rows3 W' base v1 v2 v3 l1 l2 l3 := ⟨own_type h.r1 hq hT hg, own_type h.r2 hq hT hg, own_type h.r3 hq hT hg, h.a12, h.a13, h.a23⟩
theorem Rows3.grown {e2 size2 m : Nat} {u : Value} {ys : List Value} (h : Rows3 W base v1 v2 v3 l1 l2 l3) (hu : W.ownsRow base2 e2 size2 u m ys) (hT : Nat.beq e2 3 = false) (hg : W.grownBy W' u.ownBlock) : Rows3 W' base v1 v2 v3 l1 l2 l3 := ⟨own_grown h.r1 hu hT hg, own_grown h.r2 hu hT hg, own_grown h.r3 hu hT hg, h.a12, h.a13, h.a23⟩
theorem apart_more {w : World} {v v' u : Value} {base e size n : Nat} {xs : List Value} (h : Apart v u) (hu : w.ownsRow base e size u n xs) (hat : ∀ b, v'.ownBlock = some b → v.ownBlock = some b ∨ w.heap.size ≤ b) : Apart v' u := fun g h1 h2 => by
  rcases hat g h1 with h3 | h3
  · exact h g h3 h2
  · have := (hu.lt g h2).2
    omega
theorem at_grown {w : World} {v v' : Value} (hat : v'.ownBlock = v.ownBlock ∨ v'.ownBlock = some w.heap.size) : ∀ b, v'.ownBlock = some b → v.ownBlock = some b ∨ w.heap.size ≤ b := fun b hb => by
  rcases hat with h | h
  · exact .inl (h ▸ hb)
  · rw [h] at hb; injection hb with hb; exact .inr (by omega)
theorem Rows3.push1 {x : Int} (h : Rows3 W base v1 v2 v3 l1 l2 l3) (hg : W.grownBy W' v1.ownBlock) (ho : W'.ownsRow base 3 1 v (l1.length + 1) (ints l1 ++ [.int .i64 x])) (hat : ∀ b, v.ownBlock = some b → v1.ownBlock = some b ∨ W.heap.size ≤ b) : Rows3 W' base v v2 v3 (l1 ++ [x]) l2 l3 :=
  ⟨by rw [List.length_append, List.length_singleton, ints_app]; exact ho, own_apart h.r2 hg h.a12, own_apart h.r3 hg h.a13, apart_more h.a12 h.r2 hat, apart_more h.a13 h.r3 hat, h.a23⟩
theorem Rows3.push2 {x : Int} (h : Rows3 W base v1 v2 v3 l1 l2 l3) (hg : W.grownBy W' v2.ownBlock) (ho : W'.ownsRow base 3 1 v (l2.length + 1) (ints l2 ++ [.int .i64 x])) (hat : ∀ b, v.ownBlock = some b → v2.ownBlock = some b ∨ W.heap.size ≤ b) : Rows3 W' base v1 v v3 l1 (l2 ++ [x]) l3 :=
  ⟨own_apart h.r1 hg h.a12.symm, by rw [List.length_append, List.length_singleton, ints_app]; exact ho, own_apart h.r3 hg h.a23, (apart_more h.a12.symm h.r1 hat).symm, h.a13, apart_more h.a23 h.r3 hat⟩
theorem Rows3.push3 {x : Int} (h : Rows3 W base v1 v2 v3 l1 l2 l3) (hg : W.grownBy W' v3.ownBlock) (ho : W'.ownsRow base 3 1 v (l3.length + 1) (ints l3 ++ [.int .i64 x])) (hat : ∀ b, v.ownBlock = some b → v3.ownBlock = some b ∨ W.heap.size ≤ b) : Rows3 W' base v1 v2 v l1 l2 (l3 ++ [x]) :=
  ⟨own_apart h.r1 hg h.a13.symm, own_apart h.r2 hg h.a23.symm, by rw [List.length_append, List.length_singleton, ints_app]; exact ho, h.a12, (apart_more h.a13.symm h.r1 hat).symm, (apart_more h.a23.symm h.r2 hat).symm⟩
end
section
variable {W W' : World} {base base2 : Nat} {va vb : Value} {c : Case} {vs : List Value}
theorem OwnCase.type {g T : Nat} {cs : Array Value} (h : OwnCase W base va vb c vs) (hq : Blk W g T cs) (h0 : Nat.beq T 54 = false) (h1 : Nat.beq T 74 = false) (h2 : Nat.beq T 71 = false) (hg : W.grownBy W' (some g)) : OwnCase W' base va vb c vs := ⟨own_type h.clocks hq h0 hg, h.clues.type hq h1 h2 hg⟩
theorem OwnCase.grown {e2 size2 m : Nat} {u : Value} {ys : List Value} (h : OwnCase W base va vb c vs) (hu : W.ownsRow base2 e2 size2 u m ys) (h0 : Nat.beq e2 54 = false) (h1 : Nat.beq e2 74 = false) (h2 : Nat.beq e2 71 = false) (hg : W.grownBy W' u.ownBlock) : OwnCase W' base va vb c vs := ⟨own_grown h.clocks hu h0 hg, h.clues.grown hu h1 h2 hg⟩
/-- a box of bounds that is newer than a case of one's own -/
theorem OwnCase.newer {g : Nat} (h : OwnCase W base va vb c vs) {cs : Array Value} (hq : Blk W g 54 cs) (hne : ∀ g', va.ownBlock = some g' → g' ≠ g) (hg : W.grownBy W' (some g)) : OwnCase W' base va vb c vs := ⟨own_apart (v := .slice (some ⟨g, 0, none⟩) 0 0) h.clocks hg fun g' h1 h2 => hne g' h2 (Option.some.inj h1).symm, h.clues.type hq rfl rfl hg⟩
theorem OwnCase.less {base0 : Nat} (h : OwnCase W base va vb c vs) (hB : base0 ≤ base) : OwnCase W base0 va vb c vs := ⟨own_less h.clocks hB, h.clues.len, own_less h.clues.own hB, fun i hi => own_less (h.clues.row i hi) hB, h.clues.apart⟩
def withM (o : Opt) (m : Bd) : Opt := ⟨o.kind, o.event, o.clock, o.after, m⟩
theorem opts_set : ∀ {l : List Opt} {K : Nat} (m : Bd), K < l.length → spl (optsC l) (K * 6 + 4) [.int .i64 m.lo, .int .i64 m.hi] = optsC (l.set K (withM (l.getD K opt0) m))
  | [], K, m, h => absurd h (by simp)
  | p :: l, 0, m, _ => by
    show Value.int .i64 p.kind :: Value.int .i64 p.event :: Value.int .i64 p.clock :: Value.int .i64 p.after :: Value.int .i64 m.lo :: Value.int .i64 m.hi :: ovr (optsC l) [] = _
    rw [ovr_eq _ _ (by simp)]
    rfl
  | p :: l, K + 1, m, h => by
    have ih := opts_set (l := l) (K := K) m (by simpa using h)
    have e : (K + 1) * 6 + 4 = (K * 6 + 4) + 6 := by omega
    rw [e]
    show Value.int .i64 p.kind :: Value.int .i64 p.event :: Value.int .i64 p.clock :: Value.int .i64 p.after :: Value.int .i64 p.mins.lo :: Value.int .i64 p.mins.hi :: spl (optsC l) (K * 6 + 4) _ = _
    rw [ih]
    rfl
theorem OwnClues.set {l : List (List Opt)} {l' : List Opt} {x : Nat} (h : OwnClues W base vb l vs) (hx : x < l.length) (hrow : W'.ownsRow base 71 6 (vs.getD x undef) (l.getD x []).length (optsC l')) (hl : l'.length = (l.getD x []).length) (hg : W.grownBy W' (vs.getD x undef).ownBlock) : OwnClues W' base vb (l.set x l') vs := by
  have hn : (l.set x l').length = l.length := List.length_set
  refine ⟨by rw [hn]; exact h.len, by rw [hn]; exact own_grown h.own (h.row x hx) rfl hg, fun i hi => ?_, fun i j hi hj => h.apart i j (by rwa [hn] at hi) hj⟩
  rw [hn] at hi
  by_cases e : i = x
  · subst e
    rw [show (l.set i l').getD i [] = l' by simp [List.getD, hi], hl]
    exact hrow
  · rw [show (l.set x l').getD i [] = l.getD i [] by simp only [List.getD]; rw [List.getElem?_set_ne (by omega)]]
    refine own_apart (h.row i hi) hg ?_
    by_cases h1 : i < x
    · exact (h.apart x i hx h1).symm
    · exact h.apart i x hi (by omega)
/-- an option's minutes set anew -/
theorem OwnCase.set {x K : Nat} {m : Bd} (h : OwnCase W base va vb c vs) (hx : x < c.clues.length) (hK : K < (c.clues.getD x []).length) (hrow : W'.ownsRow base 71 6 (vs.getD x undef) (c.clues.getD x []).length (spl (optsC (c.clues.getD x [])) (K * 6 + 4) [.int .i64 m.lo, .int .i64 m.hi])) (hg : W.grownBy W' (vs.getD x undef).ownBlock) :
    OwnCase W' base va vb ⟨c.events, c.clocks, setO c.clues x K (withM ((c.clues.getD x []).getD K opt0) m)⟩ vs := by
  rw [opts_set m hK] at hrow
  refine ⟨own_grown h.clocks (h.clues.row x hx) rfl hg, ?_⟩
  exact h.clues.set hx hrow List.length_set hg
end
/-- an option that is looked at: as it was, or set anew -/
def pY (o : Opt) (M F : List Int) (y : Nat) : Opt := if y = 0 then o else mvd o M F
theorem fits_opt {c : Case} {o : Opt} {M F : List Int} (ht : Truth c M F) (hc : caseB c = true) (ho : OptOk c o) {b : Bool} (hb : tvIn o M F = b) (vm vf : Value) (w : World) (B : Nat) (hm : Rd w B 1 vm M.length (ints M)) (hf : Rd w B 1 vf F.length (ints F)) (hB : B ≤ w.heap.size) :
    Calls Try.prog 57 #[.agg #[.int .i64 o.kind, .int .i64 o.event, .int .i64 o.clock, .int .i64 o.after, .int .i64 o.mins.lo, .int .i64 o.mins.hi], vm, vf] w fun e_ w' => e_ = .returned (.bool b) ∧ Below w.heap.size w w' := by
  subst hb
  have h1 := ho.event
  have h2 := ho.kind
  have hml := ht.mlen
  have hfl := ht.flen
  have he1 := (caseB_ok hc).1
  obtain ⟨kd, ev, ck, af, ⟨lo, hi⟩⟩ := o
  simp only at h1 h2
  obtain ⟨e, rfl⟩ : ∃ e : Nat, ev = e := ⟨ev.toNat, by omega⟩
  have m1 := ht.mins e (by omega)
  rcases h2 with ⟨rfl, h3, h4⟩ | ⟨rfl, h3, h4, h5⟩
  · obtain ⟨k, rfl⟩ : ∃ k : Nat, ck = k := ⟨ck.toNat, by omega⟩
    have f1 := ht.fbd hc (k := k) (by omega)
    exact fits_seen e k af lo hi M F vm vf w B hm hf hB (by omega) (by omega) (by omega) (by omega)
  · obtain ⟨a, rfl⟩ : ∃ a : Nat, af = a := ⟨af.toNat, by omega⟩
    have m2 := ht.mins a (by omega)
    exact fits_gap e ck a lo hi M F vm vf w B hm hf hB (by omega) (by omega) (by omega) (by omega)
theorem mvd_with (o : Opt) (M F : List Int) : mvd o M F = withM o ⟨tv o M F - (wideO o).tdiv 2, tv o M F + wideO o - (wideO o).tdiv 2⟩ := rfl
end Go.Proofs.Ytmaiiigijjfjfaa
set_option linter.unusedVariables false
set_option linter.unusedSimpArgs false
namespace Go.Proofs.Ytmaiiigijjfjfaa
open Go Go.RowKit
section
variable {n : Nat} {σ : Sg} {w : World} {dst : Option Tmp} {ty : TypeId} {pos : String} {af : Array Edge} {g : Option (Nat × Bool)} {x y z : Operand} {at' : Array TypeId}
theorem bx_65 {v0 v1 v2 v3 v4 : Value} (hx : evS σ x = some (.agg #[v0, v1, v2, v3, v4])) (a : Act) (ha : Env n σ a) : (execOp a.eval ⟨dst, .box 65 x, ty, pos, af, g⟩).run Try.prog w = .ok (.value (.pointer (some ⟨w.heap.size, 0, none⟩))) (w.alloc (.cells #[v0, v1, v2, v3, v4] 65)) := by
  simp only [execOp, ha.eval hx]
  simp [go_sem]
theorem fa_65_0 {b o : Nat} (hx : evS σ x = some (.pointer (some ⟨b, o, none⟩))) : Gives Try.prog n σ w ⟨dst, .fieldAddr 65 x 0, ty, pos, af, g⟩ (.pointer (some ⟨b, o, none⟩)) := fun a ha => by
  simp only [execOp, ha.eval hx]
  simp [go_sem]
theorem fa_65_1 {b o : Nat} (hx : evS σ x = some (.pointer (some ⟨b, o, none⟩))) : Gives Try.prog n σ w ⟨dst, .fieldAddr 65 x 1, ty, pos, af, g⟩ (.pointer (some ⟨b, o + 3, none⟩)) := fun a ha => by
  simp only [execOp, ha.eval hx]
  simp [go_sem]
theorem ld_62 {b o : Nat} {v0 : Value} (hx : evS σ x = some (.pointer (some ⟨b, o, none⟩))) (c0 : w.cell? ⟨b, o, none⟩ = some v0) : Gives Try.prog n σ w ⟨dst, .load 62 x, ty, pos, af, g⟩ (v0) := fun a ha => by
  simp only [execOp, ha.eval hx]
  simp [go_sem, c0]
theorem ln_62 {A : Option Addr} {m c : Nat} (hx : evS σ x = some (.slice A m c)) : Gives Try.prog n σ w ⟨dst, .call { callee := .builtin .len, args := #[x], argTypes := #[62] }, ty, pos, af, g⟩ (.int .i64 (m : Int)) := fun a ha => by
  simp only [execOp, resolve, List.map_toArray, List.map_cons, List.map_nil, ha.eval hx]
  simp [go_sem]
theorem ix_62 {b o m c k : Nat} (hx : evS σ x = some (.slice (some ⟨b, o, none⟩) m c)) (hy : evS σ y = some (.int .i64 (k : Int))) (hk : k < m) : Gives Try.prog n σ w ⟨dst, .indexAddr 62 x y, ty, pos, af, g⟩ (.pointer (some ⟨b, o + k, none⟩)) := fun a ha => by
  have k0 : (0 : Int) ≤ (k : Int) := Int.natCast_nonneg _
  have k1 : (k : Int) < (m : Int) := by omega
  simp only [execOp, ha.eval hx, ha.eval hy]
  simp [go_sem, k0, k1]
theorem ld_99 {b o : Nat} {v0 : Value} (hx : evS σ x = some (.pointer (some ⟨b, o, none⟩))) (c0 : w.cell? ⟨b, o, none⟩ = some v0) : Gives Try.prog n σ w ⟨dst, .load 99 x, ty, pos, af, g⟩ (v0) := fun a ha => by
  simp only [execOp, ha.eval hx]
  simp [go_sem, c0]
theorem cv_99_3 {m : Int} (hx : evS σ x = some (.int .u16 m)) (hm : IntKind.i64.wrap m = m) : Gives Try.prog n σ w ⟨dst, .convert 99 3 x, ty, pos, af, g⟩ (.int .i64 m) := fun a ha => by
  simp only [execOp, ha.eval hx]
  simp [go_sem, hm]
theorem fa_65_2 {b o : Nat} (hx : evS σ x = some (.pointer (some ⟨b, o, none⟩))) : Gives Try.prog n σ w ⟨dst, .fieldAddr 65 x 2, ty, pos, af, g⟩ (.pointer (some ⟨b, o + 4, none⟩)) := fun a ha => by
  simp only [execOp, ha.eval hx]
  simp [go_sem]
theorem ld_63 {b o : Nat} {v0 : Value} (hx : evS σ x = some (.pointer (some ⟨b, o, none⟩))) (c0 : w.cell? ⟨b, o, none⟩ = some v0) : Gives Try.prog n σ w ⟨dst, .load 63 x, ty, pos, af, g⟩ (v0) := fun a ha => by
  simp only [execOp, ha.eval hx]
  simp [go_sem, c0]
theorem cl_57 {x0 x1 x2 : Operand} {v0 v1 v2 : Value} (h0 : evS σ x0 = some v0) (h1 : evS σ x1 = some v1) (h2 : evS σ x2 = some v2) (a : Act) (ha : Env n σ a) : (execOp a.eval ⟨dst, .call { callee := .value (.func 57), args := #[x0, x1, x2], argTypes := at' }, ty, pos, af, g⟩).run Try.prog w = .ok (.enter 57 #[v0, v1, v2]) w := by
  simp only [execOp, resolve, List.map_toArray, List.map_cons, List.map_nil, ha.eval h0, ha.eval h1, ha.eval h2]
  simp [go_sem, Act.eval]
theorem mm_max {p q r : Int} (hx : evS σ x = some (.int .i64 p)) (hy : evS σ y = some (.int .i64 q)) (hr : max p q = r) : Gives Try.prog n σ w ⟨dst, .call { callee := .builtin .max, args := #[x, y], argTypes := at' }, ty, pos, af, g⟩ (.int .i64 r) := fun a ha => by
  simp only [execOp, resolve, List.map_toArray, List.map_cons, List.map_nil, ha.eval hx, ha.eval hy]
  subst hr
  simp [go_sem, Int.max_def]
  split <;> split <;> omega
end
end Go.Proofs.Ytmaiiigijjfjfaa
set_option linter.unusedVariables false
set_option linter.unusedSimpArgs false
namespace Go.Proofs.Ytmaiiigijjfjfaa
open Go Go.RowKit
set_option maxHeartbeats 8000000 in
set_option maxRecDepth 100000 in
theorem told_any (c : Case) (vc vl : Value) (vs : List Value) (w : World) (B : Nat) (hr : RdCase w B vc vl c vs) (hB : B ≤ w.heap.size) (hn1 : c.clocks.length ≤ 9223372036854775807) (hn2 : c.clues.length ≤ 9223372036854775807) (hfit : Fits c) (xm xf b : List Int) (vm vf vb : Value) (hrm : Rd w B 1 vm xm.length (u16s xm)) (hrf : Rd w B 1 vf xf.length (u8s xf)) (hrb : Rd w B 1 vb b.length (u8s b)) (hnm : xm.length ≤ 9223372036854775807) (hnf : xf.length ≤ 9223372036854775807) (hnb : b.length ≤ 9223372036854775807) (hxm : ∀ y ∈ xm, 0 ≤ y ∧ y ≤ 65535) (hxf : ∀ y ∈ xf, 0 ≤ y ∧ y ≤ 255) (hbb : ∀ y ∈ b, 0 ≤ y ∧ y ≤ 255) :
    Calls Try.prog 33 #[.agg #[.int .i64 c.events, vc, vl, vm, vf], vb] w fun e w' => ((∃ (A1 A2 : Option Addr) (n1 n2 k1 k2 : Nat), e = .returned (.tuple #[.agg #[.int .i64 c.events, .slice A1 n1 k1, .slice A2 n2 k2], .slice none 0 0, .slice none 0 0, .slice none 0 0, .bool false])) ∨
      ∃ va vb vM vF vK ws, e = .returned (.tuple #[.agg #[.int .i64 c.events, va, vb], vM, vF, vK, .bool true]) ∧ caseB c = true ∧ Small c ∧ OwnCase w' w.heap.size va vb (toldC c b (minsL xm c.events.toNat) (fastL c xf c.clocks.length)) ws ∧ Rows3 w' w.heap.size vM vF vK (minsL xm c.events.toNat) (fastL c xf c.clocks.length) (crsBy c b c.clues.length) ∧ Truth c (minsL xm c.events.toNat) (fastL c xf c.clocks.length)) ∧ Below w.heap.size w w' := by
  obtain ⟨Ac, cc_, rfl, _⟩ := hr.clocks.shape
  obtain ⟨Al, cl_, rfl, _⟩ := hr.clues.rd.shape
  obtain ⟨Am, cm_, rfl, _⟩ := hrm.shape
  obtain ⟨Af, cf_, rfl, _⟩ := hrf.shape
  obtain ⟨Ab, cb_, rfl, _⟩ := hrb.shape
  have hbw := Below.refl w.heap.size w
  refine EC.enter 270 Try.func33 rfl rfl rfl ?_
  refine EC.seq ?_
  refine EC.region ?_
  refine EL.newP (bx_65 rfl) rfl ?_
  intro g1 w1 q1 hb1 hg1 hl1
  have bhbw_1 := Nat.le_trans hbw.size hg1
  replace hbw := Below.on hbw hb1 hbw.size
  clear hb1 hg1 hl1
  refine EL.newP al_25 rfl ?_
  intro g2 w2 q2 hb2 hg2 hl2
  have n1_2 : g1 ≠ g2 := Nat.ne_of_lt (Nat.lt_of_lt_of_le q1.lt hg2)
  have bhbw_2 := Nat.le_trans hbw.size hg2
  replace q1 := q1.below hb2 q1.lt
  replace hbw := Below.on hbw hb2 hbw.size
  clear hb2 hg2 hl2
  refine EL.val (x_assign rfl) rfl ?_
  refine EL.val (x_assign rfl) rfl ?_
  refine EL.val (x_assign rfl) rfl ?_
  refine EL.val (x_assign rfl) rfl ?_
  refine EL.nil ?_
  refine EX.seq ?_
  refine EC.seq ?_
  refine EC.region ?_
  refine EL.val (fa_65_0 rfl) rfl ?_
  refine EL.val (ld_25 rfl (q1.at (j := 0) rfl) (q1.at (j := 1) rfl) (q1.at (j := 2) rfl)) rfl ?_
  have hsz0 := hbw.size
  refine EL.call (cl_14 rfl) rfl (copied_big c _ _ vs _ B (hr.below (hbw.mono hB)) (Nat.le_trans hB hbw.size) hn1 hn2 hfit) ?_
  rintro e w3 ⟨⟨va_, vb_, ws, rfl, ho⟩, hc3⟩
  refine ⟨_, rfl, ?_⟩
  replace q1 := q1.below hc3 q1.lt
  replace q2 := q2.below hc3 q2.lt
  replace hbw := Below.on hbw hc3 hbw.size
  clear hc3
  replace ho := ho.less hsz0
  obtain ⟨AB, cB, rfl, _⟩ := (Rd.of_own ho.clocks).shape
  obtain ⟨AL, cL, rfl, _⟩ := (Rd.of_own ho.clues.own).shape
  refine EL.newS (bs_26_0) rfl ?_
  intro g4 w4 q4 hb4 hg4 hl4
  have n1_4 : g1 ≠ g4 := Nat.ne_of_lt (Nat.lt_of_lt_of_le q1.lt hg4)
  have n2_4 : g2 ≠ g4 := Nat.ne_of_lt (Nat.lt_of_lt_of_le q2.lt hg4)
  have bhbw_4 := Nat.le_trans hbw.size hg4
  replace q1 := q1.below hb4 q1.lt
  replace q2 := q2.below hb4 q2.lt
  replace ho := ho.below hb4
  replace hbw := Below.on hbw hb4 hbw.size
  clear hb4 hg4 hl4
  refine EL.newS (bs_26_0) rfl ?_
  intro g5 w5 q5 hb5 hg5 hl5
  have n1_5 : g1 ≠ g5 := Nat.ne_of_lt (Nat.lt_of_lt_of_le q1.lt hg5)
  have n2_5 : g2 ≠ g5 := Nat.ne_of_lt (Nat.lt_of_lt_of_le q2.lt hg5)
  have n4_5 : g4 ≠ g5 := Nat.ne_of_lt (Nat.lt_of_lt_of_le q4.lt hg5)
  have bhbw_5 := Nat.le_trans hbw.size hg5
  replace q1 := q1.below hb5 q1.lt
  replace q2 := q2.below hb5 q2.lt
  replace q4 := q4.below hb5 q4.lt
  replace ho := ho.below hb5
  replace hbw := Below.on hbw hb5 hbw.size
  clear hb5 hg5 hl5
  refine EL.newS (bs_26_0) rfl ?_
  intro g6 w6 q6 hb6 hg6 hl6
  have n1_6 : g1 ≠ g6 := Nat.ne_of_lt (Nat.lt_of_lt_of_le q1.lt hg6)
  have n2_6 : g2 ≠ g6 := Nat.ne_of_lt (Nat.lt_of_lt_of_le q2.lt hg6)
  have n4_6 : g4 ≠ g6 := Nat.ne_of_lt (Nat.lt_of_lt_of_le q4.lt hg6)
  have n5_6 : g5 ≠ g6 := Nat.ne_of_lt (Nat.lt_of_lt_of_le q5.lt hg6)
  have bhbw_6 := Nat.le_trans hbw.size hg6
  replace q1 := q1.below hb6 q1.lt
  replace q2 := q2.below hb6 q2.lt
  replace q4 := q4.below hb6 q4.lt
  replace q5 := q5.below hb6 q5.lt
  replace ho := ho.below hb6
  replace hbw := Below.on hbw hb6 hbw.size
  clear hb6 hg6 hl6
  refine EL.newP al_25 rfl ?_
  intro g7 w7 q7 hb7 hg7 hl7
  have n1_7 : g1 ≠ g7 := Nat.ne_of_lt (Nat.lt_of_lt_of_le q1.lt hg7)
  have n2_7 : g2 ≠ g7 := Nat.ne_of_lt (Nat.lt_of_lt_of_le q2.lt hg7)
  have n4_7 : g4 ≠ g7 := Nat.ne_of_lt (Nat.lt_of_lt_of_le q4.lt hg7)
  have n5_7 : g5 ≠ g7 := Nat.ne_of_lt (Nat.lt_of_lt_of_le q5.lt hg7)
  have n6_7 : g6 ≠ g7 := Nat.ne_of_lt (Nat.lt_of_lt_of_le q6.lt hg7)
  have bhbw_7 := Nat.le_trans hbw.size hg7
  replace q1 := q1.below hb7 q1.lt
  replace q2 := q2.below hb7 q2.lt
  replace q4 := q4.below hb7 q4.lt
  replace q5 := q5.below hb7 q5.lt
  replace q6 := q6.below hb7 q6.lt
  replace ho := ho.below hb7
  replace hbw := Below.on hbw hb7 hbw.size
  clear hb7 hg7 hl7
  refine EL.store rfl rfl q7 sz_25 rfl rfl rfl rfl ?_
  intro w8 hq8 hg8
  replace q1 := q1.grown hg8 (fun h => n1_7 (Option.some.inj h))
  replace q2 := q2.grown hg8 (fun h => n2_7 (Option.some.inj h))
  replace q4 := q4.grown hg8 (fun h => n4_7 (Option.some.inj h))
  replace q5 := q5.grown hg8 (fun h => n5_7 (Option.some.inj h))
  replace q6 := q6.grown hg8 (fun h => n6_7 (Option.some.inj h))
  replace ho := ho.type q7 rfl rfl rfl hg8
  replace hbw := below_store hbw hg8 bhbw_7
  replace q7 := hq8
  clear hg8 hq8
  refine EL.val (x_assign rfl) rfl ?_
  refine EL.val (x_assign rfl) rfl ?_
  refine EL.val (x_assign rfl) rfl ?_
  refine EL.nil ?_
  refine EX.seq ?_
  refine EC.seq ?_
  refine EC.seq ?_
  refine EC.region ?_
  refine EL.val (ld_25 rfl (q7.at (j := 0) rfl) (q7.at (j := 1) rfl) (q7.at (j := 2) rfl)) rfl ?_
  refine EL.call (cl_11 rfl) rfl (large_any c _ _ ws _ _ ho.rd (Nat.le_refl _) hn1 hn2) ?_
  rintro e wB ⟨⟨bB, rfl, hsm⟩, hcB⟩
  cases bB
  ·
    replace hsm := hsm rfl
    have hk1 : c.clocks.length ≤ 1073741824 := by have := hsm.clocks; omega
    have hk2 : c.clues.length ≤ 1073741824 := by have := hsm.clues; omega
    refine ⟨_, rfl, ?_⟩
    replace q1 := q1.below hcB q1.lt
    replace q2 := q2.below hcB q2.lt
    replace q4 := q4.below hcB q4.lt
    replace q5 := q5.below hcB q5.lt
    replace q6 := q6.below hcB q6.lt
    replace q7 := q7.below hcB q7.lt
    replace ho := ho.below hcB
    replace hbw := Below.on hbw hcB hbw.size
    clear hcB
    refine EL.val (x_move rfl) rfl ?_
    refine EL.valg rfl rfl (fa_25_0 rfl) rfl ?_
    refine EL.valg rfl rfl (ld_3 rfl (q7.at (j := 0) rfl)) rfl ?_
    by_cases he1 : c.events < 1
    ·
      refine EL.valg rfl rfl (x_lss rfl rfl (by first | assumption | exact decide_eq_true (by omega))) rfl ?_
      refine EL.val (x_pick_f rfl rfl) rfl ?_
      refine EL.val (x_move rfl) rfl ?_
      refine EL.skip rfl rfl rfl rfl ?_
      refine EL.skip rfl rfl rfl rfl ?_
      refine EL.skip rfl rfl rfl rfl ?_
      refine EL.val (x_pick_t rfl rfl) rfl ?_
      refine EL.val (x_move rfl) rfl ?_
      refine EL.skip rfl rfl rfl rfl ?_
      refine EL.skip rfl rfl rfl rfl ?_
      refine EL.skip rfl rfl rfl rfl ?_
      refine EL.skip rfl rfl rfl rfl ?_
      refine EL.val (x_pick_t rfl rfl) rfl ?_
      refine EL.nil ?_
      refine EX.seq ?_
      refine EC.yes rfl ?_
      refine EC.seq ?_
      refine EC.region ?_
      refine EL.val (ld_25 rfl (q7.at (j := 0) rfl) (q7.at (j := 1) rfl) (q7.at (j := 2) rfl)) rfl ?_
      refine EL.store rfl rfl q2 sz_25 rfl rfl rfl rfl ?_
      intro w9 hq9 hg9
      replace q1 := q1.grown hg9 (fun h => n1_2 (Option.some.inj h))
      replace q4 := q4.grown hg9 (fun h => n2_4.symm (Option.some.inj h))
      replace q5 := q5.grown hg9 (fun h => n2_5.symm (Option.some.inj h))
      replace q6 := q6.grown hg9 (fun h => n2_6.symm (Option.some.inj h))
      replace q7 := q7.grown hg9 (fun h => n2_7.symm (Option.some.inj h))
      replace ho := ho.type q2 rfl rfl rfl hg9
      replace hbw := below_store hbw hg9 bhbw_2
      replace q2 := hq9
      clear hg9 hq9
      refine EL.val (x_assign rfl) rfl ?_
      refine EL.val (x_assign rfl) rfl ?_
      refine EL.val (x_assign rfl) rfl ?_
      refine EL.val (x_assign rfl) rfl ?_
      refine EL.nil ?_
      refine EX.seq ?_
      refine EC.ret ?_
      refine EX.seq_ret ?_
      exact EX.done (resc5 rfl rfl rfl rfl rfl rfl (lv_25 (q2.at (j := 0) rfl) (q2.at (j := 1) rfl) (q2.at (j := 2) rfl))) ⟨.inl ⟨_, _, _, _, _, _, rfl⟩, hbw⟩
    ·
      refine EL.valg rfl rfl (x_lss rfl rfl (by first | assumption | exact decide_eq_false (by omega))) rfl ?_
      refine EL.val (x_pick_f rfl rfl) rfl ?_
      refine EL.val (x_move rfl) rfl ?_
      refine EL.valg rfl rfl (fa_25_0 rfl) rfl ?_
      refine EL.valg rfl rfl (ld_3 rfl (q7.at (j := 0) rfl)) rfl ?_
      by_cases he2 : 20 < c.events
      ·
        refine EL.valg rfl rfl (x_gtr rfl rfl (by first | assumption | exact decide_eq_true (by omega))) rfl ?_
        refine EL.val (x_pick_f rfl rfl) rfl ?_
        refine EL.val (x_move rfl) rfl ?_
        refine EL.skip rfl rfl rfl rfl ?_
        refine EL.skip rfl rfl rfl rfl ?_
        refine EL.skip rfl rfl rfl rfl ?_
        refine EL.skip rfl rfl rfl rfl ?_
        refine EL.val (x_pick_t rfl rfl) rfl ?_
        refine EL.nil ?_
        refine EX.seq ?_
        refine EC.yes rfl ?_
        refine EC.seq ?_
        refine EC.region ?_
        refine EL.val (ld_25 rfl (q7.at (j := 0) rfl) (q7.at (j := 1) rfl) (q7.at (j := 2) rfl)) rfl ?_
        refine EL.store rfl rfl q2 sz_25 rfl rfl rfl rfl ?_
        intro w10 hq10 hg10
        replace q1 := q1.grown hg10 (fun h => n1_2 (Option.some.inj h))
        replace q4 := q4.grown hg10 (fun h => n2_4.symm (Option.some.inj h))
        replace q5 := q5.grown hg10 (fun h => n2_5.symm (Option.some.inj h))
        replace q6 := q6.grown hg10 (fun h => n2_6.symm (Option.some.inj h))
        replace q7 := q7.grown hg10 (fun h => n2_7.symm (Option.some.inj h))
        replace ho := ho.type q2 rfl rfl rfl hg10
        replace hbw := below_store hbw hg10 bhbw_2
        replace q2 := hq10
        clear hg10 hq10
        refine EL.val (x_assign rfl) rfl ?_
        refine EL.val (x_assign rfl) rfl ?_
        refine EL.val (x_assign rfl) rfl ?_
        refine EL.val (x_assign rfl) rfl ?_
        refine EL.nil ?_
        refine EX.seq ?_
        refine EC.ret ?_
        refine EX.seq_ret ?_
        exact EX.done (resc5 rfl rfl rfl rfl rfl rfl (lv_25 (q2.at (j := 0) rfl) (q2.at (j := 1) rfl) (q2.at (j := 2) rfl))) ⟨.inl ⟨_, _, _, _, _, _, rfl⟩, hbw⟩
      ·
        refine EL.valg rfl rfl (x_gtr rfl rfl (by first | assumption | exact decide_eq_false (by omega))) rfl ?_
        refine EL.val (x_pick_f rfl rfl) rfl ?_
        refine EL.val (x_move rfl) rfl ?_
        refine EL.valg rfl rfl (ld_25 rfl (q7.at (j := 0) rfl) (q7.at (j := 1) rfl) (q7.at (j := 2) rfl)) rfl ?_
        refine EL.callg rfl rfl (cl_14 rfl) rfl (copied_any c _ _ ws _ _ ho.rd (Nat.le_refl _) hk1 hk2 hsm) ?_
        rintro e w11 ⟨⟨va2, vb2, ws2, rfl, ho2⟩, hc11⟩
        refine ⟨_, rfl, ?_⟩
        replace q1 := q1.below hc11 q1.lt
        replace q2 := q2.below hc11 q2.lt
        replace q4 := q4.below hc11 q4.lt
        replace q5 := q5.below hc11 q5.lt
        replace q6 := q6.below hc11 q6.lt
        replace q7 := q7.below hc11 q7.lt
        replace ho := ho.below hc11
        replace hbw := Below.on hbw hc11 hbw.size
        clear hc11
        have hr2 := ho2.rd
        obtain ⟨Ad2, cd2, rfl, _⟩ := hr2.clocks.shape
        obtain ⟨Am2, cm2, rfl, _⟩ := hr2.clues.rd.shape
        have hb2 := Below.refl w11.heap.size w11
        by_cases hcb : caseB c = true
        ·
          refine EL.callg rfl rfl (cl_25 rfl) rfl (check_ok hcb _ _ ws2 _ _ (hr2.below hb2) hb2.size hk1 hk2) ?_
          rintro e w12 ⟨rfl, hc12⟩
          refine ⟨_, rfl, ?_⟩
          replace q1 := q1.below hc12 q1.lt
          replace q2 := q2.below hc12 q2.lt
          replace q4 := q4.below hc12 q4.lt
          replace q5 := q5.below hc12 q5.lt
          replace q6 := q6.below hc12 q6.lt
          replace q7 := q7.below hc12 q7.lt
          replace ho := ho.below hc12
          replace hbw := Below.on hbw hc12 hbw.size
          replace hb2 := Below.on hb2 hc12 hb2.size
          clear hc12
          refine EL.valg rfl rfl (x_neq (r := false) rfl rfl (by decide)) rfl ?_
          refine EL.val (x_pick_f rfl rfl) rfl ?_
          refine EL.nil ?_
          refine EX.seq ?_
          refine EC.no rfl ?_
          refine EC.skip ?_
          refine EX.seq ?_
          refine EC.seq ?_
          refine EC.seq ?_
          refine EC.region ?_
          refine EL.val (x_assign rfl) rfl ?_
          refine EL.nil ?_
          refine EX.seq ?_
          refine EC.block ?_
          obtain ⟨hev, h8, h20, hck, hcl⟩ := caseB_ok hcb
          obtain ⟨Ne, eN⟩ : ∃ N : Nat, c.events = N := ⟨c.events.toNat, by omega⟩
          have eN2 : c.events.toNat = Ne := by omega
          have h3 : Rows3 w12 w.heap.size (.slice (some ⟨g4, 0, none⟩) 0 0) (.slice (some ⟨g5, 0, none⟩) 0 0) (.slice (some ⟨g6, 0, none⟩) 0 0) [] [] [] := ⟨own_empty 1 q4 bhbw_4, own_empty 1 q5 bhbw_5, own_empty 1 q6 bhbw_6, fun g h1 h2 => n4_5 (Option.some.inj (h1.trans h2.symm)), fun g h1 h2 => n4_6 (Option.some.inj (h1.trans h2.symm)), fun g h1 h2 => n5_6 (Option.some.inj (h1.trans h2.symm))⟩
          refine EC.loopD [10, 13, 14, 47, 48, 49, 50, 51, 52, 53, 54, 55, 56, 57, 58, 59, 60, 61, 62, 63, 64, 65, 66, 67, 68, 69, 70] (fun x : Nat × Value => [(10, x.2), (13, .int .i64 (x.1 : Nat))]) (fun x W => x.1 ≤ Ne ∧ Blk W g1 65 #[.int .i64 c.events, .slice Ac c.clocks.length cc_, .slice Al c.clues.length cl_, .slice Am xm.length cm_, .slice Af xf.length cf_] ∧ Blk W g2 25 #[.int .i64 0, .slice none 0 0, .slice none 0 0] ∧ Blk W g7 25 #[.int .i64 c.events, .slice AB c.clocks.length cB, .slice AL c.clues.length cL] ∧ OwnCase W w.heap.size (.slice AB c.clocks.length cB) (.slice AL c.clues.length cL) c ws ∧ Rows3 W w.heap.size x.2 (.slice (some ⟨g5, 0, none⟩) 0 0) (.slice (some ⟨g6, 0, none⟩) 0 0) (minsL xm x.1) [] [] ∧ Below w.heap.size w W) (fun x => Ne - x.1) (0, (.slice (some ⟨g4, 0, none⟩) 0 0)) ⟨Nat.zero_le _, q1, q2, q7, ho, h3, hbw⟩ ⟨rfl, rfl, trivial⟩ ?_
          clear q1 q2 q7 ho h3 hbw
          rintro ⟨x, v⟩ wx ⟨hx, q1x, q4x, q9x, ho, h3, hbw⟩
          dsimp only at hx h3
          have hml := minsL_len xm x
          obtain ⟨AV, cV, eV, _⟩ := (Rd.of_own h3.r1).shape
          rw [hml] at eV
          subst eV
          by_cases hlt : x < Ne
          ·
            refine EC.seq ?_
            refine EC.seq ?_
            refine EC.region ?_
            refine EL.val (x_move rfl) rfl ?_
            refine EL.val (fa_25_0 rfl) rfl ?_
            refine EL.val (ld_3 rfl (q9x.at (j := 0) rfl)) rfl ?_
            refine EL.val (x_lss rfl rfl (decide_eq_true (show ((x : Nat) : Int) < c.events by omega))) rfl ?_
            refine EL.nil ?_
            refine EX.seq ?_
            refine EC.yes rfl ?_
            refine EC.skip ?_
            refine EX.seq ?_
            refine EC.seq ?_
            refine EC.block ?_
            refine EC.seq ?_
            refine EC.region ?_
            refine EL.val (x_assign rfl) rfl ?_
            refine EL.nil ?_
            refine EX.seq ?_
            refine EC.seq ?_
            refine EC.seq ?_
            refine EC.region ?_
            refine EL.val (fa_65_1 rfl) rfl ?_
            refine EL.val (ld_62 rfl (q1x.at (j := 3) rfl)) rfl ?_
            refine EL.val (ln_62 rfl) rfl ?_
            by_cases h0 : xm.length = 0
            ·
              have hp : minAt xm x = 0 := by rw [minAt, if_pos h0]
              refine EL.val (x_gtr (r := false) rfl rfl (decide_eq_false (by omega))) rfl ?_
              refine EL.nil ?_
              refine EX.seq ?_
              refine EC.no rfl ?_
              refine EC.skip ?_
              refine EX.seq ?_
              refine EC.region ?_
              refine EL.val (x_move rfl) rfl ?_
              refine EL.val (x_move rfl) rfl ?_
              refine EL.newS (bs_26_1 rfl) rfl ?_
              intro g13 w13 q13 hb13 hg13 hl13
              have n1_13 : g1 ≠ g13 := Nat.ne_of_lt (Nat.lt_of_lt_of_le q1x.lt hg13)
              have n2_13 : g2 ≠ g13 := Nat.ne_of_lt (Nat.lt_of_lt_of_le q4x.lt hg13)
              have n7_13 : g7 ≠ g13 := Nat.ne_of_lt (Nat.lt_of_lt_of_le q9x.lt hg13)
              have bhbw_13 := Nat.le_trans hbw.size hg13
              replace q1x := q1x.below hb13 q1x.lt
              replace q4x := q4x.below hb13 q4x.lt
              replace q9x := q9x.below hb13 q9x.lt
              replace ho := ho.below hb13
              replace h3 := h3.below hb13
              replace hbw := Below.on hbw hb13 hbw.size
              clear hb13 hg13 hl13
              have hr_ := h3.r1
              refine EL.push i64_elem rfl rfl hr_ (rd_one (l := [.int .i64 0]) q13 rfl) (by intro u hu; rw [List.mem_singleton.1 hu]; rfl) (by omega) rfl hbw.size rfl ?_
              intro v14 w14 hn_ hgr hb_ hat_
              have h3n := h3.push1 hgr hn_ (at_grown hat_)
              replace q1x := blk_grown q1x hr_ rfl hgr
              replace q4x := blk_grown q4x hr_ rfl hgr
              replace q9x := blk_grown q9x hr_ rfl hgr
              replace ho := ho.grown hr_ rfl rfl rfl hgr
              replace hbw := hbw.trans hb_
              clear h3
              have h3 := h3n
              clear h3n hn_ hgr hb_ hat_ hr_
              refine EL.val (x_assign rfl) rfl ?_
              refine EL.nil ?_
              refine EX.blk ?_
              refine EX.seq ?_
              refine EC.region ?_
              refine EL.val (x_move rfl) rfl ?_
              refine EL.val (x_add rfl rfl (c := ((x + 1 : Nat) : Int)) ((IntWalk.i64_in _ ⟨by first | omega | (simp only; omega), by first | omega | (simp only; omega)⟩).trans (by first | omega | (simp only; omega)))) rfl ?_
              refine EL.val (x_assign rfl) rfl ?_
              refine EL.nil ?_
              refine EX.roundD (x + 1, _) ⟨rfl, rfl, trivial⟩ (by repeat first | with_reducible exact Sub.refl _ | refine sub_past rfl ?_ | exact Sub.refl _ | refine sub_del rfl ?_ | refine sub_insL_nil ?_) ⟨hlt, q1x, q4x, q9x, ho, by rw [minsL_succ, hp]; exact h3, hbw⟩ (by simp only; omega)
            ·
              have hk : x % xm.length < xm.length := Nat.mod_lt _ (by omega)
              have hp : minAt xm x = xm.getD (x % xm.length) 0 := by rw [minAt, if_neg h0]
              have hmb := minAt_bd hxm x
              obtain ⟨bm, om, e_, _, hc_⟩ := hrm.at_ (by omega)
              subst e_
              have c0 := hc_ (x % xm.length) (.int .u16 (minAt xm x)) (by rw [hp]; simp [u16s, hk])
              refine EL.val (x_gtr (r := true) rfl rfl (decide_eq_true (by omega))) rfl ?_
              refine EL.nil ?_
              refine EX.seq ?_
              refine EC.yes rfl ?_
              refine EC.regionQ (by kernel_rfl) (by kernel_rfl) ?_
              refine EQ.val (fun _ hw => (fa_65_1 rfl)) rfl ?_
              refine EQ.val (fun _ hw => (ld_62 rfl (below_load hw (q1x.at (j := 3) rfl)))) rfl ?_
              refine EQ.val (fun _ hw => (x_move rfl)) rfl ?_
              refine EQ.val (fun _ hw => (fa_65_1 rfl)) rfl ?_
              refine EQ.val (fun _ hw => (ld_62 rfl (below_load hw (q1x.at (j := 3) rfl)))) rfl ?_
              refine EQ.val (fun _ hw => (ln_62 rfl)) rfl ?_
              refine EQ.val (fun _ hw => (x_rem rfl rfl (c := ((x % xm.length : Nat) : Int)) (by omega) rfl)) rfl ?_
              refine EQ.val (fun _ hw => (ix_62 rfl rfl hk)) rfl ?_
              refine EQ.val (fun _ hw => (ld_99 rfl (below_load hw (below_load hbw c0)))) rfl ?_
              refine EQ.val (fun _ hw => (cv_99_3 rfl (IntWalk.i64_in _ ⟨by omega, by omega⟩))) rfl ?_
              refine EQ.val (fun _ hw => (x_assign rfl)) rfl ?_
              refine EQ.fin (fun w15 hw_ => ?_)
              replace q1x := q1x.below hw_ q1x.lt
              replace q4x := q4x.below hw_ q4x.lt
              replace q9x := q9x.below hw_ q9x.lt
              replace ho := ho.below hw_
              replace h3 := h3.below hw_
              replace hbw := Below.on hbw hw_ hbw.size
              clear hw_
              refine EX.seq ?_
              refine EC.region ?_
              refine EL.val (x_move rfl) rfl ?_
              refine EL.val (x_move rfl) rfl ?_
              refine EL.newS (bs_26_1 rfl) rfl ?_
              intro g16 w16 q16 hb16 hg16 hl16
              have n1_16 : g1 ≠ g16 := Nat.ne_of_lt (Nat.lt_of_lt_of_le q1x.lt hg16)
              have n2_16 : g2 ≠ g16 := Nat.ne_of_lt (Nat.lt_of_lt_of_le q4x.lt hg16)
              have n7_16 : g7 ≠ g16 := Nat.ne_of_lt (Nat.lt_of_lt_of_le q9x.lt hg16)
              have bhbw_16 := Nat.le_trans hbw.size hg16
              replace q1x := q1x.below hb16 q1x.lt
              replace q4x := q4x.below hb16 q4x.lt
              replace q9x := q9x.below hb16 q9x.lt
              replace ho := ho.below hb16
              replace h3 := h3.below hb16
              replace hbw := Below.on hbw hb16 hbw.size
              clear hb16 hg16 hl16
              have hr_ := h3.r1
              refine EL.push i64_elem rfl rfl hr_ (rd_one (l := [.int .i64 (minAt xm x)]) q16 rfl) (by intro u hu; rw [List.mem_singleton.1 hu]; rfl) (by omega) rfl hbw.size rfl ?_
              intro v17 w17 hn_ hgr hb_ hat_
              have h3n := h3.push1 hgr hn_ (at_grown hat_)
              replace q1x := blk_grown q1x hr_ rfl hgr
              replace q4x := blk_grown q4x hr_ rfl hgr
              replace q9x := blk_grown q9x hr_ rfl hgr
              replace ho := ho.grown hr_ rfl rfl rfl hgr
              replace hbw := hbw.trans hb_
              clear h3
              have h3 := h3n
              clear h3n hn_ hgr hb_ hat_ hr_
              refine EL.val (x_assign rfl) rfl ?_
              refine EL.nil ?_
              refine EX.blk ?_
              refine EX.seq ?_
              refine EC.region ?_
              refine EL.val (x_move rfl) rfl ?_
              refine EL.val (x_add rfl rfl (c := ((x + 1 : Nat) : Int)) ((IntWalk.i64_in _ ⟨by first | omega | (simp only; omega), by first | omega | (simp only; omega)⟩).trans (by first | omega | (simp only; omega)))) rfl ?_
              refine EL.val (x_assign rfl) rfl ?_
              refine EL.nil ?_
              refine EX.roundD (x + 1, _) ⟨rfl, rfl, trivial⟩ (by repeat first | with_reducible exact Sub.refl _ | refine sub_past rfl ?_ | exact Sub.refl _ | refine sub_del rfl ?_ | refine sub_insL_nil ?_) ⟨hlt, q1x, q4x, q9x, ho, by rw [minsL_succ]; exact h3, hbw⟩ (by simp only; omega)
          ·
            have hxN : x = Ne := by omega
            refine EC.seq ?_
            refine EC.seq ?_
            refine EC.region ?_
            refine EL.val (x_move rfl) rfl ?_
            refine EL.val (fa_25_0 rfl) rfl ?_
            refine EL.val (ld_3 rfl (q9x.at (j := 0) rfl)) rfl ?_
            refine EL.val (x_lss rfl rfl (decide_eq_false (show ¬((x : Nat) : Int) < c.events by omega))) rfl ?_
            refine EL.nil ?_
            refine EX.seq ?_
            refine EC.no rfl ?_
            refine EC.exit ?_
            refine EX.seq_exit ?_
            refine EX.seq_exit ?_
            refine EX.blk_here ?_
            refine EX.seq ?_
            refine EC.seq ?_
            refine EC.seq ?_
            refine EC.region ?_
            refine EL.val (x_assign rfl) rfl ?_
            refine EL.nil ?_
            refine EX.seq ?_
            refine EC.block ?_
            obtain ⟨M, eM⟩ : ∃ z, z = (minsL xm x) := ⟨_, rfl⟩
            rw [← eM] at h3 hml
            refine EC.loopD [11, 15, 16, 71, 72, 73, 74, 75, 76, 77, 78, 79, 80, 81, 82, 83, 84, 85, 86, 87, 88, 89, 90, 91, 92, 93, 94, 95, 96, 97, 98, 99, 100] (fun y : Nat × Value => [(11, y.2), (15, .int .i64 (y.1 : Nat))]) (fun y W => y.1 ≤ c.clocks.length ∧ Blk W g1 65 #[.int .i64 c.events, .slice Ac c.clocks.length cc_, .slice Al c.clues.length cl_, .slice Am xm.length cm_, .slice Af xf.length cf_] ∧ Blk W g2 25 #[.int .i64 0, .slice none 0 0, .slice none 0 0] ∧ Blk W g7 25 #[.int .i64 c.events, .slice AB c.clocks.length cB, .slice AL c.clues.length cL] ∧ OwnCase W w.heap.size (.slice AB c.clocks.length cB) (.slice AL c.clues.length cL) c ws ∧ Rows3 W w.heap.size (.slice AV x cV) y.2 (.slice (some ⟨g6, 0, none⟩) 0 0) M (fastL c xf y.1) [] ∧ Below w.heap.size w W) (fun y => c.clocks.length - y.1) (0, (.slice (some ⟨g5, 0, none⟩) 0 0)) ⟨Nat.zero_le _, q1x, q4x, q9x, ho, h3, hbw⟩ ⟨rfl, rfl, trivial⟩ ?_
            clear q1x q4x q9x ho h3 hbw
            rintro ⟨y_, v⟩ wy ⟨hy, q1y, q4y, q9y, ho, h3, hbw⟩
            dsimp only at hy h3
            have hfl := fastL_len c xf y_
            obtain ⟨AF, cF, eF, _⟩ := (Rd.of_own h3.r2).shape
            rw [hfl] at eF
            subst eF
            by_cases hlt : y_ < c.clocks.length
            ·
              have hbz := Below.refl wy.heap.size wy
              have hlt0 := fun g h => (ho.clocks.lt g h).2
              obtain ⟨bc, oc, e_, _, cl0, cl1⟩ := bds_cells c.clocks y_ hlt wy _ _ _ _ (Rd.of_own ho.clocks)
              subst e_
              have hbk := bdOk_iff.1 (hck y_ hlt)
              obtain ⟨bb, eb⟩ : ∃ z, z = c.clocks.getD y_ bd0 := ⟨_, rfl⟩
              rw [← eb] at cl0 cl1 hbk
              have hpr := part_bd hxf y_
              have hfa : bb.lo + ((bb.hi - bb.lo) * partI xf y_).tdiv 255 = fastAt c xf y_ := by rw [fastAt, ← eb]
              have hfi := fast_in hbk.2.1 hpr
              rw [hfa] at hfi
              have hD0 : 0 ≤ (bb.hi - bb.lo) * partI xf y_ := Int.mul_nonneg (by omega) hpr.1
              have hD1 : (bb.hi - bb.lo) * partI xf y_ ≤ (bb.hi - bb.lo) * 255 := Int.mul_le_mul_of_nonneg_left hpr.2 (by omega)
              refine EC.seq ?_
              refine EC.seq ?_
              refine EC.region ?_
              refine EL.val (x_move rfl) rfl ?_
              refine EL.val (fa_25_1 rfl) rfl ?_
              refine EL.val (ld_22 rfl (q9y.at (j := 1) rfl)) rfl ?_
              refine EL.val (ln_22 rfl) rfl ?_
              refine EL.val (x_lss rfl rfl (decide_eq_true (show (((y_ : Nat) : Int) < ((c.clocks.length : Nat) : Int)) by omega))) rfl ?_
              refine EL.nil ?_
              refine EX.seq ?_
              refine EC.yes rfl ?_
              refine EC.skip ?_
              refine EX.seq ?_
              refine EC.seq ?_
              refine EC.block ?_
              refine EC.seq ?_
              refine EC.region ?_
              refine EL.val (fa_25_1 rfl) rfl ?_
              refine EL.val (ld_22 rfl (q9y.at (j := 1) rfl)) rfl ?_
              refine EL.val (x_move rfl) rfl ?_
              refine EL.val (ix_22 rfl rfl hlt) rfl ?_
              refine EL.val (ld_54 rfl (below_load hbz cl0) (below_load hbz cl1)) rfl ?_
              refine EL.newP al_54 rfl ?_
              intro g18 w18 q18 hb18 hg18 hl18
              have n1_18 : g1 ≠ g18 := Nat.ne_of_lt (Nat.lt_of_lt_of_le q1y.lt hg18)
              have n2_18 : g2 ≠ g18 := Nat.ne_of_lt (Nat.lt_of_lt_of_le q4y.lt hg18)
              have n7_18 : g7 ≠ g18 := Nat.ne_of_lt (Nat.lt_of_lt_of_le q9y.lt hg18)
              have bhbw_18 := Nat.le_trans hbw.size hg18
              have bhbz_18 := Nat.le_trans hbz.size hg18
              replace q1y := q1y.below hb18 q1y.lt
              replace q4y := q4y.below hb18 q4y.lt
              replace q9y := q9y.below hb18 q9y.lt
              replace ho := ho.below hb18
              replace h3 := h3.below hb18
              replace hbw := Below.on hbw hb18 hbw.size
              replace hbz := Below.on hbz hb18 hbz.size
              clear hb18 hg18 hl18
              refine EL.store rfl rfl q18 sz_54 rfl rfl rfl rfl ?_
              intro w19 hq19 hg19
              replace q1y := q1y.grown hg19 (fun h => n1_18 (Option.some.inj h))
              replace q4y := q4y.grown hg19 (fun h => n2_18 (Option.some.inj h))
              replace q9y := q9y.grown hg19 (fun h => n7_18 (Option.some.inj h))
              replace ho := ho.newer q18 (fun g' h => Nat.ne_of_lt (Nat.lt_of_lt_of_le (hlt0 g' h) bhbz_18)) hg19
              replace h3 := h3.type q18 rfl hg19
              replace hbw := below_store hbw hg19 bhbw_18
              replace hbz := below_store hbz hg19 bhbz_18
              replace q18 := hq19
              clear hg19 hq19
              refine EL.nil ?_
              refine EX.seq ?_
              have h3r2 := h3.r2
              have hW := below_row h3r2 (w1 := w19) ⟨rfl, rfl, rfl, Nat.le_refl _, fun _ _ _ => rfl⟩ hbw.size
              clear hW
              have lt_1 := q1y.lt
              have lt_2 := q4y.lt
              have lt_7 := q9y.lt
              have lt_18 := q18.lt
              refine EC.regionS [[], [], [1], [], [3], [], [5], [3, 4, 5, 6], [], [8], [], [8, 9, 10], [8, 9, 10, 11], [3, 4, 5, 6, 7, 8, 9, 10, 11, 12], [3, 4, 5, 6, 7, 8, 9, 10, 11, 12, 13], [1, 2, 3, 4, 5, 6, 7, 8, 9, 10, 11, 12, 13, 14], [1, 2, 3, 4, 5, 6, 7, 8, 9, 10, 11, 12, 13, 14, 15], [0, 1, 2, 3, 4, 5, 6, 7, 8, 9, 10, 11, 12, 13, 14, 15, 16], [0, 1, 2, 3, 4, 5, 6, 7, 8, 9, 10, 11, 12, 13, 14, 15, 16, 17]] 18 [] [17] (fun fl w_ => w19.grownBy w_ ((.slice AF y_ cF) : Value).ownBlock ∧ (fl 17 = false → w_.ownsRow w.heap.size 3 1 (.slice AF y_ cF) (fastL c xf y_).length (ints (fastL c xf y_)))) (phiS (fun i_ r => match i_ with | 0 => r 0 = .slice AF y_ cF | 1 => r 1 = .pointer (some ⟨g18, 0, none⟩) | 2 => r 2 = .int .i64 bb.lo | 3 => r 3 = .pointer (some ⟨g18, 1, none⟩) | 4 => r 4 = .int .i64 bb.hi | 5 => r 5 = .pointer (some ⟨g18, 0, none⟩) | 6 => r 6 = .int .i64 bb.lo | 7 => r 7 = .int .i64 (bb.hi - bb.lo) | 8 => r 8 = .pointer (some ⟨g1, 4, none⟩) | 9 => r 9 = .slice Af xf.length cf_ | 10 => r 10 = .int .i64 (y_ : Nat) | 11 => r 11 = .int .u8 (partI xf y_) | 12 => r 12 = .int .i64 (partI xf y_) | 13 => r 13 = .int .i64 ((bb.hi - bb.lo) * partI xf y_) | 14 => r 14 = .int .i64 (((bb.hi - bb.lo) * partI xf y_).tdiv 255) | 15 => r 15 = .int .i64 (fastAt c xf y_) | _ => True) [(16, fun fl r w_ => fl 17 = false → (∃ g_, r 16 = .slice (some ⟨g_, 0, none⟩) 1 1 ∧ Blk w_ g_ 3 #[.int .i64 (fastAt c xf y_)] ∧ w19.heap.size ≤ g_)), (17, fun _ r w_ => w_.ownsRow w.heap.size 3 1 (r 17) ((fastL c xf y_).length + 1) ((ints (fastL c xf y_)) ++ [.int .i64 (fastAt c xf y_)]) ∧ ∀ b, (r 17).ownBlock = some b → ((.slice AF y_ cF) : Value).ownBlock = some b ∨ w19.heap.size ≤ b)]) (by kernel_rfl) rfl rfl (by intro i hi; simp at hi; subst hi; exact ⟨by simp, by omega⟩) (base_row h3r2) (phiS_cons (monoS_till mono_bs) (phiS_cons (monoS_row (e := 17) (C := fun u_ => ∀ b, u_.ownBlock = some b → ((.slice AF y_ cF) : Value).ownBlock = some b ∨ w19.heap.size ≤ b)) (phiS_nil))) (fun i_ hi_ hs_ => ?_) (fun i_ hi_ => ?_) ?_
              · match i_, hi_ with
                | 0, _ =>
                  intro val fl w1 a hb ha hd hfl
                  obtain ⟨hgb, hg0⟩ := hb
                  have hb := below_row h3r2 hgb hbw.size
                  have ha := ha.sub (Sub.ins (d := 11) (Sub.nil _) rfl)
                  exact ss_val ha rfl rfl (x_move rfl) rfl rfl
                | 1, _ =>
                  intro val fl w1 a hb ha hd hfl
                  obtain ⟨hgb, hg0⟩ := hb
                  have hb := below_row h3r2 hgb hbw.size
                  have ha := ha.sub (Sub.ins (d := 16) (Sub.nil _) rfl)
                  exact ss_val ha rfl rfl (fa_54_0 rfl) rfl rfl
                | 2, _ =>
                  intro val fl w1 a hb ha hd hfl
                  obtain ⟨hgb, hg0⟩ := hb
                  have hb := below_row h3r2 hgb hbw.size
                  have e1 : val 1 = .pointer (some ⟨g18, 0, none⟩) := hd 1 (memB_mem.1 rfl)
                  have ha := ha.sub (Sub.ins (d := 84) (Sub.nil _) (dep_get rfl e1))
                  exact ss_val ha rfl rfl (ld_3 rfl ((blk_grown q18 h3r2 rfl hgb).at (j := 0) rfl)) rfl rfl
                | 3, _ =>
                  intro val fl w1 a hb ha hd hfl
                  obtain ⟨hgb, hg0⟩ := hb
                  have hb := below_row h3r2 hgb hbw.size
                  have ha := ha.sub (Sub.ins (d := 16) (Sub.nil _) rfl)
                  exact ss_val ha rfl rfl (fa_54_1 rfl) rfl rfl
                | 4, _ =>
                  intro val fl w1 a hb ha hd hfl
                  obtain ⟨hgb, hg0⟩ := hb
                  have hb := below_row h3r2 hgb hbw.size
                  have e3 : val 3 = .pointer (some ⟨g18, 1, none⟩) := hd 3 (memB_mem.1 rfl)
                  have ha := ha.sub (Sub.ins (d := 86) (Sub.nil _) (dep_get rfl e3))
                  exact ss_val ha rfl rfl (ld_3 rfl ((blk_grown q18 h3r2 rfl hgb).at (j := 1) rfl)) rfl rfl
                | 5, _ =>
                  intro val fl w1 a hb ha hd hfl
                  obtain ⟨hgb, hg0⟩ := hb
                  have hb := below_row h3r2 hgb hbw.size
                  have ha := ha.sub (Sub.ins (d := 16) (Sub.nil _) rfl)
                  exact ss_val ha rfl rfl (fa_54_0 rfl) rfl rfl
                | 6, _ =>
                  intro val fl w1 a hb ha hd hfl
                  obtain ⟨hgb, hg0⟩ := hb
                  have hb := below_row h3r2 hgb hbw.size
                  have e5 : val 5 = .pointer (some ⟨g18, 0, none⟩) := hd 5 (memB_mem.1 rfl)
                  have ha := ha.sub (Sub.ins (d := 88) (Sub.nil _) (dep_get rfl e5))
                  exact ss_val ha rfl rfl (ld_3 rfl ((blk_grown q18 h3r2 rfl hgb).at (j := 0) rfl)) rfl rfl
                | 7, _ =>
                  intro val fl w1 a hb ha hd hfl
                  obtain ⟨hgb, hg0⟩ := hb
                  have hb := below_row h3r2 hgb hbw.size
                  have e4 : val 4 = .int .i64 bb.hi := hd 4 (memB_mem.1 rfl)
                  have e6 : val 6 = .int .i64 bb.lo := hd 6 (memB_mem.1 rfl)
                  have ha := ha.sub (Sub.ins (d := 89) (Sub.ins (d := 87) (Sub.nil _) (dep_get rfl e4)) (dep_get rfl e6))
                  exact ss_val ha rfl rfl (x_sub rfl rfl (c := bb.hi - bb.lo) (IntWalk.i64_in _ ⟨by omega, by omega⟩)) rfl rfl
                | 8, _ =>
                  intro val fl w1 a hb ha hd hfl
                  obtain ⟨hgb, hg0⟩ := hb
                  have hb := below_row h3r2 hgb hbw.size
                  have ha := ha.sub (Sub.ins (d := 2) (Sub.nil _) rfl)
                  exact ss_val ha rfl rfl (fa_65_2 rfl) rfl rfl
                | 9, _ =>
                  intro val fl w1 a hb ha hd hfl
                  obtain ⟨hgb, hg0⟩ := hb
                  have hb := below_row h3r2 hgb hbw.size
                  have e8 : val 8 = .pointer (some ⟨g1, 4, none⟩) := hd 8 (memB_mem.1 rfl)
                  have ha := ha.sub (Sub.ins (d := 91) (Sub.nil _) (dep_get rfl e8))
                  exact ss_val ha rfl rfl (ld_63 rfl ((blk_grown q1y h3r2 rfl hgb).at (j := 4) rfl)) rfl rfl
                | 10, _ =>
                  intro val fl w1 a hb ha hd hfl
                  obtain ⟨hgb, hg0⟩ := hb
                  have hb := below_row h3r2 hgb hbw.size
                  have ha := ha.sub (Sub.ins (d := 15) (Sub.nil _) rfl)
                  exact ss_val ha rfl rfl (x_move rfl) rfl rfl
                | 11, _ =>
                  intro val fl w1 a hb ha hd hfl
                  obtain ⟨hgb, hg0⟩ := hb
                  have hb := below_row h3r2 hgb hbw.size
                  have e9 : val 9 = .slice Af xf.length cf_ := hd 9 (memB_mem.1 rfl)
                  have e10 : val 10 = .int .i64 (y_ : Nat) := hd 10 (memB_mem.1 rfl)
                  have ha := ha.sub (Sub.ins (d := 93) (Sub.ins (d := 92) (Sub.nil _) (dep_get rfl e9)) (dep_get rfl e10))
                  refine ss_call ha rfl rfl (cl_34 rfl rfl) (part_any xf _ y_ w1 B (hrf.below ((hbw.trans hb).mono hB)) hnf) rfl ?_
                  rintro e w' ⟨rfl, hb'⟩
                  exact ⟨_, rfl, hb', rfl⟩
                | 12, _ =>
                  intro val fl w1 a hb ha hd hfl
                  obtain ⟨hgb, hg0⟩ := hb
                  have hb := below_row h3r2 hgb hbw.size
                  have e11 : val 11 = .int .u8 (partI xf y_) := hd 11 (memB_mem.1 rfl)
                  have ha := ha.sub (Sub.ins (d := 94) (Sub.nil _) (dep_get rfl e11))
                  exact ss_val ha rfl rfl (cv_5_3 rfl (IntWalk.i64_in _ ⟨by omega, by omega⟩)) rfl rfl
                | 13, _ =>
                  intro val fl w1 a hb ha hd hfl
                  obtain ⟨hgb, hg0⟩ := hb
                  have hb := below_row h3r2 hgb hbw.size
                  have e7 : val 7 = .int .i64 (bb.hi - bb.lo) := hd 7 (memB_mem.1 rfl)
                  have e12 : val 12 = .int .i64 (partI xf y_) := hd 12 (memB_mem.1 rfl)
                  have ha := ha.sub (Sub.ins (d := 95) (Sub.ins (d := 90) (Sub.nil _) (dep_get rfl e7)) (dep_get rfl e12))
                  exact ss_val ha rfl rfl (x_mul rfl rfl (c := (bb.hi - bb.lo) * partI xf y_) (IntWalk.i64_in _ ⟨by omega, by omega⟩)) rfl rfl
                | 14, _ =>
                  intro val fl w1 a hb ha hd hfl
                  obtain ⟨hgb, hg0⟩ := hb
                  have hb := below_row h3r2 hgb hbw.size
                  have e13 : val 13 = .int .i64 ((bb.hi - bb.lo) * partI xf y_) := hd 13 (memB_mem.1 rfl)
                  have ha := ha.sub (Sub.ins (d := 96) (Sub.nil _) (dep_get rfl e13))
                  exact ss_val ha rfl rfl (x_quo rfl rfl (c := ((bb.hi - bb.lo) * partI xf y_).tdiv 255) (by decide) (IntWalk.i64_in _ ⟨by omega, by omega⟩)) rfl rfl
                | 15, _ =>
                  intro val fl w1 a hb ha hd hfl
                  obtain ⟨hgb, hg0⟩ := hb
                  have hb := below_row h3r2 hgb hbw.size
                  have e2 : val 2 = .int .i64 bb.lo := hd 2 (memB_mem.1 rfl)
                  have e14 : val 14 = .int .i64 (((bb.hi - bb.lo) * partI xf y_).tdiv 255) := hd 14 (memB_mem.1 rfl)
                  have ha := ha.sub (Sub.ins (d := 97) (Sub.ins (d := 85) (Sub.nil _) (dep_get rfl e2)) (dep_get rfl e14))
                  exact ss_val ha rfl rfl (x_add rfl rfl (c := fastAt c xf y_) ((IntWalk.i64_in _ ⟨by omega, by omega⟩).trans hfa)) rfl rfl
                | 16, _ =>
                  intro val fl w1 a hb ha hd hfl
                  obtain ⟨hgb, hg0⟩ := hb
                  have hb := below_row h3r2 hgb hbw.size
                  have e15 : val 15 = .int .i64 (fastAt c xf y_) := hd 15 (memB_mem.1 rfl)
                  have ha := ha.sub (Sub.ins (d := 98) (Sub.nil _) (dep_get rfl e15))
                  exact ss_newS ha rfl rfl (bs_26_1 rfl) rfl (fun g w' hq _ hge => fun _ => ⟨g, rfl, hq, Nat.le_trans hgb.size hge⟩)
                | 17, _ =>
                  exact absurd (by simp) hs_
                | k + 18, h => exact absurd h (by omega)
              · simp only [List.mem_singleton] at hi_; subst hi_
                intro val fl w1 a hb hfi ha hd hfl
                obtain ⟨hgb, hg0⟩ := hb
                have hb := below_row h3r2 hgb hbw.size
                have e0 : val 0 = .slice AF y_ cF := hd 0 (memB_mem.1 rfl)
                obtain ⟨g16_, e16, q16_, h16_⟩ := hd 16 (memB_mem.1 rfl) hfi
                change val 16 = _ at e16
                have ha := ha.sub (Sub.ins (d := 99) (Sub.ins (d := 83) (Sub.nil _) (dep_get rfl e0)) (dep_get rfl e16))
                refine ts_push i64_elem ha rfl rfl rfl (hg0 hfi) (rd_one (l := [.int .i64 (fastAt c xf y_)]) q16_ rfl) (by intro u hu; rw [List.mem_singleton.1 hu]; rfl) (by omega) rfl (Nat.le_trans hbw.size hgb.size) ?_
                intro v' w' ho' hgr hat
                refine ⟨v', rfl, hgr.size, ⟨grown_three hgb hgr, fun h => by rw [fset_eq] at h; cases h⟩, ⟨ho', fun b hb' => ?_⟩, fun j _ hj hn hA => ?_⟩
                · rcases hat with h | h
                  · exact .inl (h ▸ hb')
                  · refine .inr ?_
                    change v'.ownBlock = some b at hb'
                    rw [h] at hb'
                    injection hb' with hb'
                    have := hgb.size
                    omega
                · exact phiS_cons_st (C := fun j => j ≠ 17 ∧ 17 ∉ clsAt [[], [], [1], [], [3], [], [5], [3, 4, 5, 6], [], [8], [], [8, 9, 10], [8, 9, 10, 11], [3, 4, 5, 6, 7, 8, 9, 10, 11, 12], [3, 4, 5, 6, 7, 8, 9, 10, 11, 12, 13], [1, 2, 3, 4, 5, 6, 7, 8, 9, 10, 11, 12, 13, 14], [1, 2, 3, 4, 5, 6, 7, 8, 9, 10, 11, 12, 13, 14, 15], [0, 1, 2, 3, 4, 5, 6, 7, 8, 9, 10, 11, 12, 13, 14, 15, 16], [0, 1, 2, 3, 4, 5, 6, 7, 8, 9, 10, 11, 12, 13, 14, 15, 16, 17]] j) (fun _ _ h => by rw [fset_eq] at h; cases h) (phiS_cons_st (C := fun j => j ≠ 17 ∧ 17 ∉ clsAt [[], [], [1], [], [3], [], [5], [3, 4, 5, 6], [], [8], [], [8, 9, 10], [8, 9, 10, 11], [3, 4, 5, 6, 7, 8, 9, 10, 11, 12], [3, 4, 5, 6, 7, 8, 9, 10, 11, 12, 13], [1, 2, 3, 4, 5, 6, 7, 8, 9, 10, 11, 12, 13, 14], [1, 2, 3, 4, 5, 6, 7, 8, 9, 10, 11, 12, 13, 14, 15], [0, 1, 2, 3, 4, 5, 6, 7, 8, 9, 10, 11, 12, 13, 14, 15, 16], [0, 1, 2, 3, 4, 5, 6, 7, 8, 9, 10, 11, 12, 13, 14, 15, 16, 17]] j) (fun hc => absurd rfl hc.1) (fun _ _ h => h)) j ⟨hj, hn⟩
              · intro val fl w' hfl hb halc hd
                obtain ⟨hgb, _⟩ := hb
                have hb := below_row h3r2 hgb hbw.size
                have e0 : val 0 = .slice AF y_ cF := hd 0 (by omega)
                have e1 : val 1 = .pointer (some ⟨g18, 0, none⟩) := hd 1 (by omega)
                have e2 : val 2 = .int .i64 bb.lo := hd 2 (by omega)
                have e3 : val 3 = .pointer (some ⟨g18, 1, none⟩) := hd 3 (by omega)
                have e4 : val 4 = .int .i64 bb.hi := hd 4 (by omega)
                have e5 : val 5 = .pointer (some ⟨g18, 0, none⟩) := hd 5 (by omega)
                have e6 : val 6 = .int .i64 bb.lo := hd 6 (by omega)
                have e7 : val 7 = .int .i64 (bb.hi - bb.lo) := hd 7 (by omega)
                have e8 : val 8 = .pointer (some ⟨g1, 4, none⟩) := hd 8 (by omega)
                have e9 : val 9 = .slice Af xf.length cf_ := hd 9 (by omega)
                have e10 : val 10 = .int .i64 (y_ : Nat) := hd 10 (by omega)
                have e11 : val 11 = .int .u8 (partI xf y_) := hd 11 (by omega)
                have e12 : val 12 = .int .i64 (partI xf y_) := hd 12 (by omega)
                have e13 : val 13 = .int .i64 ((bb.hi - bb.lo) * partI xf y_) := hd 13 (by omega)
                have e14 : val 14 = .int .i64 (((bb.hi - bb.lo) * partI xf y_).tdiv 255) := hd 14 (by omega)
                have e15 : val 15 = .int .i64 (fastAt c xf y_) := hd 15 (by omega)
                obtain ⟨ho17, hn17⟩ := hd 17 (by omega)
                change w'.ownsRow _ _ _ (val 17) _ _ at ho17
                refine EL.ends (cs := [.slice AF y_ cF, .pointer (some ⟨g18, 0, none⟩), .int .i64 bb.lo, .pointer (some ⟨g18, 1, none⟩), .int .i64 bb.hi, .pointer (some ⟨g18, 0, none⟩), .int .i64 bb.lo, .int .i64 (bb.hi - bb.lo), .pointer (some ⟨g1, 4, none⟩), .slice Af xf.length cf_, .int .i64 (y_ : Nat), .int .u8 (partI xf y_), .int .i64 (partI xf y_), .int .i64 ((bb.hi - bb.lo) * partI xf y_), .int .i64 (((bb.hi - bb.lo) * partI xf y_).tdiv 255), .int .i64 (fastAt c xf y_), val 16, val 17]) ⟨e0, e1, e2, e3, e4, e5, e6, e7, e8, e9, e10, e11, e12, e13, e14, e15, rfl, rfl, trivial⟩ rfl ?_
                replace q1y := blk_grown q1y h3r2 rfl hgb
                replace q4y := blk_grown q4y h3r2 rfl hgb
                replace q9y := blk_grown q9y h3r2 rfl hgb
                replace q18 := blk_grown q18 h3r2 rfl hgb
                replace ho := ho.grown h3r2 rfl rfl rfl hgb
                have h3n := h3.push2 hgb ho17 hn17
                replace hbw := hbw.trans (hb.mono (Nat.le_refl _))
                clear h3 h3r2
                have h3 := h3n
                clear h3n
                refine EL.val (x_assign rfl) rfl ?_
                refine EL.nil ?_
                refine EX.blk ?_
                refine EX.seq ?_
                refine EC.region ?_
                refine EL.val (x_move rfl) rfl ?_
                refine EL.val (x_add rfl rfl (c := ((y_ + 1 : Nat) : Int)) ((IntWalk.i64_in _ ⟨by first | omega | (simp only; omega), by first | omega | (simp only; omega)⟩).trans (by first | omega | (simp only; omega)))) rfl ?_
                refine EL.val (x_assign rfl) rfl ?_
                refine EL.nil ?_
                refine EX.roundD (y_ + 1, _) ⟨rfl, rfl, trivial⟩ (by repeat first | with_reducible exact Sub.refl _ | refine sub_past rfl ?_ | exact Sub.refl _ | refine sub_del rfl ?_ | refine sub_insL_nil ?_) ⟨hlt, q1y, q4y, q9y, ho, by rw [fastL_succ]; exact h3, hbw⟩ (by simp only; omega)
            ·
              have hyn : y_ = c.clocks.length := by omega
              obtain ⟨FL, eF⟩ : ∃ z, z = fastL c xf y_ := ⟨_, rfl⟩
              rw [← eF] at h3 hfl
              have htr : Truth c M FL := ⟨by rw [hml, eN2, hxN], by rw [hfl, hyn], fun i hi => by have := minAt_bd hxm i; rw [eM, minsL_get (by omega)]; omega, fun k hk => by rw [eF, fastL_get (by omega)]; exact fast_in (bdOk_iff.1 (hck k hk)).2.1 (part_bd hxf k), fun i hi => by have := minAt_bd hxm i; rw [eM, minsL_get (by omega)]; omega⟩
              refine EC.seq ?_
              refine EC.seq ?_
              refine EC.region ?_
              refine EL.val (x_move rfl) rfl ?_
              refine EL.val (fa_25_1 rfl) rfl ?_
              refine EL.val (ld_22 rfl (q9y.at (j := 1) rfl)) rfl ?_
              refine EL.val (ln_22 rfl) rfl ?_
              refine EL.val (x_lss rfl rfl (decide_eq_false (show ¬(((y_ : Nat) : Int) < ((c.clocks.length : Nat) : Int)) by omega))) rfl ?_
              refine EL.nil ?_
              refine EX.seq ?_
              refine EC.no rfl ?_
              refine EC.exit ?_
              refine EX.seq_exit ?_
              refine EX.seq_exit ?_
              refine EX.blk_here ?_
              refine EX.seq ?_
              refine EC.seq ?_
              refine EC.seq ?_
              refine EC.region ?_
              refine EL.val (x_assign rfl) rfl ?_
              refine EL.nil ?_
              refine EX.seq ?_
              refine EC.block ?_
              refine EC.loopD [5, 6, 7, 8, 12, 17, 18, 19, 20, 21, 101, 102, 103, 104, 105, 106, 107, 108, 109, 110, 111, 112, 113, 114, 115, 116, 117, 118, 119, 120, 121, 122, 123, 124, 125, 126, 127, 128, 129, 130, 131, 132, 133, 134, 135, 136, 137, 138, 139, 140, 141, 142, 143, 144, 145, 146, 147, 148, 149, 150, 151, 152, 153, 154, 155, 156, 157, 158, 159, 160, 161, 162, 163, 164, 165, 166, 167, 168, 169, 170, 171, 172, 173, 174, 175, 176, 177, 178, 179, 180, 181, 182, 183, 184, 185, 186, 187, 188, 189, 190, 191, 192, 193, 194, 195, 196, 197, 198, 199, 200, 201, 202, 203, 204, 205, 206, 207, 208, 209, 210, 211, 212, 213, 214, 215, 216, 217, 218, 219, 220, 221, 222, 223, 224, 225, 226, 227, 228, 229, 230, 231, 232, 233, 234, 235, 236, 237, 238, 239, 240, 241, 242, 243, 244, 245, 246, 247, 248, 249, 250, 251, 252, 253, 254, 255, 256, 257, 258, 259, 260, 261, 262, 263, 264, 265] (fun u : Nat × Value => [(12, u.2), (17, .int .i64 (u.1 : Nat))]) (fun u W => u.1 ≤ c.clues.length ∧ Blk W g1 65 #[.int .i64 c.events, .slice Ac c.clocks.length cc_, .slice Al c.clues.length cl_, .slice Am xm.length cm_, .slice Af xf.length cf_] ∧ Blk W g2 25 #[.int .i64 0, .slice none 0 0, .slice none 0 0] ∧ Blk W g7 25 #[.int .i64 c.events, .slice AB c.clocks.length cB, .slice AL c.clues.length cL] ∧ OwnCase W w.heap.size (.slice AB c.clocks.length cB) (.slice AL c.clues.length cL) ⟨c.events, c.clocks, toldL c b M FL u.1⟩ ws ∧ Rows3 W w.heap.size (.slice AV x cV) (.slice AF y_ cF) u.2 M FL (crsBy c b u.1) ∧ Below w.heap.size w W) (fun u => c.clues.length - u.1) (0, (.slice (some ⟨g6, 0, none⟩) 0 0)) ⟨Nat.zero_le _, q1y, q4y, q9y, by rw [toldL_zero]; exact ho, h3, hbw⟩ ⟨rfl, rfl, trivial⟩ ?_
              clear q1y q4y q9y ho h3 hbw
              rintro ⟨u, v⟩ wu ⟨hu, q1u, q4u, q9u, ho, h3, hbw⟩
              dsimp only at hu ho h3
              have hcl3 := crsBy_len c b u
              have hln := toldL_len c b M FL u
              obtain ⟨AK, cK, eK_, _⟩ := (Rd.of_own h3.r3).shape
              rw [hcl3] at eK_
              subst eK_
              by_cases hlt : u < c.clues.length
              ·
                have hgx : (toldL c b M FL u).getD u [] = c.clues.getD u [] := by rw [toldL_get hlt, if_neg (Nat.lt_irrefl _)]
                have hlx := (hcl u hlt).1
                have hpk := pick_lt (b := b) hcb hlt
                have hpr := part_bd hbb u
                obtain ⟨K, eK⟩ : ∃ z, z = pickK c b u := ⟨_, rfl⟩
                have eK2 : (partI b u).tmod (((c.clues.getD u []).length : Nat) : Int) = ((K : Nat) : Int) := by rw [eK]; exact part_mod hpr.1
                rw [← eK] at hpk
                have hrow := ho.clues.row u (by rw [hln]; exact hlt)
                rw [hgx] at hrow
                obtain ⟨AR, cR, eR, _⟩ := (Rd.of_own hrow).shape
                rw [eR] at hrow
                obtain ⟨gR, eAR⟩ := own_slice hrow (by omega)
                subst eAR
                have hrd := ho.rd
                obtain ⟨bl, ol, e_, _, hcell⟩ := rdll_cell hrd.clues u (by rw [hln]; exact hlt)
                subst e_
                rw [eR] at hcell
                have hbu := Below.refl wu.heap.size wu
                obtain ⟨p0, ep0⟩ : ∃ z, z = chosen c b u := ⟨_, rfl⟩
                have hpok := chosen_ok (b := b) hcb hlt
                rw [← ep0] at hpok
                have hop0 := optB_ok hpok
                have ep1 : (c.clues.getD u []).getD K opt0 = p0 := by rw [ep0, eK]; rfl
                clear hrow hrd
                refine EC.seq ?_
                refine EC.seq ?_
                refine EC.region ?_
                refine EL.val (x_move rfl) rfl ?_
                refine EL.val (fa_25_2 rfl) rfl ?_
                refine EL.val (ld_23 rfl (q9u.at (j := 2) rfl)) rfl ?_
                refine EL.val (ln_23 rfl) rfl ?_
                refine EL.val (x_lss rfl rfl (decide_eq_true (show (((u : Nat) : Int) < ((c.clues.length : Nat) : Int)) by omega))) rfl ?_
                refine EL.nil ?_
                refine EX.seq ?_
                refine EC.yes rfl ?_
                refine EC.skip ?_
                refine EX.seq ?_
                refine EC.seq ?_
                refine EC.block ?_
                refine EC.seq ?_
                refine EC.seq ?_
                refine EC.region ?_
                refine EL.val (fa_25_2 rfl) rfl ?_
                refine EL.val (ld_23 rfl (q9u.at (j := 2) rfl)) rfl ?_
                refine EL.val (x_move rfl) rfl ?_
                refine EL.val (ix_23 rfl rfl hlt) rfl ?_
                refine EL.val (fa_74_0 rfl) rfl ?_
                refine EL.val (ld_72 rfl (below_load hbu hcell)) rfl ?_
                refine EL.val (ln_72 rfl) rfl ?_
                refine EL.val (x_lss (r := false) rfl rfl (decide_eq_false (by omega))) rfl ?_
                refine EL.nil ?_
                refine EX.seq ?_
                refine EC.no rfl ?_
                refine EC.skip ?_
                refine EX.seq ?_
                refine EC.seq ?_
                refine EC.regionQ (by kernel_rfl) (by kernel_rfl) ?_
                refine EQ.val (fun _ hw => (x_move rfl)) rfl ?_
                refine EQ.val (fun _ hw => (x_move rfl)) rfl ?_
                refine EQ.call (fun _ _ _ ha => cl_34 rfl rfl _ ha) rfl (fun W hw => (part_any b _ u W B (hrb.below ((hbw.trans (hw.mono hbw.size)).mono hB)) hnb).mono fun e w' h => ⟨h.1, hw.trans (h.2.mono hw.size)⟩) ?_
                refine EQ.val (fun _ hw => (cv_5_3 rfl (IntWalk.i64_in _ ⟨by omega, by omega⟩))) rfl ?_
                refine EQ.val (fun _ hw => (fa_25_2 rfl)) rfl ?_
                refine EQ.val (fun _ hw => (ld_23 rfl (below_load hw (q9u.at (j := 2) rfl)))) rfl ?_
                refine EQ.val (fun _ hw => (x_move rfl)) rfl ?_
                refine EQ.val (fun _ hw => (ix_23 rfl rfl hlt)) rfl ?_
                refine EQ.val (fun _ hw => (fa_74_0 rfl)) rfl ?_
                refine EQ.val (fun _ hw => (ld_72 rfl (below_load hw (below_load hbu hcell)))) rfl ?_
                refine EQ.val (fun _ hw => (ln_72 rfl)) rfl ?_
                refine EQ.val (fun _ hw => (x_rem rfl rfl (c := ((K : Nat) : Int)) (by omega) eK2)) rfl ?_
                refine EQ.val (fun _ hw => (x_assign rfl)) rfl ?_
                refine EQ.fin (fun w20 hw_ => ?_)
                replace q1u := q1u.below hw_ q1u.lt
                replace q4u := q4u.below hw_ q4u.lt
                replace q9u := q9u.below hw_ q9u.lt
                replace ho := ho.below hw_
                replace h3 := h3.below hw_
                replace hbw := Below.on hbw hw_ hbw.size
                replace hbu := Below.on hbu hw_ hbu.size
                clear hw_
                refine EX.seq ?_
                refine EC.seq ?_
                refine EC.region ?_
                refine EL.val (fa_25_2 rfl) rfl ?_
                refine EL.val (ld_23 rfl (q9u.at (j := 2) rfl)) rfl ?_
                refine EL.val (x_move rfl) rfl ?_
                refine EL.val (ix_23 rfl rfl hlt) rfl ?_
                refine EL.val (fa_74_0 rfl) rfl ?_
                refine EL.val (ld_72 rfl (below_load hbu hcell)) rfl ?_
                refine EL.val (x_move rfl) rfl ?_
                refine EL.val (ix_72 rfl rfl hpk) rfl ?_
                refine EL.val (x_assign rfl) rfl ?_
                refine EL.nil ?_
                refine EX.seq ?_
                refine EC.seq ?_
                refine EC.block ?_
                refine EC.loopD [5, 6, 7, 8, 20, 21, 137, 138, 139, 140, 141, 142, 143, 144, 145, 146, 147, 148, 149, 150, 151, 152, 153, 154, 155, 156, 157, 158, 159, 160, 161, 162, 163, 164, 165, 166, 167, 168, 169, 170, 171, 172, 173, 174, 175, 176, 177, 178, 179, 180, 181, 182, 183, 184, 185, 186, 187, 188, 189, 190, 191, 192, 193, 194, 195, 196, 197, 198, 199, 200, 201, 202, 203, 204, 205, 206, 207, 208, 209, 210, 211, 212, 213, 214, 215, 216, 217, 218, 219, 220, 221, 222, 223, 224, 225, 226, 227, 228, 229, 230, 231, 232, 233, 234, 235, 236, 237, 238, 239, 240, 241, 242, 243, 244, 245, 246, 247, 248, 249, 250, 251, 252, 253, 254, 255, 256, 257, 258, 259, 260, 261] (fun y : Nat => []) (fun y W => y ≤ 1 ∧ (y = 1 → tvIn p0 M FL = false) ∧ Blk W g1 65 #[.int .i64 c.events, .slice Ac c.clocks.length cc_, .slice Al c.clues.length cl_, .slice Am xm.length cm_, .slice Af xf.length cf_] ∧ Blk W g2 25 #[.int .i64 0, .slice none 0 0, .slice none 0 0] ∧ Blk W g7 25 #[.int .i64 c.events, .slice AB c.clocks.length cB, .slice (some ⟨bl, ol, none⟩) c.clues.length cL] ∧ OwnCase W w.heap.size (.slice AB c.clocks.length cB) (.slice (some ⟨bl, ol, none⟩) c.clues.length cL) ⟨c.events, c.clocks, setO (toldL c b M FL u) u K (pY p0 M FL y)⟩ ws ∧ Rows3 W w.heap.size (.slice AV x cV) (.slice AF y_ cF) (.slice AK u cK) M FL (crsBy c b u) ∧ Below w.heap.size w W) (fun y => 1 - y) 0 ⟨by omega, fun h => absurd h (by decide), q1u, q4u, q9u, by rw [show pY p0 M FL 0 = ((toldL c b M FL u).getD u []).getD K opt0 by rw [hgx, ep1]; rfl, setO_same (by rw [hln]; exact hlt) (by rw [hgx]; exact hpk)]; exact ho, h3, hbw⟩ trivial ?_
                clear q1u q4u q9u ho h3 hbw hbu hcell
                rintro y wy ⟨hy, hy1, q1y, q4y, q9y, ho, h3, hbw⟩
                obtain ⟨p, ep⟩ : ∃ z, z = pY p0 M FL y := ⟨_, rfl⟩
                have hpk2 : optB c p = true := by rw [ep]; unfold pY; split; (exact hpok); (exact mvd_ok hpok (htr.tv_bd hcb hpok))
                have hop := optB_ok hpk2
                have hxo : u < (setO (toldL c b M FL u) u K (pY p0 M FL y)).length := by rw [setO_len, hln]; exact hlt
                have hrow := ho.clues.row u hxo
                have hgs : (setO (toldL c b M FL u) u K (pY p0 M FL y)).getD u [] = (c.clues.getD u []).set K p := by rw [setO_at (by rw [hln]; exact hlt), hgx, ep]
                have hrow1 := hrow
                change wy.ownsRow _ _ _ _ ((setO (toldL c b M FL u) u K (pY p0 M FL y)).getD u []).length (optsC ((setO (toldL c b M FL u) u K (pY p0 M FL y)).getD u [])) at hrow
                rw [hgs, eR, List.length_set] at hrow
                have hrdo := Rd.of_own hrow
                obtain ⟨bo, oo, e_, _, oc⟩ := opts_cells ((c.clues.getD u []).set K p) K (by rw [List.length_set]; exact hpk) wy _ _ _ _ hrdo
                obtain ⟨rfl, rfl⟩ : gR = bo ∧ 0 = oo := by injection e_ with e_; injection e_ with h1 h2; exact ⟨h1, h2⟩
                rw [show ((c.clues.getD u []).set K p).getD K opt0 = p by rw [getD_lt (by rw [List.length_set]; exact hpk)]; simp] at oc
                have hby := Below.refl wy.heap.size wy
                have hrm3 := Rd.of_own h3.r1
                have hrf3 := Rd.of_own h3.r2
                have hrm4 := hrm3
                have hrf4 := hrf3
                rw [hml] at hrm4
                rw [hfl] at hrf4
                have htb := htr.tv_bd hcb hpk2
                have hwd := wide_bd p
                refine EC.seq ?_
                refine EC.seq ?_
                refine EC.region ?_
                refine EL.val (x_move rfl) rfl ?_
                refine EL.val (x_nilCheck rfl) rfl ?_
                refine EL.val (ld_71 rfl (below_load hby oc.c0) (below_load hby oc.c1) (below_load hby oc.c2) (below_load hby oc.c3) (below_load hby oc.c4) (below_load hby oc.c5)) rfl ?_
                refine EL.val (x_move rfl) rfl ?_
                refine EL.val (x_move rfl) rfl ?_
                cases htv : tvIn p M FL
                ·
                  obtain rfl : y = 0 := by
                    rcases (show y = 0 ∨ y = 1 by omega) with h | h
                    · exact h
                    · subst h; rw [ep] at htv; exact absurd (mvd_in p0 M FL) (by rw [show mvd p0 M FL = pY p0 M FL 1 from rfl, htv]; decide)
                  have epp : p = p0 := ep
                  have hpe := hop.event
                  obtain ⟨ev, eev⟩ : ∃ e : Nat, p.event = e := ⟨p.event.toNat, by omega⟩
                  have oc1 := oc.c1
                  rw [eev] at oc1
                  have hm1 := htr.mlen
                  have hf1 := htr.flen
                  have hmv1 := htr.mins ev (by omega)
                  have hev2 : ev < x := by omega
                  obtain ⟨bM, oM, e_, _, cM⟩ := ints_cells M ev (by omega) wy _ _ _ _ hrm4
                  subst e_
                  refine EL.call (cl_57 rfl rfl rfl) rfl (fits_opt htr hcb hop htv _ _ _ wy.heap.size (hrm3.below hby) (hrf3.below hby) hby.size) ?_
                  rintro e w21 ⟨rfl, hc21⟩
                  refine ⟨_, rfl, ?_⟩
                  replace q1y := q1y.below hc21 q1y.lt
                  replace q4y := q4y.below hc21 q4y.lt
                  replace q9y := q9y.below hc21 q9y.lt
                  replace ho := ho.below hc21
                  replace h3 := h3.below hc21
                  replace hbw := Below.on hbw hc21 hbw.size
                  replace hby := Below.on hby hc21 hby.size
                  clear hc21
                  refine EL.val (x_not rfl) rfl ?_
                  refine EL.nil ?_
                  refine EX.seq ?_
                  refine EC.yes rfl ?_
                  refine EC.skip ?_
                  refine EX.seq ?_
                  refine EC.block ?_
                  refine EC.seq ?_
                  refine EC.region ?_
                  refine EL.val (x_assign rfl) rfl ?_
                  refine EL.nil ?_
                  refine EX.seq ?_
                  refine EC.seq ?_
                  refine EC.block ?_
                  refine EC.seq ?_
                  refine EC.region ?_
                  refine EL.val (x_move rfl) rfl ?_
                  refine EL.val (x_nilCheck rfl) rfl ?_
                  refine EL.val (fa_71_1 rfl) rfl ?_
                  refine EL.val (ld_3 rfl (below_load hby oc1)) rfl ?_
                  refine EL.val (x_lss (r := false) rfl rfl (decide_eq_false (by omega))) rfl ?_
                  refine EL.val (x_move rfl) rfl ?_
                  refine EL.valg rfl rfl (x_move rfl) rfl ?_
                  refine EL.valg rfl rfl (x_nilCheck rfl) rfl ?_
                  refine EL.valg rfl rfl (fa_71_1 rfl) rfl ?_
                  refine EL.valg rfl rfl (ld_3 rfl (below_load hby oc1)) rfl ?_
                  refine EL.valg rfl rfl (x_move rfl) rfl ?_
                  refine EL.valg rfl rfl (ln_26 rfl) rfl ?_
                  refine EL.valg rfl rfl (x_geq (r := false) rfl rfl (decide_eq_false (by omega))) rfl ?_
                  refine EL.val (x_pick_f rfl rfl) rfl ?_
                  refine EL.val (x_assign rfl) rfl ?_
                  refine EL.nil ?_
                  refine EX.seq ?_
                  refine EC.no rfl ?_
                  refine EC.seq ?_
                  refine EC.region ?_
                  refine EL.val (x_move rfl) rfl ?_
                  refine EL.val (x_nilCheck rfl) rfl ?_
                  refine EL.val (fa_71_0 rfl) rfl ?_
                  refine EL.val (ld_69 rfl (below_load hby oc.c0)) rfl ?_
                  by_cases hk : p.kind = 1
                  ·
                    obtain ⟨hk1, hk2, hk3⟩ := hop.kind.resolve_right (fun h => by have := h.1; omega)
                    obtain ⟨ck, eck⟩ : ∃ e : Nat, p.clock = e := ⟨p.clock.toNat, by omega⟩
                    have oc2 := oc.c2
                    rw [eck] at oc2
                    have hck2 : ck < y_ := by omega
                    obtain ⟨bF, oF, e_, _, cF_⟩ := ints_cells FL ck (by omega) wy _ _ _ _ hrf4
                    subst e_
                    have hfb := htr.fbd hcb (k := ck) (by omega)
                    have htvv : M.getD ev 0 + FL.getD ck 0 = tv p M FL := by unfold tv; rw [if_pos hk1, eev, eck]; rfl
                    refine EL.val (x_eql (r := true) rfl rfl (decide_eq_true hk1)) rfl ?_
                    refine EL.val (x_move rfl) rfl ?_
                    refine EL.valg rfl rfl (x_move rfl) rfl ?_
                    refine EL.valg rfl rfl (x_nilCheck rfl) rfl ?_
                    refine EL.valg rfl rfl (fa_71_2 rfl) rfl ?_
                    refine EL.valg rfl rfl (ld_3 rfl (below_load hby oc2)) rfl ?_
                    refine EL.valg rfl rfl (x_geq (r := true) rfl rfl (decide_eq_true (by omega))) rfl ?_
                    refine EL.val (x_pick_t rfl rfl) rfl ?_
                    refine EL.val (x_move rfl) rfl ?_
                    refine EL.valg rfl rfl (x_move rfl) rfl ?_
                    refine EL.valg rfl rfl (x_nilCheck rfl) rfl ?_
                    refine EL.valg rfl rfl (fa_71_2 rfl) rfl ?_
                    refine EL.valg rfl rfl (ld_3 rfl (below_load hby oc2)) rfl ?_
                    refine EL.valg rfl rfl (x_move rfl) rfl ?_
                    refine EL.valg rfl rfl (ln_26 rfl) rfl ?_
                    refine EL.valg rfl rfl (x_lss (r := true) rfl rfl (decide_eq_true (by omega))) rfl ?_
                    refine EL.val (x_pick_t rfl rfl) rfl ?_
                    refine EL.val (x_assign rfl) rfl ?_
                    refine EL.nil ?_
                    refine EX.seq ?_
                    refine EC.yes rfl ?_
                    refine EC.regionQ (by kernel_rfl) (by kernel_rfl) ?_
                    refine EQ.val (fun _ hw => (x_move rfl)) rfl ?_
                    refine EQ.val (fun _ hw => (x_move rfl)) rfl ?_
                    refine EQ.val (fun _ hw => (x_nilCheck rfl)) rfl ?_
                    refine EQ.val (fun _ hw => (fa_71_1 rfl)) rfl ?_
                    refine EQ.val (fun _ hw => (ld_3 rfl (below_load hw (below_load hby oc1)))) rfl ?_
                    refine EQ.val (fun _ hw => (ix_26 rfl rfl hev2)) rfl ?_
                    refine EQ.val (fun _ hw => (ld_3 rfl (below_load hw (below_load hby cM)))) rfl ?_
                    refine EQ.val (fun _ hw => (x_move rfl)) rfl ?_
                    refine EQ.val (fun _ hw => (x_move rfl)) rfl ?_
                    refine EQ.val (fun _ hw => (x_nilCheck rfl)) rfl ?_
                    refine EQ.val (fun _ hw => (fa_71_2 rfl)) rfl ?_
                    refine EQ.val (fun _ hw => (ld_3 rfl (below_load hw (below_load hby oc2)))) rfl ?_
                    refine EQ.val (fun _ hw => (ix_26 rfl rfl hck2)) rfl ?_
                    refine EQ.val (fun _ hw => (ld_3 rfl (below_load hw (below_load hby cF_)))) rfl ?_
                    refine EQ.val (fun _ hw => (x_add rfl rfl (c := tv p M FL) ((IntWalk.i64_in _ ⟨by omega, by omega⟩).trans htvv))) rfl ?_
                    refine EQ.val (fun _ hw => (x_assign rfl)) rfl ?_
                    refine EQ.fin (fun w22 hw_ => ?_)
                    replace q1y := q1y.below hw_ q1y.lt
                    replace q4y := q4y.below hw_ q4y.lt
                    replace q9y := q9y.below hw_ q9y.lt
                    replace ho := ho.below hw_
                    replace h3 := h3.below hw_
                    replace hbw := Below.on hbw hw_ hbw.size
                    replace hby := Below.on hby hw_ hby.size
                    clear hw_
                    refine EX.blk ?_
                    refine EX.seq ?_
                    refine EC.seq ?_
                    have hpm := hop.mins
                    refine EC.regionQ (by kernel_rfl) (by kernel_rfl) ?_
                    refine EQ.val (fun _ hw => (x_move rfl)) rfl ?_
                    refine EQ.val (fun _ hw => (x_nilCheck rfl)) rfl ?_
                    refine EQ.val (fun _ hw => (fa_71_4 rfl)) rfl ?_
                    refine EQ.val (fun _ hw => (fa_54_1 rfl)) rfl ?_
                    refine EQ.val (fun _ hw => (ld_3 rfl (below_load hw (below_load hby oc.c5)))) rfl ?_
                    refine EQ.val (fun _ hw => (x_move rfl)) rfl ?_
                    refine EQ.val (fun _ hw => (x_nilCheck rfl)) rfl ?_
                    refine EQ.val (fun _ hw => (fa_71_4 rfl)) rfl ?_
                    refine EQ.val (fun _ hw => (fa_54_0 rfl)) rfl ?_
                    refine EQ.val (fun _ hw => (ld_3 rfl (below_load hw (below_load hby oc.c4)))) rfl ?_
                    refine EQ.val (fun _ hw => (x_sub rfl rfl (c := p.mins.hi - p.mins.lo) (IntWalk.i64_in _ ⟨by omega, by omega⟩))) rfl ?_
                    refine EQ.val (fun _ hw => (mm_max rfl rfl rfl)) rfl ?_
                    refine EQ.val (fun _ hw => (mm_min rfl rfl (show _ = wideO p from rfl))) rfl ?_
                    refine EQ.val (fun _ hw => (x_assign rfl)) rfl ?_
                    refine EQ.fin (fun w23 hw_ => ?_)
                    replace q1y := q1y.below hw_ q1y.lt
                    replace q4y := q4y.below hw_ q4y.lt
                    replace q9y := q9y.below hw_ q9y.lt
                    replace ho := ho.below hw_
                    replace h3 := h3.below hw_
                    replace hbw := Below.on hbw hw_ hbw.size
                    replace hby := Below.on hby hw_ hby.size
                    clear hw_
                    refine EX.seq ?_
                    refine EC.region ?_
                    refine EL.val (x_move rfl) rfl ?_
                    refine EL.val (x_move rfl) rfl ?_
                    refine EL.val (x_move rfl) rfl ?_
                    refine EL.val (x_quo rfl rfl (c := (wideO p).tdiv 2) (by decide) (IntWalk.i64_in _ ⟨by omega, by omega⟩)) rfl ?_
                    refine EL.val (x_sub rfl rfl (c := tv p M FL - (wideO p).tdiv 2) (IntWalk.i64_in _ ⟨by omega, by omega⟩)) rfl ?_
                    refine EL.val (x_move rfl) rfl ?_
                    refine EL.val (x_move rfl) rfl ?_
                    refine EL.val (x_add rfl rfl (c := tv p M FL + wideO p) (IntWalk.i64_in _ ⟨by omega, by omega⟩)) rfl ?_
                    refine EL.val (x_move rfl) rfl ?_
                    refine EL.val (x_quo rfl rfl (c := (wideO p).tdiv 2) (by decide) (IntWalk.i64_in _ ⟨by omega, by omega⟩)) rfl ?_
                    refine EL.val (x_sub rfl rfl (c := tv p M FL + wideO p - (wideO p).tdiv 2) (IntWalk.i64_in _ ⟨by omega, by omega⟩)) rfl ?_
                    refine EL.val (bd_54_0_1 rfl rfl) rfl ?_
                    refine EL.val (x_nilCheck rfl) rfl ?_
                    refine EL.val (fa_71_4 rfl) rfl ?_
                    have hrowW := ho.clues.row u hxo
                    change w23.ownsRow _ _ _ _ ((setO (toldL c b M FL u) u K (pY p0 M FL 0)).getD u []).length (optsC ((setO (toldL c b M FL u) u K (pY p0 M FL 0)).getD u [])) at hrowW
                    rw [hgs, eR, List.length_set] at hrowW
                    refine EL.storeRow (l' := [.int .i64 (tv p M FL - (wideO p).tdiv 2), .int .i64 (tv p M FL + wideO p - (wideO p).tdiv 2)]) rfl rfl hrowW sz_54 rfl rfl (by rw [optsC_len, List.length_set]; omega) rfl ?_
                    intro w8 ho2 hg
                    have hbm := (hrowW.lt gR rfl).1
                    rw [Nat.zero_add] at ho2
                    replace q1y := blk_grown q1y hrowW rfl hg
                    replace q4y := blk_grown q4y hrowW rfl hg
                    replace q9y := blk_grown q9y hrowW rfl hg
                    replace h3 := h3.grown hrowW rfl hg
                    have ho3 := ho.set (m := ⟨tv p M FL - (wideO p).tdiv 2, tv p M FL + wideO p - (wideO p).tdiv 2⟩) (W' := w8) hxo (K := K) (by show K < ((setO (toldL c b M FL u) u K (pY p0 M FL 0)).getD u []).length; rw [hgs, List.length_set]; exact hpk) (by show w8.ownsRow _ _ _ _ ((setO (toldL c b M FL u) u K (pY p0 M FL 0)).getD u []).length (spl (optsC ((setO (toldL c b M FL u) u K (pY p0 M FL 0)).getD u [])) (K * 6 + 4) _); rw [hgs, eR, List.length_set]; exact ho2) (by rw [eR]; exact hg)
                    replace hbw := below_store hbw hg hbm
                    clear ho
                    refine EL.nil ?_
                    refine EX.blk ?_
                    refine EX.roundD 1 trivial (by repeat first | with_reducible exact Sub.refl _ | refine sub_past rfl ?_ | exact Sub.refl _ | refine sub_del rfl ?_ | refine sub_insL_nil ?_) ⟨Nat.le_refl _, fun _ => by rw [← epp]; exact htv, q1y, q4y, q9y, by have h9 := ho3; simp only at h9; rw [hgs, getD_lt (by rw [List.length_set]; exact hpk), List.getElem_set_self, setO_twice (by rw [hln]; exact hlt), ← mvd_with, epp] at h9; exact h9, h3, hbw⟩ (by omega)
                  ·
                    obtain ⟨hk1, hk2, hk3, hk4⟩ := hop.kind.resolve_left (fun h => hk h.1)
                    obtain ⟨af, eaf⟩ : ∃ e : Nat, p.after = e := ⟨p.after.toNat, by omega⟩
                    have oc3 := oc.c3
                    rw [eaf] at oc3
                    have haf2 : af < x := by omega
                    have hma := htr.mins af (by omega)
                    obtain ⟨bA, oA, e_, _, cA_⟩ := ints_cells M af (by omega) wy _ _ _ _ hrm4
                    obtain ⟨rfl, rfl⟩ : bM = bA ∧ oM = oA := by injection e_ with e_; injection e_ with h1 h2; exact ⟨h1, h2⟩
                    have htvv : M.getD ev 0 - M.getD af 0 = tv p M FL := by unfold tv; rw [if_neg (by omega), eev, eaf]; rfl
                    refine EL.val (x_eql (r := false) rfl rfl (decide_eq_false hk)) rfl ?_
                    refine EL.val (x_move rfl) rfl ?_
                    refine EL.skip rfl rfl rfl rfl ?_
                    refine EL.skip rfl rfl rfl rfl ?_
                    refine EL.skip rfl rfl rfl rfl ?_
                    refine EL.skip rfl rfl rfl rfl ?_
                    refine EL.skip rfl rfl rfl rfl ?_
                    refine EL.val (x_pick_f rfl rfl) rfl ?_
                    refine EL.val (x_move rfl) rfl ?_
                    refine EL.skip rfl rfl rfl rfl ?_
                    refine EL.skip rfl rfl rfl rfl ?_
                    refine EL.skip rfl rfl rfl rfl ?_
                    refine EL.skip rfl rfl rfl rfl ?_
                    refine EL.skip rfl rfl rfl rfl ?_
                    refine EL.skip rfl rfl rfl rfl ?_
                    refine EL.skip rfl rfl rfl rfl ?_
                    refine EL.val (x_pick_f rfl rfl) rfl ?_
                    refine EL.val (x_assign rfl) rfl ?_
                    refine EL.nil ?_
                    refine EX.seq ?_
                    refine EC.no rfl ?_
                    refine EC.seq ?_
                    refine EC.region ?_
                    refine EL.val (x_move rfl) rfl ?_
                    refine EL.val (x_nilCheck rfl) rfl ?_
                    refine EL.val (fa_71_0 rfl) rfl ?_
                    refine EL.val (ld_69 rfl (below_load hby oc.c0)) rfl ?_
                    refine EL.val (x_eql (r := true) rfl rfl (decide_eq_true hk1)) rfl ?_
                    refine EL.val (x_move rfl) rfl ?_
                    refine EL.valg rfl rfl (x_move rfl) rfl ?_
                    refine EL.valg rfl rfl (x_nilCheck rfl) rfl ?_
                    refine EL.valg rfl rfl (fa_71_3 rfl) rfl ?_
                    refine EL.valg rfl rfl (ld_3 rfl (below_load hby oc3)) rfl ?_
                    refine EL.valg rfl rfl (x_geq (r := true) rfl rfl (decide_eq_true (by omega))) rfl ?_
                    refine EL.val (x_pick_t rfl rfl) rfl ?_
                    refine EL.val (x_move rfl) rfl ?_
                    refine EL.valg rfl rfl (x_move rfl) rfl ?_
                    refine EL.valg rfl rfl (x_nilCheck rfl) rfl ?_
                    refine EL.valg rfl rfl (fa_71_3 rfl) rfl ?_
                    refine EL.valg rfl rfl (ld_3 rfl (below_load hby oc3)) rfl ?_
                    refine EL.valg rfl rfl (x_move rfl) rfl ?_
                    refine EL.valg rfl rfl (ln_26 rfl) rfl ?_
                    refine EL.valg rfl rfl (x_lss (r := true) rfl rfl (decide_eq_true (by omega))) rfl ?_
                    refine EL.val (x_pick_t rfl rfl) rfl ?_
                    refine EL.val (x_assign rfl) rfl ?_
                    refine EL.nil ?_
                    refine EX.seq ?_
                    refine EC.yes rfl ?_
                    refine EC.regionQ (by kernel_rfl) (by kernel_rfl) ?_
                    refine EQ.val (fun _ hw => (x_move rfl)) rfl ?_
                    refine EQ.val (fun _ hw => (x_move rfl)) rfl ?_
                    refine EQ.val (fun _ hw => (x_nilCheck rfl)) rfl ?_
                    refine EQ.val (fun _ hw => (fa_71_1 rfl)) rfl ?_
                    refine EQ.val (fun _ hw => (ld_3 rfl (below_load hw (below_load hby oc1)))) rfl ?_
                    refine EQ.val (fun _ hw => (ix_26 rfl rfl hev2)) rfl ?_
                    refine EQ.val (fun _ hw => (ld_3 rfl (below_load hw (below_load hby cM)))) rfl ?_
                    refine EQ.val (fun _ hw => (x_move rfl)) rfl ?_
                    refine EQ.val (fun _ hw => (x_move rfl)) rfl ?_
                    refine EQ.val (fun _ hw => (x_nilCheck rfl)) rfl ?_
                    refine EQ.val (fun _ hw => (fa_71_3 rfl)) rfl ?_
                    refine EQ.val (fun _ hw => (ld_3 rfl (below_load hw (below_load hby oc3)))) rfl ?_
                    refine EQ.val (fun _ hw => (ix_26 rfl rfl haf2)) rfl ?_
                    refine EQ.val (fun _ hw => (ld_3 rfl (below_load hw (below_load hby cA_)))) rfl ?_
                    refine EQ.val (fun _ hw => (x_sub rfl rfl (c := tv p M FL) ((IntWalk.i64_in _ ⟨by omega, by omega⟩).trans htvv))) rfl ?_
                    refine EQ.val (fun _ hw => (x_assign rfl)) rfl ?_
                    refine EQ.fin (fun w24 hw_ => ?_)
                    replace q1y := q1y.below hw_ q1y.lt
                    replace q4y := q4y.below hw_ q4y.lt
                    replace q9y := q9y.below hw_ q9y.lt
                    replace ho := ho.below hw_
                    replace h3 := h3.below hw_
                    replace hbw := Below.on hbw hw_ hbw.size
                    replace hby := Below.on hby hw_ hby.size
                    clear hw_
                    refine EX.blk ?_
                    refine EX.seq ?_
                    refine EC.seq ?_
                    have hpm := hop.mins
                    refine EC.regionQ (by kernel_rfl) (by kernel_rfl) ?_
                    refine EQ.val (fun _ hw => (x_move rfl)) rfl ?_
                    refine EQ.val (fun _ hw => (x_nilCheck rfl)) rfl ?_
                    refine EQ.val (fun _ hw => (fa_71_4 rfl)) rfl ?_
                    refine EQ.val (fun _ hw => (fa_54_1 rfl)) rfl ?_
                    refine EQ.val (fun _ hw => (ld_3 rfl (below_load hw (below_load hby oc.c5)))) rfl ?_
                    refine EQ.val (fun _ hw => (x_move rfl)) rfl ?_
                    refine EQ.val (fun _ hw => (x_nilCheck rfl)) rfl ?_
                    refine EQ.val (fun _ hw => (fa_71_4 rfl)) rfl ?_
                    refine EQ.val (fun _ hw => (fa_54_0 rfl)) rfl ?_
                    refine EQ.val (fun _ hw => (ld_3 rfl (below_load hw (below_load hby oc.c4)))) rfl ?_
                    refine EQ.val (fun _ hw => (x_sub rfl rfl (c := p.mins.hi - p.mins.lo) (IntWalk.i64_in _ ⟨by omega, by omega⟩))) rfl ?_
                    refine EQ.val (fun _ hw => (mm_max rfl rfl rfl)) rfl ?_
                    refine EQ.val (fun _ hw => (mm_min rfl rfl (show _ = wideO p from rfl))) rfl ?_
                    refine EQ.val (fun _ hw => (x_assign rfl)) rfl ?_
                    refine EQ.fin (fun w25 hw_ => ?_)
                    replace q1y := q1y.below hw_ q1y.lt
                    replace q4y := q4y.below hw_ q4y.lt
                    replace q9y := q9y.below hw_ q9y.lt
                    replace ho := ho.below hw_
                    replace h3 := h3.below hw_
                    replace hbw := Below.on hbw hw_ hbw.size
                    replace hby := Below.on hby hw_ hby.size
                    clear hw_
                    refine EX.seq ?_
                    refine EC.region ?_
                    refine EL.val (x_move rfl) rfl ?_
                    refine EL.val (x_move rfl) rfl ?_
                    refine EL.val (x_move rfl) rfl ?_
                    refine EL.val (x_quo rfl rfl (c := (wideO p).tdiv 2) (by decide) (IntWalk.i64_in _ ⟨by omega, by omega⟩)) rfl ?_
                    refine EL.val (x_sub rfl rfl (c := tv p M FL - (wideO p).tdiv 2) (IntWalk.i64_in _ ⟨by omega, by omega⟩)) rfl ?_
                    refine EL.val (x_move rfl) rfl ?_
                    refine EL.val (x_move rfl) rfl ?_
                    refine EL.val (x_add rfl rfl (c := tv p M FL + wideO p) (IntWalk.i64_in _ ⟨by omega, by omega⟩)) rfl ?_
                    refine EL.val (x_move rfl) rfl ?_
                    refine EL.val (x_quo rfl rfl (c := (wideO p).tdiv 2) (by decide) (IntWalk.i64_in _ ⟨by omega, by omega⟩)) rfl ?_
                    refine EL.val (x_sub rfl rfl (c := tv p M FL + wideO p - (wideO p).tdiv 2) (IntWalk.i64_in _ ⟨by omega, by omega⟩)) rfl ?_
                    refine EL.val (bd_54_0_1 rfl rfl) rfl ?_
                    refine EL.val (x_nilCheck rfl) rfl ?_
                    refine EL.val (fa_71_4 rfl) rfl ?_
                    have hrowW := ho.clues.row u hxo
                    change w25.ownsRow _ _ _ _ ((setO (toldL c b M FL u) u K (pY p0 M FL 0)).getD u []).length (optsC ((setO (toldL c b M FL u) u K (pY p0 M FL 0)).getD u [])) at hrowW
                    rw [hgs, eR, List.length_set] at hrowW
                    refine EL.storeRow (l' := [.int .i64 (tv p M FL - (wideO p).tdiv 2), .int .i64 (tv p M FL + wideO p - (wideO p).tdiv 2)]) rfl rfl hrowW sz_54 rfl rfl (by rw [optsC_len, List.length_set]; omega) rfl ?_
                    intro w8 ho2 hg
                    have hbm := (hrowW.lt gR rfl).1
                    rw [Nat.zero_add] at ho2
                    replace q1y := blk_grown q1y hrowW rfl hg
                    replace q4y := blk_grown q4y hrowW rfl hg
                    replace q9y := blk_grown q9y hrowW rfl hg
                    replace h3 := h3.grown hrowW rfl hg
                    have ho3 := ho.set (m := ⟨tv p M FL - (wideO p).tdiv 2, tv p M FL + wideO p - (wideO p).tdiv 2⟩) (W' := w8) hxo (K := K) (by show K < ((setO (toldL c b M FL u) u K (pY p0 M FL 0)).getD u []).length; rw [hgs, List.length_set]; exact hpk) (by show w8.ownsRow _ _ _ _ ((setO (toldL c b M FL u) u K (pY p0 M FL 0)).getD u []).length (spl (optsC ((setO (toldL c b M FL u) u K (pY p0 M FL 0)).getD u [])) (K * 6 + 4) _); rw [hgs, eR, List.length_set]; exact ho2) (by rw [eR]; exact hg)
                    replace hbw := below_store hbw hg hbm
                    clear ho
                    refine EL.nil ?_
                    refine EX.blk ?_
                    refine EX.roundD 1 trivial (by repeat first | with_reducible exact Sub.refl _ | refine sub_past rfl ?_ | exact Sub.refl _ | refine sub_del rfl ?_ | refine sub_insL_nil ?_) ⟨Nat.le_refl _, fun _ => by rw [← epp]; exact htv, q1y, q4y, q9y, by have h9 := ho3; simp only at h9; rw [hgs, getD_lt (by rw [List.length_set]; exact hpk), List.getElem_set_self, setO_twice (by rw [hln]; exact hlt), ← mvd_with, epp] at h9; exact h9, h3, hbw⟩ (by omega)
                ·
                  have hmv : pY p0 M FL y = mvO p0 M FL := by
                    unfold mvO
                    rcases (show y = 0 ∨ y = 1 by omega) with h | h
                    · subst h; rw [if_pos (by rw [ep] at htv; exact htv)]; rfl
                    · rw [if_neg (by rw [hy1 h]; decide)]; subst h; rfl
                  refine EL.call (cl_57 rfl rfl rfl) rfl (fits_opt htr hcb hop htv _ _ _ wy.heap.size (hrm3.below hby) (hrf3.below hby) hby.size) ?_
                  rintro e w26 ⟨rfl, hc26⟩
                  refine ⟨_, rfl, ?_⟩
                  replace q1y := q1y.below hc26 q1y.lt
                  replace q4y := q4y.below hc26 q4y.lt
                  replace q9y := q9y.below hc26 q9y.lt
                  replace ho := ho.below hc26
                  replace h3 := h3.below hc26
                  replace hbw := Below.on hbw hc26 hbw.size
                  replace hby := Below.on hby hc26 hby.size
                  clear hc26
                  refine EL.val (x_not rfl) rfl ?_
                  refine EL.nil ?_
                  refine EX.seq ?_
                  refine EC.no rfl ?_
                  refine EC.exit ?_
                  refine EX.seq_exit ?_
                  refine EX.seq_exit ?_
                  refine EX.blk_here ?_
                  refine EX.seq ?_
                  refine EC.region ?_
                  refine EL.val (x_move rfl) rfl ?_
                  refine EL.val (x_move rfl) rfl ?_
                  refine EL.newS (bs_26_1 rfl) rfl ?_
                  intro g27 w27 q27 hb27 hg27 hl27
                  have n1_27 : g1 ≠ g27 := Nat.ne_of_lt (Nat.lt_of_lt_of_le q1y.lt hg27)
                  have n2_27 : g2 ≠ g27 := Nat.ne_of_lt (Nat.lt_of_lt_of_le q4y.lt hg27)
                  have n7_27 : g7 ≠ g27 := Nat.ne_of_lt (Nat.lt_of_lt_of_le q9y.lt hg27)
                  have bhbw_27 := Nat.le_trans hbw.size hg27
                  have bhby_27 := Nat.le_trans hby.size hg27
                  replace q1y := q1y.below hb27 q1y.lt
                  replace q4y := q4y.below hb27 q4y.lt
                  replace q9y := q9y.below hb27 q9y.lt
                  replace ho := ho.below hb27
                  replace h3 := h3.below hb27
                  replace hbw := Below.on hbw hb27 hbw.size
                  replace hby := Below.on hby hb27 hby.size
                  clear hb27 hg27 hl27
                  have hr_ := h3.r3
                  refine EL.push i64_elem rfl rfl hr_ (rd_one (l := [.int .i64 ((K : Nat) : Int)]) q27 rfl) (by intro u hu; rw [List.mem_singleton.1 hu]; rfl) (by omega) rfl hbw.size rfl ?_
                  intro v28 w28 hn_ hgr hb_ hat_
                  have h3n := h3.push3 hgr hn_ (at_grown hat_)
                  replace q1y := blk_grown q1y hr_ rfl hgr
                  replace q4y := blk_grown q4y hr_ rfl hgr
                  replace q9y := blk_grown q9y hr_ rfl hgr
                  replace ho := ho.grown hr_ rfl rfl rfl hgr
                  replace hbw := hbw.trans hb_
                  clear h3
                  have h3 := h3n
                  clear h3n hn_ hgr hb_ hat_ hr_
                  refine EL.val (x_assign rfl) rfl ?_
                  refine EL.nil ?_
                  refine EX.blk ?_
                  refine EX.seq ?_
                  refine EC.region ?_
                  refine EL.val (x_move rfl) rfl ?_
                  refine EL.val (x_add rfl rfl (c := ((u + 1 : Nat) : Int)) ((IntWalk.i64_in _ ⟨by first | omega | (simp only; omega), by first | omega | (simp only; omega)⟩).trans (by first | omega | (simp only; omega)))) rfl ?_
                  refine EL.val (x_assign rfl) rfl ?_
                  refine EL.nil ?_
                  refine EX.roundD (u + 1, _) ⟨rfl, rfl, trivial⟩ (by repeat first | with_reducible exact Sub.refl _ | refine sub_past rfl ?_ | exact Sub.refl _ | refine sub_del rfl ?_ | refine sub_insL_nil ?_) ⟨hlt, q1y, q4y, q9y, by rw [toldL_succ hlt, ← eK, ← ep0, ← hmv]; exact ho, by rw [crsBy_succ, ← eK]; exact h3, hbw⟩ (by simp only; omega)
              ·
                have hun : u = c.clues.length := by omega
                refine EC.seq ?_
                refine EC.seq ?_
                refine EC.region ?_
                refine EL.val (x_move rfl) rfl ?_
                refine EL.val (fa_25_2 rfl) rfl ?_
                refine EL.val (ld_23 rfl (q9u.at (j := 2) rfl)) rfl ?_
                refine EL.val (ln_23 rfl) rfl ?_
                refine EL.val (x_lss rfl rfl (decide_eq_false (show ¬(((u : Nat) : Int) < ((c.clues.length : Nat) : Int)) by omega))) rfl ?_
                refine EL.nil ?_
                refine EX.seq ?_
                refine EC.no rfl ?_
                refine EC.exit ?_
                refine EX.seq_exit ?_
                refine EX.seq_exit ?_
                refine EX.blk_here ?_
                refine EX.seq ?_
                refine EC.seq ?_
                refine EC.region ?_
                refine EL.val (ld_25 rfl (q9u.at (j := 0) rfl) (q9u.at (j := 1) rfl) (q9u.at (j := 2) rfl)) rfl ?_
                refine EL.val (x_move rfl) rfl ?_
                refine EL.val (x_move rfl) rfl ?_
                refine EL.val (x_move rfl) rfl ?_
                refine EL.store rfl rfl q4u sz_25 rfl rfl rfl rfl ?_
                intro w29 hq29 hg29
                replace q1u := q1u.grown hg29 (fun h => n1_2 (Option.some.inj h))
                replace q9u := q9u.grown hg29 (fun h => n2_7.symm (Option.some.inj h))
                replace ho := ho.type q4u rfl rfl rfl hg29
                replace h3 := h3.type q4u rfl hg29
                replace hbw := below_store hbw hg29 bhbw_2
                replace q4u := hq29
                clear hg29 hq29
                refine EL.val (x_assign rfl) rfl ?_
                refine EL.val (x_assign rfl) rfl ?_
                refine EL.val (x_assign rfl) rfl ?_
                refine EL.val (x_assign rfl) rfl ?_
                refine EL.nil ?_
                refine EX.seq ?_
                refine EC.ret ?_
                have e1_ : minsL xm c.events.toNat = M := by rw [eN2, ← hxN, eM]
                have e2_ : fastL c xf c.clocks.length = FL := by rw [← hyn, eF]
                have e3_ : toldC c b M FL = ⟨c.events, c.clocks, toldL c b M FL u⟩ := by rw [hun]; rfl
                exact EX.done (resc5 rfl rfl rfl rfl rfl rfl (lv_25 (q4u.at (j := 0) rfl) (q4u.at (j := 1) rfl) (q4u.at (j := 2) rfl))) ⟨.inr ⟨_, _, _, _, _, _, rfl, hcb, hsm, by rw [e1_, e2_, e3_]; exact ho, by rw [e1_, e2_, ← hun]; exact h3, by rw [e1_, e2_]; exact htr⟩, hbw⟩
        ·
          refine EL.callg rfl rfl (cl_25 rfl) rfl (check_bad hcb _ _ ws2 _ _ (hr2.below hb2) hb2.size hk1 hk2) ?_
          rintro e w30 ⟨rfl, hc30⟩
          refine ⟨_, rfl, ?_⟩
          replace q1 := q1.below hc30 q1.lt
          replace q2 := q2.below hc30 q2.lt
          replace q4 := q4.below hc30 q4.lt
          replace q5 := q5.below hc30 q5.lt
          replace q6 := q6.below hc30 q6.lt
          replace q7 := q7.below hc30 q7.lt
          replace ho := ho.below hc30
          replace hbw := Below.on hbw hc30 hbw.size
          replace hb2 := Below.on hb2 hc30 hb2.size
          clear hc30
          refine EL.valg rfl rfl (x_neq (r := true) rfl rfl (by decide)) rfl ?_
          refine EL.val (x_pick_f rfl rfl) rfl ?_
          refine EL.nil ?_
          refine EX.seq ?_
          refine EC.yes rfl ?_
          refine EC.seq ?_
          refine EC.region ?_
          refine EL.val (ld_25 rfl (q7.at (j := 0) rfl) (q7.at (j := 1) rfl) (q7.at (j := 2) rfl)) rfl ?_
          refine EL.store rfl rfl q2 sz_25 rfl rfl rfl rfl ?_
          intro w31 hq31 hg31
          replace q1 := q1.grown hg31 (fun h => n1_2 (Option.some.inj h))
          replace q4 := q4.grown hg31 (fun h => n2_4.symm (Option.some.inj h))
          replace q5 := q5.grown hg31 (fun h => n2_5.symm (Option.some.inj h))
          replace q6 := q6.grown hg31 (fun h => n2_6.symm (Option.some.inj h))
          replace q7 := q7.grown hg31 (fun h => n2_7.symm (Option.some.inj h))
          replace ho := ho.type q2 rfl rfl rfl hg31
          replace hbw := below_store hbw hg31 bhbw_2
          clear hb2
          replace q2 := hq31
          clear hg31 hq31
          refine EL.val (x_assign rfl) rfl ?_
          refine EL.val (x_assign rfl) rfl ?_
          refine EL.val (x_assign rfl) rfl ?_
          refine EL.val (x_assign rfl) rfl ?_
          refine EL.nil ?_
          refine EX.seq ?_
          refine EC.ret ?_
          refine EX.seq_ret ?_
          exact EX.done (resc5 rfl rfl rfl rfl rfl rfl (lv_25 (q2.at (j := 0) rfl) (q2.at (j := 1) rfl) (q2.at (j := 2) rfl))) ⟨.inl ⟨_, _, _, _, _, _, rfl⟩, hbw⟩
  ·
    refine ⟨_, rfl, ?_⟩
    replace q1 := q1.below hcB q1.lt
    replace q2 := q2.below hcB q2.lt
    replace q4 := q4.below hcB q4.lt
    replace q5 := q5.below hcB q5.lt
    replace q6 := q6.below hcB q6.lt
    replace q7 := q7.below hcB q7.lt
    replace ho := ho.below hcB
    replace hbw := Below.on hbw hcB hbw.size
    clear hcB
    refine EL.val (x_move rfl) rfl ?_
    refine EL.skip rfl rfl rfl rfl ?_
    refine EL.skip rfl rfl rfl rfl ?_
    refine EL.skip rfl rfl rfl rfl ?_
    refine EL.val (x_pick_t rfl rfl) rfl ?_
    refine EL.val (x_move rfl) rfl ?_
    refine EL.skip rfl rfl rfl rfl ?_
    refine EL.skip rfl rfl rfl rfl ?_
    refine EL.skip rfl rfl rfl rfl ?_
    refine EL.val (x_pick_t rfl rfl) rfl ?_
    refine EL.val (x_move rfl) rfl ?_
    refine EL.skip rfl rfl rfl rfl ?_
    refine EL.skip rfl rfl rfl rfl ?_
    refine EL.skip rfl rfl rfl rfl ?_
    refine EL.skip rfl rfl rfl rfl ?_
    refine EL.val (x_pick_t rfl rfl) rfl ?_
    refine EL.nil ?_
    refine EX.seq ?_
    refine EC.yes rfl ?_
    refine EC.seq ?_
    refine EC.region ?_
    refine EL.val (ld_25 rfl (q7.at (j := 0) rfl) (q7.at (j := 1) rfl) (q7.at (j := 2) rfl)) rfl ?_
    refine EL.store rfl rfl q2 sz_25 rfl rfl rfl rfl ?_
    intro w32 hq32 hg32
    replace q1 := q1.grown hg32 (fun h => n1_2 (Option.some.inj h))
    replace q4 := q4.grown hg32 (fun h => n2_4.symm (Option.some.inj h))
    replace q5 := q5.grown hg32 (fun h => n2_5.symm (Option.some.inj h))
    replace q6 := q6.grown hg32 (fun h => n2_6.symm (Option.some.inj h))
    replace q7 := q7.grown hg32 (fun h => n2_7.symm (Option.some.inj h))
    replace ho := ho.type q2 rfl rfl rfl hg32
    replace hbw := below_store hbw hg32 bhbw_2
    replace q2 := hq32
    clear hg32 hq32
    refine EL.val (x_assign rfl) rfl ?_
    refine EL.val (x_assign rfl) rfl ?_
    refine EL.val (x_assign rfl) rfl ?_
    refine EL.val (x_assign rfl) rfl ?_
    refine EL.nil ?_
    refine EX.seq ?_
    refine EC.ret ?_
    refine EX.seq_ret ?_
    exact EX.done (resc5 rfl rfl rfl rfl rfl rfl (lv_25 (q2.at (j := 0) rfl) (q2.at (j := 1) rfl) (q2.at (j := 2) rfl))) ⟨.inl ⟨_, _, _, _, _, _, rfl⟩, hbw⟩
end Go.Proofs.Ytmaiiigijjfjfaa
namespace Go.Proofs.Ytmaiiigijjfjfaa
open Go Go.ChangeShapes Go.WideShapes Go.Deep Go.RowKit Go.Joins
section
variable {H : Type} {enc : TypeId × Value → H} {P : Program} {w : World} {base : Nat} {spare : Nat → Bool} {held : Bool}
theorem wt_all {e : TypeId} {d : DataW H} {m : Nat} : ∀ {ds : List (DataW H)}, d ∈ ds → m ∈ d.weights P e → m ∈ DataW.weightsAll P e ds
  | [], h, _ => by cases h
  | x :: ds, h, hm => by
    simp only [DataW.weightsAll, List.mem_append]
    rcases List.mem_cons.1 h with rfl | h
    · exact .inl hm
    · exact .inr (wt_all h hm)
theorem wt_struct {t ft : TypeId} {fs : Array Field} {ds : List (DataW H)} {j m : Nat} {d : DataW H} (ht : P.underlying t = some (.struct fs)) (h1 : (fs.toList.map (·.type))[j]? = some ft) (h2 : ds[j]? = some d) (hm : m ∈ d.weights P ft) : m ∈ (DataW.agg ds).weights P t := by
  simp only [DataW.weights, ht]
  exact DataW.weights_mem_each h1 h2 m hm
/-- a slice, opened to its elements -/
theorem rd_listW {α : Type} [Inhabited α] {f : α → List Value} {s : Nat} {Good : α → Prop} (hf : ∀ x, (f x).length = s) (hs : 0 < s) {t e : TypeId} {fuel : Nat} {v : Value} {x : DataW H × List MemPlace} (ht : P.underlying t = some (.slice e)) (hC : P.cellsOf e = s)
    (hE : ∀ (fuel : Nat) (cs : List Value) (x : DataW H × List MemPlace), cs.length = s → DataW.trod enc P w base spare held fuel e cs = some x → (∀ m ∈ x.1.weights P e, m ≤ reachBytes) → ∃ y : α, cs = f y ∧ Good y) (h : DataW.trod enc P w base spare held fuel t [v] = some x) (hw : ∀ m ∈ x.1.weights P t, m ≤ reachBytes) :
    ∃ l : List α, Rd w w.heap.size s v l.length (l.flatMap f) ∧ (∀ y ∈ l, Good y) ∧ l.length ≤ maxLen ∧ l.length * P.bytesOf e ≤ reachBytes := by
  rcases open_slice ht h with ⟨hcs, _⟩ | ⟨a, len, cap, m, n, D, Pl, hcs, _, hl, hcap, hm, hx, hi⟩
  · injection hcs with hcs
    subst hcs
    exact ⟨[], Rd.nil_ _ _ _, by simp, Nat.zero_le _, by simp⟩
  · injection hcs with hcs
    subst hcs
    have hws : ((List.range len).map D).length * P.bytesOf e ≤ reachBytes ∧ ∀ i, i < len → ∀ m' ∈ (D i).weights P e, m' ≤ reachBytes := by
      rw [hx] at hw
      simp only [DataW.weights, ht] at hw
      refine ⟨Nat.le_trans (Nat.mul_le_mul_right _ (Nat.le_add_right _ _)) (hw _ (List.mem_cons_self ..)), fun i hi' m' hm' => hw _ (List.mem_cons_of_mem _ (List.mem_append_left _ (wt_all (List.mem_map.2 ⟨i, List.mem_range.2 hi', rfl⟩) hm')))⟩
    rw [List.length_map, List.length_range] at hws
    have hcell : ∀ i, i < len → ∃ y : α, (∀ j u, (f y)[j]? = some u → w.cell? (a.add (i * s + j)) = some u) ∧ Good y := by
      intro i hi'
      obtain ⟨cs', hc, ht'⟩ := hi i (by rw [hm]; split <;> omega)
      rw [hC] at hc
      obtain ⟨_, hcl, hat⟩ := World.cells?_some hc
      obtain ⟨y, hy, hg⟩ := hE _ cs' _ hcl ht' (hws.2 i hi')
      subst hy
      refine ⟨y, fun j u hu => ?_, hg⟩
      have hj : j < s := by
        have := (List.getElem?_eq_some_iff.1 hu).1
        rwa [hf] at this
      have h1 := hat j hj
      rw [Go.Deep.add_add] at h1
      rw [h1, hu]
    let pick : Nat → α := fun i => if h : i < len then Classical.choose (hcell i h) else default
    have hpick : ∀ i, (h : i < len) → (∀ j u, (f (pick i))[j]? = some u → w.cell? (a.add (i * s + j)) = some u) ∧ Good (pick i) := fun i h => by
      have := Classical.choose_spec (hcell i h)
      simp only [pick, dif_pos h]
      exact this
    refine ⟨(List.range len).map pick, ?_, ?_, by simp; omega, by simpa using hws.1⟩
    · rw [List.length_map, List.length_range]
      rcases Nat.eq_zero_or_pos len with hz | hz
      · subst hz
        exact ⟨by simp, _, _, rfl, hl, fun h => absurd h (by omega)⟩
      · have h0 := (hpick 0 hz).1 0 _ (List.getElem?_eq_getElem (by rw [hf]; exact hs))
        obtain ⟨hsp, hb⟩ := cell_spot h0
        have e0 : a.add (0 * s + 0) = a := by simp [Addr.add]
        rw [e0] at hsp hb
        have hx : a = ⟨a.block, a.off, none⟩ := by obtain ⟨b, o, s⟩ := a; subst hsp; rfl
        rw [hx, List.flatMap_map]
        refine rd_of_cells _ (fun i => hf _) hs hb hl fun i hi' j u hu => ?_
        have h1 := (hpick i hi').1 j u hu
        rw [add_lit_more a _ hsp] at h1
        exact h1
    · intro y hy
      obtain ⟨i, hi', rfl⟩ := List.mem_map.1 hy
      exact (hpick i (by simpa using hi')).2
end
section
variable {H : Type} {enc : TypeId × Value → H} {w : World} {base : Nat} {spare : Nat → Bool} {held : Bool}
theorem co_99 : Try.prog.cellsOf 99 = 1 := by kernel_rfl
theorem co_63 : Try.prog.cellsOf 63 = 1 := by kernel_rfl
theorem co_62 : Try.prog.cellsOf 62 = 1 := by kernel_rfl
set_option maxRecDepth 100000 in
theorem cellsW_74 {fuel : Nat} {cs : List Value} {x : DataW H × List MemPlace} (hl : cs.length = 1) (h : DataW.trod enc Try.prog w base spare held fuel 74 cs = some x) (hw : ∀ m ∈ x.1.weights Try.prog 74, m ≤ reachBytes) : ∃ (v0 : Value), cs = [v0] ∧ (∃ n x, DataW.trod enc Try.prog w base spare held n 72 [v0] = some x ∧ ∀ m ∈ x.1.weights Try.prog 72, m ≤ reachBytes) := by
  obtain ⟨ys, n, _, hx, _, hyl, hf⟩ := DataW.trod_struct Try.underlying74 h
  rw [hx] at hw
  match cs, hl with
  | [u0], _ =>
    match ys, hyl with
    | [y0], _ =>
      have q0 : DataW.trod enc Try.prog w base spare held n 72 [u0] = some y0 := fld_of hf (j := 0) rfl rfl rfl co_72
      have w0 : ∀ m ∈ y0.1.weights Try.prog 72, m ≤ reachBytes := fun m hm => hw m (wt_struct Try.underlying74 (j := 0) rfl rfl hm)
      exact ⟨u0, rfl, ⟨_, _, q0, w0⟩⟩
set_option maxRecDepth 100000 in
theorem cellsW_25 {fuel : Nat} {cs : List Value} {x : DataW H × List MemPlace} (hl : cs.length = 3) (h : DataW.trod enc Try.prog w base spare held fuel 25 cs = some x) (hw : ∀ m ∈ x.1.weights Try.prog 25, m ≤ reachBytes) : ∃ (z0 : Int) (v1 : Value) (v2 : Value), cs = [.int .i64 z0, v1, v2] ∧ (∃ n x, DataW.trod enc Try.prog w base spare held n 22 [v1] = some x ∧ ∀ m ∈ x.1.weights Try.prog 22, m ≤ reachBytes) ∧ (∃ n x, DataW.trod enc Try.prog w base spare held n 23 [v2] = some x ∧ ∀ m ∈ x.1.weights Try.prog 23, m ≤ reachBytes) := by
  obtain ⟨ys, n, _, hx, _, hyl, hf⟩ := DataW.trod_struct Try.underlying25 h
  rw [hx] at hw
  match cs, hl with
  | [u0, u1, u2], _ =>
    match ys, hyl with
    | [y0, y1, y2], _ =>
      have q0 : DataW.trod enc Try.prog w base spare held n 3 [u0] = some y0 := fld_of hf (j := 0) rfl rfl rfl co_3
      have w0 : ∀ m ∈ y0.1.weights Try.prog 3, m ≤ reachBytes := fun m hm => hw m (wt_struct Try.underlying25 (j := 0) rfl rfl hm)
      obtain ⟨z0, hz0, _, _⟩ := DataW.trod_int Try.underlying3 q0
      injection hz0 with hz0
      subst hz0
      have q1 : DataW.trod enc Try.prog w base spare held n 22 [u1] = some y1 := fld_of hf (j := 1) rfl rfl rfl co_22
      have w1 : ∀ m ∈ y1.1.weights Try.prog 22, m ≤ reachBytes := fun m hm => hw m (wt_struct Try.underlying25 (j := 1) rfl rfl hm)
      have q2 : DataW.trod enc Try.prog w base spare held n 23 [u2] = some y2 := fld_of hf (j := 2) rfl rfl rfl co_23
      have w2 : ∀ m ∈ y2.1.weights Try.prog 23, m ≤ reachBytes := fun m hm => hw m (wt_struct Try.underlying25 (j := 2) rfl rfl hm)
      exact ⟨z0, u1, u2, rfl, ⟨_, _, q1, w1⟩, ⟨_, _, q2, w2⟩⟩
set_option maxRecDepth 100000 in
theorem cellsW_65 {fuel : Nat} {cs : List Value} {x : DataW H × List MemPlace} (hl : cs.length = 5) (h : DataW.trod enc Try.prog w base spare held fuel 65 cs = some x) (hw : ∀ m ∈ x.1.weights Try.prog 65, m ≤ reachBytes) : ∃ (z0 : Int) (v1 : Value) (v2 : Value) (v3 : Value) (v4 : Value), cs = [.int .i64 z0, v1, v2, v3, v4] ∧ (∃ n x, DataW.trod enc Try.prog w base spare held n 22 [v1] = some x ∧ ∀ m ∈ x.1.weights Try.prog 22, m ≤ reachBytes) ∧ (∃ n x, DataW.trod enc Try.prog w base spare held n 23 [v2] = some x ∧ ∀ m ∈ x.1.weights Try.prog 23, m ≤ reachBytes) ∧ (∃ n x, DataW.trod enc Try.prog w base spare held n 62 [v3] = some x ∧ ∀ m ∈ x.1.weights Try.prog 62, m ≤ reachBytes) ∧ (∃ n x, DataW.trod enc Try.prog w base spare held n 63 [v4] = some x ∧ ∀ m ∈ x.1.weights Try.prog 63, m ≤ reachBytes) := by
  obtain ⟨ys, n, _, hx, _, hyl, hf⟩ := DataW.trod_struct Try.underlying65 h
  rw [hx] at hw
  match cs, hl with
  | [u0, u1, u2, u3, u4], _ =>
    match ys, hyl with
    | [y0, y1, y2], _ =>
      have q0 : DataW.trod enc Try.prog w base spare held n 25 [u0, u1, u2] = some y0 := fld_of hf (j := 0) rfl rfl rfl co_25
      have w0 : ∀ m ∈ y0.1.weights Try.prog 25, m ≤ reachBytes := fun m hm => hw m (wt_struct Try.underlying65 (j := 0) rfl rfl hm)
      obtain ⟨a0, a1, a2, e0, t1, t2⟩ := cellsW_25 rfl q0 w0
      simp only [List.cons.injEq, and_true] at e0
      obtain ⟨rfl, rfl, rfl⟩ := e0
      have q1 : DataW.trod enc Try.prog w base spare held n 62 [u3] = some y1 := fld_of hf (j := 1) rfl rfl rfl co_62
      have w1 : ∀ m ∈ y1.1.weights Try.prog 62, m ≤ reachBytes := fun m hm => hw m (wt_struct Try.underlying65 (j := 1) rfl rfl hm)
      have q2 : DataW.trod enc Try.prog w base spare held n 63 [u4] = some y2 := fld_of hf (j := 2) rfl rfl rfl co_63
      have w2 : ∀ m ∈ y2.1.weights Try.prog 63, m ≤ reachBytes := fun m hm => hw m (wt_struct Try.underlying65 (j := 2) rfl rfl hm)
      exact ⟨a0, u1, u2, u3, u4, rfl, t1, t2, ⟨_, _, q1, w1⟩, ⟨_, _, q2, w2⟩⟩
theorem by_bd : Try.prog.bytesOf 54 = 16 := by kernel_rfl
theorem by_opt : Try.prog.bytesOf 71 = 48 := by kernel_rfl
theorem by_clue : Try.prog.bytesOf 74 = 24 := by kernel_rfl
theorem flat_u16s : ∀ l : List Int, l.flatMap (fun x => [Value.int .u16 x]) = u16s l
  | [] => rfl
  | x :: l => by
    have := flat_u16s l
    simp only [u16s, List.flatMap_cons, List.map_cons, List.singleton_append] at this ⊢
    rw [this]
theorem rd_u16s {fuel : Nat} {v : Value} {x : DataW H × List MemPlace} (h : DataW.trod enc Try.prog w base spare held fuel 62 [v] = some x) : ∃ l : List Int, Rd w w.heap.size 1 v l.length (u16s l) ∧ (∀ y ∈ l, 0 ≤ y ∧ y ≤ 65535) ∧ l.length ≤ maxLen := by
  obtain ⟨l, h1, h3, h2⟩ := rd_list (α := Int) (s := 1) (f := fun x => [Value.int .u16 x]) (Good := fun x => 0 ≤ x ∧ x ≤ 65535) (fun _ => rfl) (by omega) Try.underlying62 co_99 (fun _ cs _ hl ht => by
    match cs, hl with
    | [u], _ =>
      obtain ⟨z, hz, _, wf⟩ := DataW.trod_int Try.underlying99 ht
      injection hz with hz
      subst hz
      exact ⟨z, rfl, wf_u16 wf⟩) h
  rw [flat_u16s] at h1
  exact ⟨l, h1, h3, h2⟩
theorem rd_bdsW {fuel : Nat} {v : Value} {x : DataW H × List MemPlace} (h : DataW.trod enc Try.prog w base spare held fuel 22 [v] = some x) (hw : ∀ m ∈ x.1.weights Try.prog 22, m ≤ reachBytes) : ∃ l : List Bd, Rd w w.heap.size 2 v l.length (bdsC l) ∧ l.length ≤ maxLen ∧ l.length * 16 ≤ reachBytes := by
  obtain ⟨l, h1, _, h2, h3⟩ := rd_listW (f := bdC) (Good := fun _ => True) bdC_len (by omega) Try.underlying22 co_54 (fun _ cs _ hl ht _ => by
    obtain ⟨a, b, rfl⟩ := cells_54 hl ht
    exact ⟨⟨a, b⟩, rfl, trivial⟩) h hw
  rw [by_bd] at h3
  exact ⟨l, h1, h2, h3⟩
theorem rd_optsW {fuel : Nat} {v : Value} {x : DataW H × List MemPlace} (h : DataW.trod enc Try.prog w base spare held fuel 72 [v] = some x) (hw : ∀ m ∈ x.1.weights Try.prog 72, m ≤ reachBytes) : ∃ l : List Opt, Rd w w.heap.size 6 v l.length (optsC l) ∧ l.length ≤ maxLen ∧ l.length * 48 ≤ reachBytes := by
  obtain ⟨l, h1, _, h2, h3⟩ := rd_listW (f := optC) (Good := fun _ => True) optC_len (by omega) Try.underlying72 co_71 (fun _ cs _ hl ht _ => by
    obtain ⟨a, b, c, d, e, f, rfl⟩ := cells_71 hl ht
    exact ⟨⟨a, b, c, d, ⟨e, f⟩⟩, rfl, trivial⟩) h hw
  rw [by_opt] at h3
  exact ⟨l, h1, h2, h3⟩
theorem rd_cluesW {fuel : Nat} {v : Value} {x : DataW H × List MemPlace} (h : DataW.trod enc Try.prog w base spare held fuel 23 [v] = some x) (hw : ∀ m ∈ x.1.weights Try.prog 23, m ≤ reachBytes) : ∃ (l : List (List Opt)) (vs : List Value), RdLL optC 6 w w.heap.size v l vs ∧ l.length ≤ maxLen ∧ l.length * 24 ≤ reachBytes ∧ ∀ j, j < l.length → (l.getD j []).length * 48 ≤ reachBytes := by
  obtain ⟨l, h1, h3, h2, h4⟩ := rd_listW (α := List Opt × Value) (s := 1) (f := fun p => [p.2]) (Good := fun p => Rd w w.heap.size 6 p.2 p.1.length (optsC p.1) ∧ p.1.length * 48 ≤ reachBytes) (fun _ => rfl) (by omega) Try.underlying23 co_74 (fun _ cs _ hl ht hw => by
    obtain ⟨u, rfl, _, _, hq, hwq⟩ := cellsW_74 hl ht hw
    obtain ⟨l, h1, _, h2⟩ := rd_optsW hq hwq
    exact ⟨(l, u), rfl, h1, h2⟩) h hw
  rw [flat_snd] at h1
  rw [by_clue] at h4
  refine ⟨l.map Prod.fst, l.map Prod.snd, ⟨by simp, by simpa using h1, fun i hi => ?_⟩, by simpa using h2, by simpa using h4, fun i hi => ?_⟩
  · have hi' : i < l.length := by simpa using hi
    have e1 : (l.map Prod.fst).getD i [] = l[i].1 := by simp [hi']
    have e2 : (l.map Prod.snd).getD i undef = l[i].2 := by simp [hi']
    rw [e1, e2]
    exact (h3 _ (List.getElem_mem hi')).1
  · have hi' : i < l.length := by simpa using hi
    have e1 : (l.map Prod.fst).getD i [] = l[i].1 := by simp [hi']
    rw [e1]
    exact (h3 _ (List.getElem_mem hi')).2
theorem story_of {v : Value} {d : DataW H} {p : List MemPlace} (h : DataW.Trod enc Try.prog w base spare held 65 v d p) (hw : ∀ m ∈ d.weights Try.prog 65, m ≤ reachBytes) : ∃ (c : Case) (vc vl : Value) (vs : List Value) (vm vf : Value) (xm xf : List Int), v = .agg #[.int .i64 c.events, vc, vl, vm, vf] ∧ RdCase w w.heap.size vc vl c vs ∧ c.clocks.length ≤ maxLen ∧ c.clues.length ≤ maxLen ∧ Fits c ∧ Rd w w.heap.size 1 vm xm.length (u16s xm) ∧ Rd w w.heap.size 1 vf xf.length (u8s xf) ∧ xm.length ≤ maxLen ∧ xf.length ≤ maxLen ∧ (∀ y ∈ xm, 0 ≤ y ∧ y ≤ 65535) ∧ (∀ y ∈ xf, 0 ≤ y ∧ y ≤ 255) := by
  obtain ⟨fuel, hf⟩ := h
  have hl : v.cells.toList.length = 5 := by
    obtain ⟨_, _, _, _, hlen, _, _⟩ := DataW.trod_struct Try.underlying65 hf
    rw [hlen]
    show Try.prog.cellsOf 65 = 5
    kernel_rfl
  obtain ⟨ev, a, b, vm, vf, he, ⟨_, _, ha, wa⟩, ⟨_, _, hb, wb⟩, ⟨_, _, hm, _⟩, ⟨_, _, hg, _⟩⟩ := cellsW_65 hl hf hw
  obtain ⟨l, h1, h2, h2w⟩ := rd_bdsW ha wa
  obtain ⟨m, vs, h3, h4, h5, h6⟩ := rd_cluesW hb wb
  obtain ⟨xm, m1, m2, m3⟩ := rd_u16s hm
  obtain ⟨xf, f1, f2, f3⟩ := rd_u8s hg
  refine ⟨⟨ev, l, m⟩, a, b, vs, vm, vf, xm, xf, ?_, ⟨h1, h3⟩, h2, h4, ⟨h5, h2w, h6⟩, m1, f1, m3, f3, m2, f2⟩
  cases v with
    | agg cs =>
      have : cs = #[.int .i64 ev, a, b, vm, vf] := by
        apply Array.ext'
        simpa [Value.cells] using he
      rw [this]
    | _ => simp [Value.cells] at he
end
end Go.Proofs.Ytmaiiigijjfjfaa
set_option linter.unusedVariables false
namespace Go.Proofs.Ytmaiiigijjfjfaa
open Go Go.RowKit
theorem u8_of {H : Type} {enc : TypeId × Value → H} {w : World} {base : Nat} {spare : Nat → Bool} {held : Bool} {n : Int} {d : DataW H} {p : List MemPlace} (h : DataW.Trod enc Try.prog w base spare held 5 (.int .u8 n) d p) : 0 ≤ n ∧ n ≤ 255 := by
  obtain ⟨fuel, hf⟩ := h
  obtain ⟨z, hc, _, wf⟩ := DataW.trod_int Try.underlying5 hf
  have hz : n = z := by simpa [Value.cells] using hc
  subst hz
  exact wf_u8 wf
end Go.Proofs.Ytmaiiigijjfjfaa
set_option linter.unusedVariables false
set_option linter.unusedSimpArgs false
namespace Go.Proofs.Ytmaiiigijjfjfaa
open Go Go.RowKit
/-- what the inner function of sets reads -/
structure AtS (N m n0 gm gy go gf l : Nat) (W : World) : Prop where
  m : Blk W gm 3 #[.int .i64 (m : Nat)]
  y : Blk W gy 111 #[.func (.yield l) #[] #[]]
  o : Blk W go 3 #[.int .i64 (N : Nat)]
  f : Blk W gf 116 #[.func (.func 75) #[] #[.pointer (some ⟨gm, 0, none⟩), .pointer (some ⟨gy, 0, none⟩), .pointer (some ⟨go, 0, none⟩), .pointer (some ⟨gf, 0, none⟩)]]
  n0 : n0 ≤ W.heap.size
theorem AtS.keep {N m n0 gm gy go gf l : Nat} {W W' : World} {S : List Nat} (h : AtS N m n0 gm gy go gf l W) (h1 : memB S 116 = false) (h2 : memB S 111 = false) (h3 : memB S 3 = false) (hk : Kp n0 S W W') : AtS N m n0 gm gy go gf l W' :=
  ⟨hk.blk _ _ _ h.m h3, hk.blk _ _ _ h.y h2, hk.blk _ _ _ h.o h3, hk.blk _ _ _ h.f h1, Nat.le_trans h.n0 hk.size⟩
theorem AtS.below {N m n0 gm gy go gf l : Nat} {W W' : World} (h : AtS N m n0 gm gy go gf l W) (hb : Below W.heap.size W W') : AtS N m n0 gm gy go gf l W' := h.keep (S := []) rfl rfl rfl (Kp.of_below hb h.n0)
end Go.Proofs.Ytmaiiigijjfjfaa
set_option linter.unusedVariables false
set_option linter.unusedSimpArgs false
namespace Go.Proofs.Ytmaiiigijjfjfaa
open Go Go.RowKit
def HasI (b0 gl : Nat) (w0 : World) (pre : List It) (W : World) : Prop := pre = [] ∧ Blk W gl 4 #[.bool false] ∧ Below b0 w0 W
def HasX (b0 gl : Nat) (w0 : World) (pre : List It) (W : World) : Prop := Blk W gl 4 #[.bool true] ∧ Below b0 w0 W
theorem HasI.from {b0 gl B : Nat} {w0 : World} (h1 : b0 ≤ w0.heap.size) (h2 : b0 ≤ B) : OwnFrom B (HasI b0 gl w0) := fun s W W' row h hg hr => ⟨h.1, blk_keep h.2.1 hg fun r e => (hr r e).2, ownFrom_below (β := List It) h1 h2 s W W' row h.2.2 hg hr⟩
theorem HasX.from {b0 gl B : Nat} {w0 : World} (h1 : b0 ≤ w0.heap.size) (h2 : b0 ≤ B) : OwnFrom B (HasX b0 gl w0) := fun s W W' row h hg hr => ⟨blk_keep h.1 hg fun r e => (hr r e).2, ownFrom_below (β := List It) h1 h2 s W W' row h.2 hg hr⟩
theorem Marks.below {n0 : Nat} {ds : List Deferred} {W W' : World} (h : Marks n0 ds W) (hb : Below W.heap.size W W') : Marks n0 ds W' := fun d hd => by
  obtain ⟨D, h1, h2, h3⟩ := h d hd
  exact ⟨D, h1, h2, (hb.block D (Array.getElem?_eq_some_iff.1 h3).1).trans h3⟩
theorem Marks.cons {n0 D : Nat} {ds : List Deferred} {W : World} (h : Marks n0 ds W) (hD : n0 ≤ D) (hd : W.heap[D]? = some (.deferred (some []))) : Marks n0 ({ target := .collected D, args := #[] } :: ds) W := fun d hm => by
  rcases List.mem_cons.1 hm with rfl | h1
  · exact ⟨D, hD, rfl, hd⟩
  · exact h d h1
/-- the marks of a world that has been, still there -/
structure MarksIn (n0 : Nat) (ds : List Deferred) (W0 W : World) : Prop where
  marks : Marks n0 ds W
  old : Marks n0 ds W0
theorem Marks.refl {n0 : Nat} {ds : List Deferred} {W : World} (h : Marks n0 ds W) : MarksIn n0 ds W W := ⟨h, h⟩
theorem MarksIn.below {n0 : Nat} {ds : List Deferred} {W0 W W' : World} (h : MarksIn n0 ds W0 W) (hb : Below W.heap.size W W') : MarksIn n0 ds W0 W' := ⟨h.marks.below hb, h.old⟩
/-- what a round of Wrong's range keeps -/
def WrgI (c : Case) (b0 gl gc : Nat) (w0 : World) (cs : Array Value) (W0 : World) (dl : List Deferred) (pre : List It) (W : World) : Prop :=
  ∃ ys : List It, ys.map (·.1) = (pre.map (·.1)).filter (hasW c) ∧ Coll b0 gl w0 ys W ∧ Blk W gc 25 cs ∧ MarksIn b0 dl W0 W
theorem WrgI.from {c : Case} {b0 gl gc B : Nat} {w0 W0 : World} {cs : Array Value} {dl : List Deferred} (h1 : b0 ≤ w0.heap.size) (h2 : b0 ≤ B) (h3 : W0.heap.size ≤ B) : OwnFrom B (WrgI c b0 gl gc w0 cs W0 dl) := fun s W W' row h hg hr => by
  obtain ⟨ys, hys, hcl, hq, hmk⟩ := h
  refine ⟨ys, hys, (Coll.from h1 h2) ys W W' row hcl hg hr, blk_keep hq hg fun r e => (hr r e).2, ⟨fun d hd => ?_, hmk.old⟩⟩
  obtain ⟨D, k1, k2, k3⟩ := hmk.marks d hd
  obtain ⟨D', _, k5, k6⟩ := hmk.old d hd
  have e : D' = D := by rw [k2] at k5; injection k5 with k5 _; injection k5 with k5; exact k5.symm
  subst e
  have hlt := (Array.getElem?_eq_some_iff.1 k6).1
  exact ⟨D', k1, k2, (hg.block D' (Array.getElem?_eq_some_iff.1 k3).1 (fun e => by have := (hr D' e.symm).1; omega)).trans k3⟩
end Go.Proofs.Ytmaiiigijjfjfaa
set_option linter.unusedVariables false
set_option linter.unusedSimpArgs false
namespace Go.Proofs.Ytmaiiigijjfjfaa
open Go Go.RowKit
/-! ### An order of lists -/
def lessL : List Int → List Int → Bool
  | x :: a, y :: b => if x = y then lessL a b else decide (x < y)
  | _, _ => false
/-! ### Sets as numbers -/
def bitsTo (s : Nat) : Nat → List Int
  | 0 => []
  | k + 1 => bitsTo s k ++ (if bitN s k = true then [((k : Nat) : Int)] else [])
structure InvW (c : Case) (k : Nat) (b : List (List Int)) : Prop where
  sound : ∀ x ∈ b, ∃ s, s < k ∧ rcrs c s c.clues.length [] ≠ [] ∧ x = bitsTo s c.clues.length ∧ ∀ t, t < k → rcrs c t c.clues.length [] ≠ [] → x.length ≤ (bitsTo t c.clues.length).length
  full : ∀ s, s < k → rcrs c s c.clues.length [] ≠ [] → (∀ t, t < k → rcrs c t c.clues.length [] ≠ [] → (bitsTo s c.clues.length).length ≤ (bitsTo t c.clues.length).length) → bitsTo s c.clues.length ∈ b
  some : ∀ s, s < k → rcrs c s c.clues.length [] ≠ [] → b ≠ []
  sorted : b.Pairwise (fun a b => lessL a b = true)
theorem InvW.len {c : Case} {k : Nat} {b : List (List Int)} (h : InvW c k b) {x y : List Int} (hx : x ∈ b) (hy : y ∈ b) : x.length = y.length := by
  obtain ⟨s, h1, h2, e1, h3⟩ := h.sound x hx
  obtain ⟨t, k1, k2, e2, k3⟩ := h.sound y hy
  have a := h3 t k1 k2
  have b := k3 s h1 h2
  rw [← e2] at a
  rw [← e1] at b
  omega
end Go.Proofs.Ytmaiiigijjfjfaa
set_option linter.unusedVariables false
set_option linter.unusedSimpArgs false
namespace Go.Proofs.Ytmaiiigijjfjfaa
open Go Go.RowKit
theorem OwnLL.ins {W W' : World} {base k : Nat} {v v' vl : Value} {L : List (List Int)} {l : List Int} {fs : List Value} (h : OwnLL W base v L fs) (hl : W.ownsRow 0 3 1 vl l.length (ints l)) (hb : Below W.heap.size W W') (hk : k ≤ L.length) (ho : W'.ownsRow base 26 1 v' (k + 1 + (L.length - k)) (fs.take k ++ [vl] ++ fs.drop k)) : OwnLL W' base v' (L.take k ++ [l] ++ L.drop k) (fs.take k ++ [vl] ++ fs.drop k) := by
  have hlen : (L.take k ++ [l] ++ L.drop k).length = k + 1 + (L.length - k) := by
    rw [List.length_append, List.length_append, List.length_take, List.length_drop, List.length_singleton, Nat.min_eq_left hk]
  have hf := h.len
  refine ⟨by rw [hlen, List.length_append, List.length_append, List.length_take, List.length_drop, List.length_singleton, hf, Nat.min_eq_left hk], by rw [hlen]; exact ho, fun i hi => ?_⟩
  rw [hlen] at hi
  have get : ∀ {α : Type} (m : List α) (y d : α), m.length = L.length → (m.take k ++ [y] ++ m.drop k).getD i d = if i < k then m.getD i d else if i = k then y else m.getD (i - 1) d := fun m y d hm => by
    have h1 : (m.take k).length = k := by rw [List.length_take]; omega
    rw [List.append_assoc, List.getD_eq_getElem?_getD, List.getElem?_append, h1]
    by_cases e1 : i < k
    · rw [if_pos e1, if_pos e1, List.getElem?_take, if_pos e1, List.getD_eq_getElem?_getD]
    · rw [if_neg e1, if_neg e1, List.singleton_append]
      by_cases e2 : i = k
      · rw [if_pos e2, e2, Nat.sub_self]; rfl
      · rw [if_neg e2, show i - k = (i - 1 - k) + 1 by omega, List.getElem?_cons_succ, List.getElem?_drop, show k + (i - 1 - k) = i - 1 by omega, List.getD_eq_getElem?_getD]
  rw [get L l [] rfl, get fs vl undef hf]
  by_cases e1 : i < k
  · rw [if_pos e1, if_pos e1]
    exact own_below (h.row i (by omega)) hb (Nat.le_refl _)
  · rw [if_neg e1, if_neg e1]
    by_cases e2 : i = k
    · rw [if_pos e2, if_pos e2]
      exact own_below hl hb (Nat.le_refl _)
    · rw [if_neg e2, if_neg e2]
      exact own_below (h.row (i - 1) (by omega)) hb (Nat.le_refl _)
end Go.Proofs.Ytmaiiigijjfjfaa
set_option linter.unusedVariables false
set_option linter.unusedSimpArgs false
namespace Go.Proofs.Ytmaiiigijjfjfaa
open Go Go.RowKit
section
variable {c : Case} {l : List Int} {π : Nat → Int}
theorem tr_fits (hc : caseB c = true) (hl : inCourse c l) (hf : FeasM (linksOf c l) π) : okC c l = true ∧ fitsS c l = true := by
  have h := (ok_iff hc hl.neg).2 ⟨π, hf⟩
  exact ⟨h, (fits_okC hc hl.neg).trans h⟩
theorem tr_dist (hc : caseB c = true) (hl : inCourse c l) (hf : FeasM (linksOf c l) π) {i k : Nat} (hi : i < nOf c) (hk : k < nOf c) : π k - π i ≤ dist c l i k :=
  feas_fw (hub_of hc hl.neg) (feas_iff.2 hf) (Nat.le_refl _) i k hi hk
theorem tr_tri (hc : caseB c = true) (hl : inCourse c l) (hok : okC c l = true) {i j k : Nat} (hi : i < nOf c) (hj : j < nOf c) (hk : k < nOf c) : dist c l i k ≤ dist c l i j + dist c l j k :=
  fw_tri (hub_of hc hl.neg) (Nat.le_refl _) (okM_iff.1 hok) j hj i k hi hk
theorem tr_link (hc : caseB c = true) {x : Lnk} (hx : x ∈ linksOf c l) : dist c l x.fr x.to ≤ x.most := by
  obtain ⟨k, hk, e⟩ := mem_at hx
  have a := links_le hk
  have m := fw_le0 (ls := linksOf c l) (nOf c) x.fr x.to
  rw [e] at a
  exact Int.le_trans m a
theorem tr_ev (hc : caseB c = true) {i : Nat} (hi : i < c.events.toNat) : dist c l (1 + i) 0 ≤ 0 ∧ dist c l 0 (1 + i) ≤ 1000000 := by
  have h : ∀ x ∈ evL i, x ∈ linksOf c l := fun x hx => by
    unfold linksOf
    exact List.mem_append_left _ (List.mem_append_left _ (mem_flatR.2 ⟨i, hi, hx⟩))
  exact ⟨tr_link hc (x := ⟨1 + i, 0, 0⟩) (h _ (by simp [evL])), tr_link hc (x := ⟨0, 1 + i, 1000000⟩) (h _ (by simp [evL]))⟩
/-- the bounds of the events -/
theorem rT_get {i : Nat} (hi : i < c.events.toNat) : (rTimes c l c.events.toNat).getD i bd0 = ⟨-dist c l (1 + i) 0, dist c l 0 (1 + i)⟩ := by simp [rTimes, List.getD, hi]
end
end Go.Proofs.Ytmaiiigijjfjfaa
set_option linter.unusedVariables false
set_option linter.unusedSimpArgs false
namespace Go.Proofs.Ytmaiiigijjfjfaa
open Go Go.RowKit
section
variable {n : Nat} {σ : Sg} {w : World} {dst : Option Tmp} {ty : TypeId} {pos : String} {af : Array Edge} {g : Option (Nat × Bool)} {x y : Operand}
theorem index4 {p0 p1 p2 p3 v : Int} {k : Nat} (hx : evS σ x = some (.agg #[.int .i64 p0, .int .i64 p1, .int .i64 p2, .int .i64 p3])) (hy : evS σ y = some (.int .i64 (k : Int))) (hk : k < 4) (hv : [p0, p1, p2, p3].getD k 0 = v) : Gives Try.prog n σ w ⟨dst, .index 68 x y, ty, pos, af, g⟩ (.int .i64 v) := fun a ha => by
  subst hv
  simp only [execOp, ha.eval hx, ha.eval hy]
  rcases (show k = 0 ∨ k = 1 ∨ k = 2 ∨ k = 3 by omega) with rfl | rfl | rfl | rfl <;> kernel_rfl
end
/-- the case with one exact clock more, which shows a minute when an event happens -/
def moreO (c : Case) (ev : Nat) (m : Int) : Opt := ⟨1, (ev : Nat), (c.clocks.length : Nat), 0, ⟨m, m⟩⟩
def moreC (c : Case) (ev : Nat) (m : Int) : Case := ⟨c.events, c.clocks ++ [bd0], c.clues ++ [[moreO c ev m]]⟩
section
variable {c : Case} {l : List Int} {π : Nat → Int} {ev : Nat} {m : Int}
theorem more_n : nOf (moreC c ev m) = nOf c + 1 := by unfold nOf moreC; simp; omega
theorem more_opt {o : Opt} (h : optB c o = true) : optB (moreC c ev m) o = true := by
  simp only [optB, Bool.and_eq_true] at h ⊢
  refine ⟨h.1, h.2.1, ?_⟩
  have h3 := h.2.2
  by_cases hk : o.kind = 1
  · rw [if_pos hk] at h3 ⊢
    simp only [Bool.and_eq_true, inB_iff, decide_eq_true_eq] at h3 ⊢
    refine ⟨?_, h3.2⟩
    show 0 ≤ o.clock ∧ o.clock ≤ (((c.clocks ++ [bd0]).length : Nat) : Int) - 1
    rw [List.length_append, List.length_singleton]
    omega
  · rw [if_neg hk] at h3 ⊢
    exact h3
theorem more_ok (hc : caseB c = true) (h1 : c.clues.length < 20) (h2 : c.clocks.length < 8) (he : ev < c.events.toNat) (hm : -2000000 ≤ m ∧ m ≤ 2000000) : caseB (moreC c ev m) = true := by
  simp only [caseB, Bool.and_eq_true, decide_eq_true_eq] at hc ⊢
  refine ⟨hc.1, by show (c.clocks ++ [bd0]).length ≤ 8; simp; omega, by show (c.clues ++ [[moreO c ev m]]).length ≤ 20; simp; omega, ?_, ?_⟩
  · show (c.clocks ++ [bd0]).all _ = true
    rw [List.all_append, hc.2.2.2.1]
    decide
  · show (c.clues ++ [[moreO c ev m]]).all _ = true
    rw [List.all_append, Bool.and_eq_true]
    constructor
    · refine List.all_eq_true.2 fun x hx => ?_
      have := List.all_eq_true.1 hc.2.2.2.2 x hx
      simp only [clueB, Bool.and_eq_true] at this ⊢
      exact ⟨this.1, List.all_eq_true.2 fun o ho => more_opt (List.all_eq_true.1 this.2 o ho)⟩
    · have hb : optB (moreC c ev m) (moreO c ev m) = true := by
        have hev := hc.1
        rw [inB_iff] at hev
        simp only [optB, Bool.and_eq_true, inB_iff, bdOk_iff]
        refine ⟨?_, ?_, ?_⟩
        · show 0 ≤ ((ev : Nat) : Int) ∧ ((ev : Nat) : Int) ≤ c.events - 1
          omega
        · show -2000000 ≤ m ∧ m ≤ m ∧ m ≤ 2000000
          omega
        · rw [if_pos (show (moreO c ev m).kind = 1 from rfl)]
          simp only [Bool.and_eq_true, inB_iff, decide_eq_true_eq]
          refine ⟨?_, rfl⟩
          show 0 ≤ ((c.clocks.length : Nat) : Int) ∧ ((c.clocks.length : Nat) : Int) ≤ (((c.clocks ++ [bd0]).length : Nat) : Int) - 1
          simp
      simp [clueB, inB_iff, hb]
theorem more_course (hl : inCourse c l) (hlen : l.length = c.clues.length) : inCourse (moreC c ev m) (l ++ [0]) := by
  refine ⟨by show _ ≤ (c.clues ++ [[moreO c ev m]]).length; simp; omega, fun i hi => ?_⟩
  show _ ∧ _ < ((((c.clues ++ [[moreO c ev m]]).getD i []).length : Nat) : Int)
  rw [getD_end, getD_end]
  by_cases h : i < l.length
  · rw [if_pos h, if_pos (by omega)]
    exact hl.2 i h
  · have : i = l.length := by simp at hi; omega
    rw [if_neg h, if_pos this, if_neg (by omega), if_pos (by omega)]
    simp
theorem more_start (hc : caseB (moreC c ev m) = true) (hl : inCourse c l) (hlen : l.length = c.clues.length) : startErr (moreC c ev m) (l ++ [0]) = 0 :=
  start_of hc (by show _ = (c.clues ++ [[moreO c ev m]]).length; simp [hlen]) (more_course hl hlen)
theorem more_feas (hl : inCourse c l) (hlen : l.length = c.clues.length) : FeasM (linksOf (moreC c ev m) (l ++ [0])) π ↔ FeasM (linksOf c l) π ∧ π (nOf c) = π 0 ∧ π (1 + ev) = π (nOf c) + m := by
  have hcl : ∀ k, k < c.clocks.length → clL (moreC c ev m) k = clL c k := fun k hk => by
    unfold clL
    have : (moreC c ev m).clocks.getD k bd0 = c.clocks.getD k bd0 := by show (c.clocks ++ [bd0]).getD k bd0 = _; rw [getD_end, if_pos hk]
    rw [this]
    rfl
  have hcn : clL (moreC c ev m) c.clocks.length = [⟨0, nOf c, 0⟩, ⟨nOf c, 0, 0⟩] := by
    unfold clL
    have : (moreC c ev m).clocks.getD c.clocks.length bd0 = bd0 := by show (c.clocks ++ [bd0]).getD _ bd0 = _; rw [getD_end, if_neg (by omega), if_pos rfl]
    rw [this]
    rfl
  have hcr : ∀ i, i < l.length → crsL (moreC c ev m) (l ++ [0]) i = crsL c l i := fun i hi => by
    unfold crsL
    rw [getD_end, if_pos hi]
    have : optAt (moreC c ev m) i (l.getD i 0) = optAt c i (l.getD i 0) := by
      unfold optAt
      show ((c.clues ++ [[moreO c ev m]]).getD i []).getD _ _ = _
      rw [getD_end, if_pos (by omega)]
    rw [this]
    rfl
  have hcx : crsL (moreC c ev m) (l ++ [0]) l.length = [⟨nOf c, 1 + ev, m⟩, ⟨1 + ev, nOf c, -m⟩] := by
    unfold crsL
    have e0 : (l ++ [(0 : Int)]).getD l.length 0 = 0 := by rw [getD_end, if_neg (Nat.lt_irrefl _), if_pos rfl]
    rw [e0, if_neg (by decide)]
    have : optAt (moreC c ev m) l.length 0 = moreO c ev m := by
      unfold optAt
      show ((c.clues ++ [[moreO c ev m]]).getD l.length []).getD _ _ = _
      rw [getD_end, if_neg (by omega), if_pos hlen]
      rfl
    rw [this]
    unfold optL optFrom
    rfl
  have hmem : ∀ x, x ∈ linksOf (moreC c ev m) (l ++ [0]) ↔ x ∈ linksOf c l ∨ x ∈ clL (moreC c ev m) c.clocks.length ∨ x ∈ crsL (moreC c ev m) (l ++ [0]) l.length := by
    intro x
    unfold linksOf clLinks crsLinks
    rw [show (moreC c ev m).clocks.length = c.clocks.length + 1 by show (c.clocks ++ [bd0]).length = _; simp, List.length_append, List.length_singleton, range_flat, range_flat, flat_congr _ hcl, flat_congr _ hcr]
    simp only [List.mem_append]
    constructor
    · rintro ((h | h | h) | h | h)
      · exact .inl (.inl (.inl h))
      · exact .inl (.inl (.inr h))
      · exact .inr (.inl h)
      · exact .inl (.inr h)
      · exact .inr (.inr h)
    · rintro (((h | h) | h) | h | h)
      · exact .inl (.inl h)
      · exact .inl (.inr (.inl h))
      · exact .inr (.inl h)
      · exact .inl (.inr (.inr h))
      · exact .inr (.inr h)
  rw [hcn, hcx] at hmem
  constructor
  · intro h
    have a1 := h ⟨0, nOf c, 0⟩ ((hmem _).2 (.inr (.inl (by simp))))
    have a2 := h ⟨nOf c, 0, 0⟩ ((hmem _).2 (.inr (.inl (by simp))))
    have a3 := h ⟨nOf c, 1 + ev, m⟩ ((hmem _).2 (.inr (.inr (by simp))))
    have a4 := h ⟨1 + ev, nOf c, -m⟩ ((hmem _).2 (.inr (.inr (by simp))))
    simp only at a1 a2 a3 a4
    exact ⟨fun x hx => h x ((hmem x).2 (.inl hx)), by omega, by omega⟩
  · rintro ⟨h, h1, h2⟩ x hx
    rcases (hmem x).1 hx with hx | hx | hx
    · exact h x hx
    · simp only [List.mem_cons, List.not_mem_nil, or_false] at hx
      rcases hx with rfl | rfl <;> simp only <;> omega
    · simp only [List.mem_cons, List.not_mem_nil, or_false] at hx
      rcases hx with rfl | rfl <;> simp only <;> omega
/-- numbers of the case with the clock more -/
theorem more_up (hc : caseB c = true) (hl : inCourse c l) (hlen : l.length = c.clues.length) (hf : FeasM (linksOf c l) π) (he : π (1 + ev) = π 0 + m) (hev : ev < c.events.toNat) : FeasM (linksOf (moreC c ev m) (l ++ [0])) (fun v => if v = nOf c then π 0 else π v) := by
  have h0 : (0 : Nat) ≠ nOf c := by unfold nOf; omega
  have h1 : 1 + ev ≠ nOf c := by unfold nOf; omega
  refine (more_feas hl hlen).2 ⟨fun x hx => ?_, by rw [if_pos rfl, if_neg h0], by rw [if_pos rfl, if_neg h1]; exact he⟩
  have hb := links_all hc hl x hx
  show (if x.to = nOf c then π 0 else π x.to) ≤ (if x.fr = nOf c then π 0 else π x.fr) + x.most
  rw [if_neg (by omega), if_neg (by omega)]
  exact hf x hx
/-- the ends of an event's bounds are reached -/
theorem end_low (hc : caseB c = true) (hl : inCourse c l) (hok : okC c l = true) (hev : ev < c.events.toNat) : ∃ π, FeasM (linksOf c l) π ∧ π (1 + ev) = π 0 + -dist c l (1 + ev) 0 := by
  have hn : 1 + ev < nOf c := by unfold nOf; omega
  have hd : dist c l (1 + ev) (1 + ev) = 0 := fw_diag (hub_of hc hl.neg) hn (okM_iff.1 hok (nOf c) (by omega))
  refine ⟨dist c l (1 + ev), feas_iff.1 (feas_dist (hub_of hc hl.neg) hok hn), ?_⟩
  rw [hd]; omega
theorem end_high (hc : caseB c = true) (hl : inCourse c l) (hok : okC c l = true) : ∃ π, FeasM (linksOf c l) π ∧ π (1 + ev) = π 0 + dist c l 0 (1 + ev) := by
  have hn : 0 < nOf c := by unfold nOf; omega
  have hd : dist c l 0 0 = 0 := fw_diag (hub_of hc hl.neg) hn (okM_iff.1 hok (nOf c) (by omega))
  refine ⟨dist c l 0, feas_iff.1 (feas_dist (hub_of hc hl.neg) hok hn), ?_⟩
  rw [hd]; omega
theorem more_okC (hcm : caseB (moreC c ev m) = true) (hc : caseB c = true) (hl : inCourse c l) (hlen : l.length = c.clues.length) (hev : ev < c.events.toNat) (h : ∃ π, FeasM (linksOf c l) π ∧ π (1 + ev) = π 0 + m) : okC (moreC c ev m) (l ++ [0]) = true := by
  obtain ⟨π, hf, he⟩ := h
  exact (ok_iff hcm (more_course hl hlen).neg).2 ⟨_, more_up hc hl hlen hf he hev⟩
theorem more_not (hcm : caseB (moreC c ev m) = true) (hc : caseB c = true) (hl : inCourse c l) (hlen : l.length = c.clues.length) (hev : ev < c.events.toNat) (h : m < -dist c l (1 + ev) 0 ∨ dist c l 0 (1 + ev) < m) : okC (moreC c ev m) (l ++ [0]) = false := by
  cases e : okC (moreC c ev m) (l ++ [0]) with
  | false => rfl
  | true =>
    obtain ⟨π, hf⟩ := (ok_iff hcm (more_course hl hlen).neg).1 e
    obtain ⟨h1, h2, h3⟩ := (more_feas hl hlen).1 hf
    have a := tr_dist hc hl h1 (i := 0) (k := 1 + ev) (by unfold nOf; omega) (by unfold nOf; omega)
    have b := tr_dist hc hl h1 (i := 1 + ev) (k := 0) (by unfold nOf; omega) (by unfold nOf; omega)
    omega
/-- the event happens just then; no bounds are wider -/
theorem more_bounds (hcm : caseB (moreC c ev m) = true) (hc : caseB c = true) (hl : inCourse c l) (hlen : l.length = c.clues.length) (hev : ev < c.events.toNat) (h : okC (moreC c ev m) (l ++ [0]) = true) :
    (-dist (moreC c ev m) (l ++ [0]) (1 + ev) 0 = m ∧ dist (moreC c ev m) (l ++ [0]) 0 (1 + ev) = m) ∧
    ∀ i, i < c.events.toNat → -dist c l (1 + i) 0 ≤ -dist (moreC c ev m) (l ++ [0]) (1 + i) 0 ∧ dist (moreC c ev m) (l ++ [0]) 0 (1 + i) ≤ dist c l 0 (1 + i) ∧ -dist (moreC c ev m) (l ++ [0]) (1 + i) 0 ≤ dist (moreC c ev m) (l ++ [0]) 0 (1 + i) := by
  have hlm := more_course (ev := ev) (m := m) hl hlen
  have hub := hub_of hcm hlm.neg
  have hD : ∀ u, u < nOf (moreC c ev m) → FeasM (linksOf (moreC c ev m) (l ++ [0])) (dist (moreC c ev m) (l ++ [0]) u) ∧ dist (moreC c ev m) (l ++ [0]) u u = 0 := fun u hu => ⟨feas_iff.1 (feas_dist hub h hu), fw_diag hub hu (okM_iff.1 h _ (by omega))⟩
  have hn : nOf (moreC c ev m) = nOf c + 1 := more_n
  have hi : ∀ i, i < c.events.toNat → 1 + i < nOf c := fun i hi => by unfold nOf; omega
  have hp : 0 < nOf c := by unfold nOf; omega
  obtain ⟨f0, d0⟩ := hD 0 (by omega)
  obtain ⟨g1, g2, g3⟩ := (more_feas hl hlen).1 f0
  have he := hi ev hev
  obtain ⟨fe, de⟩ := hD (1 + ev) (by omega)
  obtain ⟨k1, k2, k3⟩ := (more_feas hl hlen).1 fe
  refine ⟨⟨by omega, by omega⟩, fun i hlt => ?_⟩
  have hii := hi i hlt
  obtain ⟨fi, di⟩ := hD (1 + i) (by omega)
  obtain ⟨j1, _, _⟩ := (more_feas hl hlen).1 fi
  have a := tr_dist hc hl g1 (i := 0) (k := 1 + i) hp hii
  have b := tr_dist hc hl j1 (i := 1 + i) (k := 0) hii hp
  have q := tr_tri hcm hlm h (i := 0) (j := 1 + i) (k := 0) (by omega) (by omega) (by omega)
  omega
end
end Go.Proofs.Ytmaiiigijjfjfaa
set_option linter.unusedVariables false
set_option linter.unusedSimpArgs false
namespace Go.Proofs.Ytmaiiigijjfjfaa
open Go Go.RowKit
section
variable {n : Nat} {σ : Sg} {w : World} {dst : Option Tmp} {ty : TypeId} {pos : String} {af : Array Edge} {g : Option (Nat × Bool)} {x y z : Operand} {at' : Array TypeId}
theorem ld_65 {b o : Nat} {v0 v1 v2 v3 v4 : Value} (hx : evS σ x = some (.pointer (some ⟨b, o, none⟩))) (c0 : w.cell? ⟨b, o, none⟩ = some v0) (c1 : w.cell? ⟨b, o + 1, none⟩ = some v1) (c2 : w.cell? ⟨b, o + 2, none⟩ = some v2) (c3 : w.cell? ⟨b, o + 3, none⟩ = some v3) (c4 : w.cell? ⟨b, o + 4, none⟩ = some v4) : Gives Try.prog n σ w ⟨dst, .load 65 x, ty, pos, af, g⟩ (.agg #[v0, v1, v2, v3, v4]) := fun a ha => by
  simp only [execOp, ha.eval hx]
  simp [go_sem, c0, c1, c2, c3, c4]
theorem cl_33 {x0 x1 : Operand} {v0 v1 : Value} (h0 : evS σ x0 = some v0) (h1 : evS σ x1 = some v1) (a : Act) (ha : Env n σ a) : (execOp a.eval ⟨dst, .call { callee := .value (.func 33), args := #[x0, x1], argTypes := at' }, ty, pos, af, g⟩).run Try.prog w = .ok (.enter 33 #[v0, v1]) w := by
  simp only [execOp, resolve, List.map_toArray, List.map_cons, List.map_nil, ha.eval h0, ha.eval h1]
  simp [go_sem, Act.eval]
end
end Go.Proofs.Ytmaiiigijjfjfaa
set_option linter.unusedVariables false
set_option linter.unusedSimpArgs false
namespace Go.Proofs.Ytmaiiigijjfjfaa
open Go Go.RowKit
section
variable {n : Nat} {σ : Sg} {w : World} {dst : Option Tmp} {ty : TypeId} {pos : String} {af : Array Edge} {g : Option (Nat × Bool)} {x y z : Operand} {at' : Array TypeId}
theorem bd_68_0_1_2_3 {x0 x1 x2 x3 : Operand} {z0 : Int} {z1 : Int} {z2 : Int} {z3 : Int} (h0 : evS σ x0 = some (.int .i64 z0)) (h1 : evS σ x1 = some (.int .i64 z1)) (h2 : evS σ x2 = some (.int .i64 z2)) (h3 : evS σ x3 = some (.int .i64 z3)) : Gives Try.prog n σ w ⟨dst, .build 68 #[(0, x0), (1, x1), (2, x2), (3, x3)], ty, pos, af, g⟩ (.agg #[.int .i64 z0, .int .i64 z1, .int .i64 z2, .int .i64 z3]) := fun a ha => by
  simp only [execOp, List.map_toArray, List.map_cons, List.map_nil, ha.eval h0, ha.eval h1, ha.eval h2, ha.eval h3]
  go_simp
theorem sz_22 : (Try.prog.info? 22).map (·.size) = some 1 := by kernel_rfl
end
end Go.Proofs.Ytmaiiigijjfjfaa
set_option linter.unusedVariables false
set_option linter.unusedSimpArgs false
namespace Go.Proofs.Ytmaiiigijjfjfaa
open Go Go.RowKit
def RdUp (w : World) (z : Nat) (v : Value) (n : Nat) (xs : List Value) : Prop := ∃ B, B ≤ w.heap.size ∧ Rd w B z v n xs
theorem RdUp.below {w w' : World} {z n : Nat} {v : Value} {xs : List Value} (h : RdUp w z v n xs) (hb : Below w.heap.size w w') : RdUp w' z v n xs := by
  obtain ⟨B, h1, h2⟩ := h
  exact ⟨B, Nat.le_trans h1 hb.size, h2.below (hb.mono h1)⟩
theorem monoS_up {k z n : Nat} {xs : List Value} : MonoS fun _ r w => ∃ v, r k = v ∧ RdUp w z v n xs := fun _ _ _ _ hb ⟨v, h1, h2⟩ => ⟨v, h1, h2.below hb⟩
theorem monoS_up2 {k z n : Nat} {xs : List Value} {x : Value} : MonoS fun _ r w => ∃ v, r k = .tuple #[v, x] ∧ RdUp w z v n xs := fun _ _ _ _ hb ⟨v, h1, h2⟩ => ⟨v, h1, h2.below hb⟩
set_option maxHeartbeats 8000000 in
set_option maxRecDepth 100000 in
theorem ends_law (c : Case) (vc vl : Value) (vs : List Value) (w : World) (B : Nat) (hr : RdCase w B vc vl c vs) (hB : B ≤ w.heap.size) (hn1 : c.clocks.length ≤ 9223372036854775807) (hn2 : c.clues.length ≤ 9223372036854775807) (hfit : Fits c) (xm xf b : List Int) (vm vf vb : Value) (hrm : Rd w B 1 vm xm.length (u16s xm)) (hrf : Rd w B 1 vf xf.length (u8s xf)) (hrb : Rd w B 1 vb b.length (u8s b)) (hnm : xm.length ≤ 9223372036854775807) (hnf : xf.length ≤ 9223372036854775807) (hnb : b.length ≤ 9223372036854775807) (hxm : ∀ y ∈ xm, 0 ≤ y ∧ y ≤ 65535) (hxf : ∀ y ∈ xf, 0 ≤ y ∧ y ≤ 255) (hbb : ∀ y ∈ b, 0 ≤ y ∧ y ≤ 255) (at_ : Int) (hat : 0 ≤ at_ ∧ at_ ≤ 255) :
    Calls Try.prog 6 #[.agg #[.int .i64 c.events, vc, vl, vm, vf], vb, .int .u8 at_] w fun e w' => e = .returned (.bool true) ∧ Below w.heap.size w w' := by
  obtain ⟨Ac, cc_, rfl, _⟩ := hr.clocks.shape
  obtain ⟨Al, cl_, rfl, _⟩ := hr.clues.rd.shape
  obtain ⟨Am, cm_, rfl, _⟩ := hrm.shape
  obtain ⟨Af, cf_, rfl, _⟩ := hrf.shape
  obtain ⟨Ab, cb_, rfl, _⟩ := hrb.shape
  have hbw := Below.refl w.heap.size w
  refine EC.enter 212 Try.func6 rfl rfl rfl ?_
  refine EC.seq ?_
  refine EC.region ?_
  refine EL.newP (bx_65 rfl) rfl ?_
  intro g1 w1 q1 hb1 hg1 hl1
  have bhbw_1 := Nat.le_trans hbw.size hg1
  replace hbw := Below.on hbw hb1 hbw.size
  clear hb1 hg1 hl1
  refine EL.val (x_assign rfl) rfl ?_
  refine EL.nil ?_
  refine EX.seq ?_
  refine EC.seq ?_
  refine EC.region ?_
  refine EL.val (ld_65 rfl (q1.at (j := 0) rfl) (q1.at (j := 1) rfl) (q1.at (j := 2) rfl) (q1.at (j := 3) rfl) (q1.at (j := 4) rfl)) rfl ?_
  refine EL.val (x_move rfl) rfl ?_
  refine EL.call (cl_33 rfl rfl) rfl (told_any c _ _ vs _ B (hr.below (hbw.mono hB)) (Nat.le_trans hB hbw.size) hn1 hn2 hfit xm xf b _ _ _ (hrm.below (hbw.mono hB)) (hrf.below (hbw.mono hB)) (hrb.below (hbw.mono hB)) hnm hnf hnb hxm hxf hbb) ?_
  rintro e wT ⟨(⟨A1F, A2F, n1F, n2F, k1F, k2F, rfl⟩ | ⟨va_, vb_, vM, vF, vK, ws, rfl, hcb, hsm, ho, h3, htr⟩), hcT⟩
  ·
    refine ⟨_, rfl, ?_⟩
    replace q1 := q1.below hcT q1.lt
    replace hbw := Below.on hbw hcT hbw.size
    clear hcT
    refine EL.val (x_move rfl) rfl ?_
    refine EL.val (x_extract rfl rfl) rfl ?_
    refine EL.val (x_extract rfl rfl) rfl ?_
    refine EL.val (x_extract rfl rfl) rfl ?_
    refine EL.val (x_extract rfl rfl) rfl ?_
    refine EL.val (x_extract rfl rfl) rfl ?_
    refine EL.newP al_25 rfl ?_
    intro g2 w2 q2 hb2 hg2 hl2
    have n1_2 : g1 ≠ g2 := Nat.ne_of_lt (Nat.lt_of_lt_of_le q1.lt hg2)
    have bhbw_2 := Nat.le_trans hbw.size hg2
    replace q1 := q1.below hb2 q1.lt
    replace hbw := Below.on hbw hb2 hbw.size
    clear hb2 hg2 hl2
    refine EL.store rfl rfl q2 sz_25 rfl rfl rfl rfl ?_
    intro w3 hq3 hg3
    replace q1 := q1.grown hg3 (fun h => n1_2 (Option.some.inj h))
    replace hbw := below_store hbw hg3 bhbw_2
    replace q2 := hq3
    clear hg3 hq3
    refine EL.val (x_assign rfl) rfl ?_
    refine EL.val (x_assign rfl) rfl ?_
    refine EL.val (x_assign rfl) rfl ?_
    refine EL.val (x_assign rfl) rfl ?_
    refine EL.nil ?_
    refine EX.seq ?_
    refine EC.seq ?_
    refine EC.seq ?_
    refine EC.region ?_
    refine EL.val (x_move rfl) rfl ?_
    refine EL.val (x_not rfl) rfl ?_
    refine EL.val (x_move rfl) rfl ?_
    refine EL.skip rfl rfl rfl rfl ?_
    refine EL.skip rfl rfl rfl rfl ?_
    refine EL.skip rfl rfl rfl rfl ?_
    refine EL.skip rfl rfl rfl rfl ?_
    refine EL.val (x_pick_t rfl rfl) rfl ?_
    refine EL.val (x_move rfl) rfl ?_
    refine EL.skip rfl rfl rfl rfl ?_
    refine EL.skip rfl rfl rfl rfl ?_
    refine EL.skip rfl rfl rfl rfl ?_
    refine EL.skip rfl rfl rfl rfl ?_
    refine EL.val (x_pick_t rfl rfl) rfl ?_
    refine EL.nil ?_
    refine EX.seq ?_
    refine EC.yes rfl ?_
    refine EC.seq ?_
    refine EC.region ?_
    refine EL.call cl_12 rfl (known_any _) ?_
    rintro e w4 ⟨rfl, hc4⟩
    refine ⟨_, rfl, ?_⟩
    replace q1 := q1.below hc4 q1.lt
    replace q2 := q2.below hc4 q2.lt
    replace hbw := Below.on hbw hc4 hbw.size
    clear hc4
    refine EL.val (x_assign rfl) rfl ?_
    refine EL.nil ?_
    refine EX.seq ?_
    refine EC.ret ?_
    refine EX.seq_ret ?_
    exact EX.done (res1 rfl rfl) ⟨rfl, hbw⟩
  ·
    refine ⟨_, rfl, ?_⟩
    replace q1 := q1.below hcT q1.lt
    replace hbw := Below.on hbw hcT hbw.size
    clear hcT
    obtain ⟨M, eM⟩ : ∃ z, z = (minsL xm c.events.toNat) := ⟨_, rfl⟩
    obtain ⟨FL, eF⟩ : ∃ z, z = (fastL c xf c.clocks.length) := ⟨_, rfl⟩
    rw [← eM] at ho h3 htr
    rw [← eF] at ho h3 htr
    have hcd : caseB (toldC c b M FL) = true := told_ok hcb htr
    have hcr : inCourse (toldC c b M FL) (crsBy c b c.clues.length) := told_course hcb
    have hst : startErr (toldC c b M FL) (crsBy c b c.clues.length) = 0 := told_start hcb htr
    have hfe := told_feas (b := b) hcb htr
    obtain ⟨hok, hfit⟩ := tr_fits hcd hcr hfe
    have hev := (caseB_ok hcb).1
    obtain ⟨Ne, eN⟩ : ∃ N : Nat, c.events = N := ⟨c.events.toNat, by omega⟩
    have eN2 : c.events.toNat = Ne := by omega
    have hNO : c.events.toNat < nOf (toldC c b M FL) := by show c.events.toNat < 1 + c.events.toNat + c.clocks.length; omega
    have hlD : (toldC c b M FL).clues.length = c.clues.length := toldL_len _ _ _ _ _
    have smD : Small (toldC c b M FL) := ⟨by rw [hlD]; exact hsm.clues, hsm.clocks, fun j hj => by show ((toldL c b M FL c.clues.length).getD j []).length ≤ 5; rw [toldL_row]; exact hsm.opts j (by rw [hlD] at hj; exact hj)⟩
    have hn1D : (toldC c b M FL).clocks.length ≤ 1073741824 := by have := smD.clocks; omega
    have hn2D : (toldC c b M FL).clues.length ≤ 1073741824 := by have := smD.clues; omega
    have hRD := ho.rd
    have hr3 := Rd.of_own h3.r3
    have hr1 := Rd.of_own h3.r1
    obtain ⟨AA, cA, rfl, _⟩ := hRD.clocks.shape
    obtain ⟨AL, cL, rfl, _⟩ := hRD.clues.rd.shape
    obtain ⟨AV, cV, eV, _⟩ := hr1.shape
    rw [htr.mlen, eN2] at eV
    subst eV
    have hLl := crsBy_len c b c.clues.length
    obtain ⟨AK, cK, eK0, _⟩ := hr3.shape
    rw [hLl] at eK0
    subst eK0
    have hr1N := hr1
    rw [htr.mlen, eN2] at hr1N
    have hcl25 := hsm.clues
    have hLn : (crsBy c b c.clues.length).length ≤ 1073741824 := by have := hsm.clues; omega
    clear ho h3
    have hbT := Below.refl wT.heap.size wT
    refine EL.val (x_move rfl) rfl ?_
    refine EL.val (x_extract rfl rfl) rfl ?_
    refine EL.val (x_extract rfl rfl) rfl ?_
    refine EL.val (x_extract rfl rfl) rfl ?_
    refine EL.val (x_extract rfl rfl) rfl ?_
    refine EL.val (x_extract rfl rfl) rfl ?_
    refine EL.newP al_25 rfl ?_
    intro g5 w5 q5 hb5 hg5 hl5
    have n1_5 : g1 ≠ g5 := Nat.ne_of_lt (Nat.lt_of_lt_of_le q1.lt hg5)
    have bhbw_5 := Nat.le_trans hbw.size hg5
    have bhbT_5 := Nat.le_trans hbT.size hg5
    replace q1 := q1.below hb5 q1.lt
    replace hbw := Below.on hbw hb5 hbw.size
    replace hbT := Below.on hbT hb5 hbT.size
    clear hb5 hg5 hl5
    refine EL.store rfl rfl q5 sz_25 rfl rfl rfl rfl ?_
    intro w6 hq6 hg6
    replace q1 := q1.grown hg6 (fun h => n1_5 (Option.some.inj h))
    replace hbw := below_store hbw hg6 bhbw_5
    replace hbT := below_store hbT hg6 bhbT_5
    replace q5 := hq6
    clear hg6 hq6
    refine EL.val (x_assign rfl) rfl ?_
    refine EL.val (x_assign rfl) rfl ?_
    refine EL.val (x_assign rfl) rfl ?_
    refine EL.val (x_assign rfl) rfl ?_
    refine EL.nil ?_
    refine EX.seq ?_
    refine EC.seq ?_
    refine EC.seq ?_
    refine EC.region ?_
    refine EL.val (x_move rfl) rfl ?_
    refine EL.val (x_not rfl) rfl ?_
    refine EL.val (x_move rfl) rfl ?_
    refine EL.valg rfl rfl (fa_25_2 rfl) rfl ?_
    refine EL.valg rfl rfl (ld_23 rfl (q5.at (j := 2) rfl)) rfl ?_
    refine EL.valg rfl rfl (ln_23 rfl) rfl ?_
    by_cases h20 : 20 ≤ c.clues.length
    ·
      refine EL.valg rfl rfl (x_geq (r := true) rfl rfl (decide_eq_true (by omega))) rfl ?_
      refine EL.val (x_pick_f rfl rfl) rfl ?_
      refine EL.val (x_move rfl) rfl ?_
      refine EL.skip rfl rfl rfl rfl ?_
      refine EL.skip rfl rfl rfl rfl ?_
      refine EL.skip rfl rfl rfl rfl ?_
      refine EL.skip rfl rfl rfl rfl ?_
      refine EL.val (x_pick_t rfl rfl) rfl ?_
      refine EL.nil ?_
      refine EX.seq ?_
      refine EC.yes rfl ?_
      refine EC.seq ?_
      refine EC.region ?_
      refine EL.call cl_12 rfl (known_any _) ?_
      rintro e w7 ⟨rfl, hc7⟩
      refine ⟨_, rfl, ?_⟩
      replace q1 := q1.below hc7 q1.lt
      replace q5 := q5.below hc7 q5.lt
      replace hbw := Below.on hbw hc7 hbw.size
      replace hbT := Below.on hbT hc7 hbT.size
      clear hc7
      refine EL.val (x_assign rfl) rfl ?_
      refine EL.nil ?_
      refine EX.seq ?_
      refine EC.ret ?_
      refine EX.seq_ret ?_
      exact EX.done (res1 rfl rfl) ⟨rfl, hbw⟩
    ·
      refine EL.valg rfl rfl (x_geq (r := false) rfl rfl (decide_eq_false (by omega))) rfl ?_
      refine EL.val (x_pick_f rfl rfl) rfl ?_
      refine EL.val (x_move rfl) rfl ?_
      refine EL.valg rfl rfl (fa_25_1 rfl) rfl ?_
      refine EL.valg rfl rfl (ld_22 rfl (q5.at (j := 1) rfl)) rfl ?_
      refine EL.valg rfl rfl (ln_22 rfl) rfl ?_
      by_cases h8 : 8 ≤ c.clocks.length
      ·
        refine EL.valg rfl rfl (x_geq (r := true) rfl rfl (decide_eq_true (show (8 : Int) ≤ ((c.clocks.length : Nat) : Int) by omega))) rfl ?_
        refine EL.val (x_pick_f rfl rfl) rfl ?_
        refine EL.nil ?_
        refine EX.seq ?_
        refine EC.yes rfl ?_
        refine EC.seq ?_
        refine EC.region ?_
        refine EL.call cl_12 rfl (known_any _) ?_
        rintro e w8 ⟨rfl, hc8⟩
        refine ⟨_, rfl, ?_⟩
        replace q1 := q1.below hc8 q1.lt
        replace q5 := q5.below hc8 q5.lt
        replace hbw := Below.on hbw hc8 hbw.size
        replace hbT := Below.on hbT hc8 hbT.size
        clear hc8
        refine EL.val (x_assign rfl) rfl ?_
        refine EL.nil ?_
        refine EX.seq ?_
        refine EC.ret ?_
        refine EX.seq_ret ?_
        exact EX.done (res1 rfl rfl) ⟨rfl, hbw⟩
      ·
        have h19 : c.clues.length < 20 := by omega
        have h7 : c.clocks.length < 8 := by omega
        refine EL.valg rfl rfl (x_geq (r := false) rfl rfl (decide_eq_false (show ¬(8 : Int) ≤ ((c.clocks.length : Nat) : Int) by omega))) rfl ?_
        refine EL.val (x_pick_f rfl rfl) rfl ?_
        refine EL.nil ?_
        refine EX.seq ?_
        refine EC.no rfl ?_
        refine EC.skip ?_
        refine EX.seq ?_
        refine EC.seq ?_
        refine EC.region ?_
        refine EL.val (ld_25 rfl (q5.at (j := 0) rfl) (q5.at (j := 1) rfl) (q5.at (j := 2) rfl)) rfl ?_
        refine EL.call (cl_14 rfl) rfl (copied_any (toldC c b M FL) _ _ ws _ _ (hRD.below hbT) hbT.size hn1D hn2D smD) ?_
        rintro e w10 ⟨⟨vaq9, vbq9, wsq9, rfl, hoq9⟩, hc10⟩
        refine ⟨_, rfl, ?_⟩
        replace q1 := q1.below hc10 q1.lt
        replace q5 := q5.below hc10 q5.lt
        replace hbw := Below.on hbw hc10 hbw.size
        replace hbT := Below.on hbT hc10 hbT.size
        clear hc10
        have hrq9 := hoq9.rd
        obtain ⟨Adq9, cdq9, rfl, _⟩ := hrq9.clocks.shape
        obtain ⟨Amq9, cmq9, rfl, _⟩ := hrq9.clues.rd.shape
        have hbq9 := Below.refl w10.heap.size w10
        refine EL.val (x_move rfl) rfl ?_
        refine EL.call (cl_15 rfl) rfl (ints_any (crsBy c b c.clues.length) _ _ wT.heap.size (hr3.below hbT) hbT.size (by omega)) ?_
        rintro e w12 ⟨⟨vlq11, rfl, holq11⟩, hc12⟩
        refine ⟨_, rfl, ?_⟩
        replace q1 := q1.below hc12 q1.lt
        replace q5 := q5.below hc12 q5.lt
        replace hbw := Below.on hbw hc12 hbw.size
        replace hbT := Below.on hbT hc12 hbT.size
        replace hbq9 := Below.on hbq9 hc12 hbq9.size
        clear hc12
        have hlq11 := Rd.of_own holq11
        obtain ⟨Aiq11, ciq11, rfl, _⟩ := hlq11.shape
        have hzq11 := hbq9.size
        have hbq11 := Below.refl w12.heap.size w12
        refine EL.call (cl_27 rfl rfl) rfl (times_to (times_ok hst hfit).1 ((times_ok hst hfit).2.trans (timesN_dist hcd hcr hok)) _ _ wsq9 _ _ ((hrq9.below hbq9).more hzq11) hbq11.size hn1D hn2D _ (hlq11.below hbq11) hLn) ?_
        rintro e w13 ⟨⟨vT, rfl, hrT⟩, hc13⟩
        refine ⟨_, rfl, ?_⟩
        replace q1 := q1.below hc13 q1.lt
        replace q5 := q5.below hc13 q5.lt
        replace hbw := Below.on hbw hc13 hbw.size
        replace hbT := Below.on hbT hc13 hbT.size
        replace hbq9 := Below.on hbq9 hc13 hbq9.size
        replace hbq11 := Below.on hbq11 hc13 hbq11.size
        clear hc13
        have hlT : (rTimes (toldC c b M FL) (crsBy c b c.clues.length) (toldC c b M FL).events.toNat).length = Ne := by rw [rTimes_len]; exact eN2
        obtain ⟨AT, cT, eT, _⟩ := hrT.shape
        rw [hlT] at eT hrT
        subst eT
        have hbX := Below.refl w13.heap.size w13
        refine EL.val (x_move rfl) rfl ?_
        refine EL.val (x_extract rfl rfl) rfl ?_
        refine EL.val (x_extract rfl rfl) rfl ?_
        refine EL.val (x_assign rfl) rfl ?_
        refine EL.val (x_assign rfl) rfl ?_
        refine EL.nil ?_
        refine EX.seq ?_
        refine EC.seq ?_
        refine EC.seq ?_
        refine EC.region ?_
        refine EL.val (x_move rfl) rfl ?_
        refine EL.val (x_neq (r := false) rfl rfl (by decide)) rfl ?_
        refine EL.val (x_move rfl) rfl ?_
        refine EL.valg rfl rfl (x_move rfl) rfl ?_
        refine EL.valg rfl rfl (ln_22 rfl) rfl ?_
        refine EL.valg rfl rfl (fa_25_0 rfl) rfl ?_
        refine EL.valg rfl rfl (ld_3 rfl (q5.at (j := 0) rfl)) rfl ?_
        refine EL.valg rfl rfl (x_neq (r := false) rfl rfl (decide_eq_false (by omega))) rfl ?_
        refine EL.val (x_pick_f rfl rfl) rfl ?_
        refine EL.nil ?_
        refine EX.seq ?_
        refine EC.no rfl ?_
        refine EC.skip ?_
        refine EX.seq ?_
        refine EC.seq ?_
        refine EC.region ?_
        refine EL.val (x_move rfl) rfl ?_
        obtain ⟨ev, eE⟩ : ∃ z, z = at_.toNat % Ne := ⟨_, rfl⟩
        have eE2 : at_.tmod c.events = ((ev : Nat) : Int) := by rw [eN, eE]; exact part_mod hat.1
        have hev2 : ev < Ne := by rw [eE]; exact Nat.mod_lt _ (by omega)
        refine EL.val (cv_5_3 rfl (IntWalk.i64_in _ ⟨by omega, by omega⟩)) rfl ?_
        refine EL.val (fa_25_0 rfl) rfl ?_
        refine EL.val (ld_3 rfl (q5.at (j := 0) rfl)) rfl ?_
        refine EL.val (x_rem rfl rfl (c := ((ev : Nat) : Int)) (by omega) eE2) rfl ?_
        refine EL.val (x_assign rfl) rfl ?_
        refine EL.nil ?_
        refine EX.seq ?_
        refine EC.seq ?_
        refine EC.seq ?_
        refine EC.region ?_
        refine EL.val (x_assign rfl) rfl ?_
        refine EL.nil ?_
        refine EX.seq ?_
        refine EC.block ?_
        have hevN : ev < c.events.toNat := by omega
        obtain ⟨be, oe, e_, _, te0, te1⟩ := bds_cells (rTimes (toldC c b M FL) (crsBy c b c.clues.length) (toldC c b M FL).events.toNat) ev (by rw [hlT]; omega) _ _ _ _ _ hrT
        subst e_
        rw [rT_get (c := toldC c b M FL) hevN] at te0 te1
        simp only at te0 te1
        obtain ⟨lo, elo⟩ : ∃ z, z = -dist (toldC c b M FL) (crsBy c b c.clues.length) (1 + ev) 0 := ⟨_, rfl⟩
        obtain ⟨hi, ehi⟩ : ∃ z, z = dist (toldC c b M FL) (crsBy c b c.clues.length) 0 (1 + ev) := ⟨_, rfl⟩
        rw [← elo] at te0
        rw [← ehi] at te1
        have Jf := tr_ev (c := toldC c b M FL) (l := crsBy c b c.clues.length) hcd hevN
        have Jq := tr_tri hcd hcr hok (i := 0) (j := 1 + ev) (k := 0) (by omega) (by omega) (by omega)
        have Jd : dist (toldC c b M FL) (crsBy c b c.clues.length) 0 0 = 0 := fw_diag (hub_of hcd hcr.neg) (by omega) (okM_iff.1 hok _ (by omega))
        have hlh : 0 ≤ lo ∧ lo ≤ hi ∧ hi ≤ 1000000 := by omega
        refine EC.loopD [6, 15, 16, 17, 18, 19, 20, 21, 68, 69, 70, 71, 72, 73, 74, 75, 76, 77, 78, 79, 80, 81, 82, 83, 84, 85, 86, 87, 88, 89, 90, 91, 92, 93, 94, 95, 96, 97, 98, 99, 100, 101, 102, 103, 104, 105, 106, 107, 108, 109, 110, 111, 112, 113, 114, 115, 116, 117, 118, 119, 120, 121, 122, 123, 124, 125, 126, 127, 128, 129, 130, 131, 132, 133, 134, 135, 136, 137, 138, 139, 140, 141, 142, 143, 144, 145, 146, 147, 148, 149, 150, 151, 152, 153, 154, 155, 156, 157, 158, 159, 160, 161, 162, 163, 164, 165, 166, 167, 168, 169, 170, 171, 172, 173, 174, 175, 176, 177, 178, 179, 180, 181, 182, 183, 184, 185, 186, 187, 188, 189, 190, 191, 192, 193, 194, 195, 196, 197, 198, 199, 200, 201, 202, 203, 204, 205, 206, 207, 208, 209, 210] (fun x : Nat => [(15, .int .i64 (x : Nat))]) (fun x W => x ≤ 4 ∧ Blk W g1 65 #[.int .i64 c.events, .slice Ac c.clocks.length cc_, .slice Al c.clues.length cl_, .slice Am xm.length cm_, .slice Af xf.length cf_] ∧ Blk W g5 25 #[.int .i64 c.events, .slice AA (toldC c b M FL).clocks.length cA, .slice AL (toldC c b M FL).clues.length cL] ∧ Below w.heap.size w W ∧ Below wT.heap.size wT W ∧ Below w13.heap.size w13 W) (fun x => 4 - x) 0 ⟨Nat.zero_le _, q1, q5, hbw, hbT, hbX⟩ ⟨rfl, trivial⟩ ?_
        clear q1 q5 hbw hbT hbX
        rintro x wx ⟨hx, q3x, q7x, hbw, hbT, hbX⟩
        by_cases hlt : x < 4
        ·
          obtain ⟨mn, emn⟩ : ∃ z, z = [lo, hi, lo - 1, hi + 1].getD x 0 := ⟨_, rfl⟩
          have hm4 : (x < 2 ∧ (mn = lo ∨ mn = hi)) ∨ (2 ≤ x ∧ (mn = lo - 1 ∨ mn = hi + 1)) := by
            rcases (show x = 0 ∨ x = 1 ∨ x = 2 ∨ x = 3 by omega) with rfl | rfl | rfl | rfl
            · exact .inl ⟨by omega, .inl emn⟩
            · exact .inl ⟨by omega, .inr emn⟩
            · exact .inr ⟨by omega, .inl emn⟩
            · exact .inr ⟨by omega, .inr emn⟩
          have hmb : -2000000 ≤ mn ∧ mn ≤ 2000000 := by omega
          have hcm : caseB (moreC (toldC c b M FL) ev mn) = true := more_ok hcd (by omega) h7 hevN hmb
          have hlL : (crsBy c b c.clues.length).length = (toldC c b M FL).clues.length := by rw [hlD, hLl]
          have hcrm : inCourse (moreC (toldC c b M FL) ev mn) ((crsBy c b c.clues.length) ++ [0]) := more_course hcr hlL
          have hstm : startErr (moreC (toldC c b M FL) ev mn) ((crsBy c b c.clues.length) ++ [0]) = 0 := more_start hcm hcr hlL
          have hin1 : (crsBy c b c.clues.length).length + 1 = ((crsBy c b c.clues.length) ++ [0]).length := by simp
          have hlX1 : ints ((crsBy c b c.clues.length) ++ [0]) = ints (crsBy c b c.clues.length) ++ [.int .i64 0] := ints_app _ _
          have hLnX : ((crsBy c b c.clues.length) ++ [0]).length ≤ 1073741824 := by rw [← hin1]; omega
          have hnM : (moreC (toldC c b M FL) ev mn).clues.length = (toldC c b M FL).clues.length + 1 := by show ((toldC c b M FL).clues ++ [_]).length = _; simp
          have hnM2 : (moreC (toldC c b M FL) ev mn).clocks.length = (toldC c b M FL).clocks.length + 1 := by show ((toldC c b M FL).clocks ++ [_]).length = _; simp
          have hcD7 : (toldC c b M FL).clocks.length < 8 := h7
          have smM : Small (moreC (toldC c b M FL) ev mn) := ⟨by rw [hnM, hlD]; omega, by rw [hnM2]; omega, fun j hj => by
            show (((toldC c b M FL).clues ++ [[moreO (toldC c b M FL) ev mn]]).getD j []).length ≤ 5
            rw [getD_end]
            by_cases e1 : j < (toldC c b M FL).clues.length
            · rw [if_pos e1]; exact smD.opts j e1
            · rw [if_neg e1]; split <;> simp⟩
          have hn1M : (moreC (toldC c b M FL) ev mn).clocks.length ≤ 1073741824 := by rw [hnM2]; omega
          have hn2M : (moreC (toldC c b M FL) ev mn).clues.length ≤ 1073741824 := by rw [hnM, hlD]; omega
          by_cases hk2 : x < 2
          ·
            have hokm : okC (moreC (toldC c b M FL) ev mn) ((crsBy c b c.clues.length) ++ [0]) = true := more_okC hcm hcd hcr hlL hevN (by rcases hm4.resolve_right (fun h => by omega) with ⟨_, e | e⟩ <;> rw [e]; (exact elo ▸ end_low hcd hcr hok hevN); (exact ehi ▸ end_high hcd hcr hok))
            have hfm : fitsS (moreC (toldC c b M FL) ev mn) ((crsBy c b c.clues.length) ++ [0]) = true := (fits_okC hcm hcrm.neg).trans hokm
            refine EC.seq ?_
            refine EC.seq ?_
            refine EC.region ?_
            refine EL.val (x_move rfl) rfl ?_
            refine EL.val (x_lss (r := true) rfl rfl (decide_eq_true (by omega))) rfl ?_
            refine EL.nil ?_
            refine EX.seq ?_
            refine EC.yes rfl ?_
            refine EC.skip ?_
            refine EX.seq ?_
            refine EC.seq ?_
            refine EC.block ?_
            refine EC.seq ?_
            refine EC.regionQ (by kernel_rfl) (by kernel_rfl) ?_
            refine EQ.val (fun _ hw => (x_move rfl)) rfl ?_
            refine EQ.val (fun _ hw => (x_move rfl)) rfl ?_
            refine EQ.val (fun _ hw => (ix_22 rfl rfl hev2)) rfl ?_
            refine EQ.val (fun _ hw => (fa_54_0 rfl)) rfl ?_
            refine EQ.val (fun _ hw => (ld_3 rfl (below_load hw (below_load hbX te0)))) rfl ?_
            refine EQ.val (fun _ hw => (x_move rfl)) rfl ?_
            refine EQ.val (fun _ hw => (x_move rfl)) rfl ?_
            refine EQ.val (fun _ hw => (ix_22 rfl rfl hev2)) rfl ?_
            refine EQ.val (fun _ hw => (fa_54_1 rfl)) rfl ?_
            refine EQ.val (fun _ hw => (ld_3 rfl (below_load hw (below_load hbX te1)))) rfl ?_
            refine EQ.val (fun _ hw => (x_move rfl)) rfl ?_
            refine EQ.val (fun _ hw => (x_move rfl)) rfl ?_
            refine EQ.val (fun _ hw => (ix_22 rfl rfl hev2)) rfl ?_
            refine EQ.val (fun _ hw => (fa_54_0 rfl)) rfl ?_
            refine EQ.val (fun _ hw => (ld_3 rfl (below_load hw (below_load hbX te0)))) rfl ?_
            refine EQ.val (fun _ hw => (x_sub rfl rfl (c := lo - 1) (IntWalk.i64_in _ ⟨by omega, by omega⟩))) rfl ?_
            refine EQ.val (fun _ hw => (x_move rfl)) rfl ?_
            refine EQ.val (fun _ hw => (x_move rfl)) rfl ?_
            refine EQ.val (fun _ hw => (ix_22 rfl rfl hev2)) rfl ?_
            refine EQ.val (fun _ hw => (fa_54_1 rfl)) rfl ?_
            refine EQ.val (fun _ hw => (ld_3 rfl (below_load hw (below_load hbX te1)))) rfl ?_
            refine EQ.val (fun _ hw => (x_add rfl rfl (c := hi + 1) (IntWalk.i64_in _ ⟨by omega, by omega⟩))) rfl ?_
            refine EQ.val (fun _ hw => (bd_68_0_1_2_3 rfl rfl rfl rfl)) rfl ?_
            refine EQ.val (fun _ hw => (x_move rfl)) rfl ?_
            refine EQ.val (fun _ hw => (index4 rfl rfl hlt emn.symm)) rfl ?_
            refine EQ.val (fun _ hw => (x_assign rfl)) rfl ?_
            refine EQ.fin (fun w14 hw_ => ?_)
            replace q3x := q3x.below hw_ q3x.lt
            replace q7x := q7x.below hw_ q7x.lt
            replace hbw := Below.on hbw hw_ hbw.size
            replace hbT := Below.on hbT hw_ hbT.size
            replace hbX := Below.on hbX hw_ hbX.size
            clear hw_
            refine EX.seq ?_
            refine EC.seq ?_
            refine EC.region ?_
            refine EL.val (ld_25 rfl (q7x.at (j := 0) rfl) (q7x.at (j := 1) rfl) (q7x.at (j := 2) rfl)) rfl ?_
            have hbB := Below.refl w14.heap.size w14
            have hsw_ := hbw.size
            have hsT_ := hbT.size
            have hsX_ := hbX.size
            refine EL.call (cl_14 rfl) rfl (copied_any (toldC c b M FL) _ _ ws _ _ (hRD.below hbT) hbT.size hn1D hn2D smD) ?_
            rintro e w15 ⟨⟨vam, vbm, wsm, rfl, hom⟩, hc15⟩
            refine ⟨_, rfl, ?_⟩
            replace q3x := q3x.below hc15 q3x.lt
            replace q7x := q7x.below hc15 q7x.lt
            replace hbw := Below.on hbw hc15 hbw.size
            replace hbT := Below.on hbT hc15 hbT.size
            replace hbX := Below.on hbX hc15 hbX.size
            replace hbB := Below.on hbB hc15 hbB.size
            clear hc15
            obtain ⟨AD, cD, rfl, _⟩ := (Rd.of_own hom.clocks).shape
            obtain ⟨AE, cE, rfl, _⟩ := (Rd.of_own hom.clues.own).shape
            refine EL.newP al_25 rfl ?_
            intro g16 w16 q16 hb16 hg16 hl16
            have n1_16 : g1 ≠ g16 := Nat.ne_of_lt (Nat.lt_of_lt_of_le q3x.lt hg16)
            have n5_16 : g5 ≠ g16 := Nat.ne_of_lt (Nat.lt_of_lt_of_le q7x.lt hg16)
            have bhbw_16 := Nat.le_trans hbw.size hg16
            have bhbT_16 := Nat.le_trans hbT.size hg16
            have bhbX_16 := Nat.le_trans hbX.size hg16
            have bhbB_16 := Nat.le_trans hbB.size hg16
            replace q3x := q3x.below hb16 q3x.lt
            replace q7x := q7x.below hb16 q7x.lt
            replace hom := hom.below hb16
            replace hbw := Below.on hbw hb16 hbw.size
            replace hbT := Below.on hbT hb16 hbT.size
            replace hbX := Below.on hbX hb16 hbX.size
            replace hbB := Below.on hbB hb16 hbB.size
            clear hb16 hg16 hl16
            refine EL.store rfl rfl q16 sz_25 rfl rfl rfl rfl ?_
            intro w17 hq17 hg17
            replace q3x := q3x.grown hg17 (fun h => n1_16 (Option.some.inj h))
            replace q7x := q7x.grown hg17 (fun h => n5_16 (Option.some.inj h))
            replace hom := hom.type q16 rfl rfl rfl hg17
            replace hbw := below_store hbw hg17 bhbw_16
            replace hbT := below_store hbT hg17 bhbT_16
            replace hbX := below_store hbX hg17 bhbX_16
            replace hbB := below_store hbB hg17 bhbB_16
            replace q16 := hq17
            clear hg17 hq17
            refine EL.nil ?_
            refine EX.seq ?_
            refine EC.seq ?_
            refine EC.region ?_
            refine EL.val (fa_25_1 rfl) rfl ?_
            refine EL.val (ld_22 rfl (q16.at (j := 1) rfl)) rfl ?_
            refine EL.val (bd_54_) rfl ?_
            refine EL.newS (bs_22_1 rfl) rfl ?_
            intro g18 w18 q18 hb18 hg18 hl18
            have n1_18 : g1 ≠ g18 := Nat.ne_of_lt (Nat.lt_of_lt_of_le q3x.lt hg18)
            have n5_18 : g5 ≠ g18 := Nat.ne_of_lt (Nat.lt_of_lt_of_le q7x.lt hg18)
            have n16_18 : g16 ≠ g18 := Nat.ne_of_lt (Nat.lt_of_lt_of_le q16.lt hg18)
            have bhbw_18 := Nat.le_trans hbw.size hg18
            have bhbT_18 := Nat.le_trans hbT.size hg18
            have bhbX_18 := Nat.le_trans hbX.size hg18
            have bhbB_18 := Nat.le_trans hbB.size hg18
            replace q3x := q3x.below hb18 q3x.lt
            replace q7x := q7x.below hb18 q7x.lt
            replace q16 := q16.below hb18 q16.lt
            replace hom := hom.below hb18
            replace hbw := Below.on hbw hb18 hbw.size
            replace hbT := Below.on hbT hb18 hbT.size
            replace hbX := Below.on hbX hb18 hbX.size
            replace hbB := Below.on hbB hb18 hbB.size
            clear hb18 hg18 hl18
            have hck_ := hom.clocks
            refine EL.push bd_elem rfl rfl hck_ (rd_one (l := [.int .i64 0, .int .i64 0]) q18 rfl) (fun u hu => by simp only [List.mem_cons, List.not_mem_nil, or_false] at hu; rcases hu with rfl | rfl <;> rfl) (by have := smD.clocks; omega) rfl hbB.size rfl ?_
            intro v19 w19 hcl2 hgr hb_ _
            replace q3x := blk_grown q3x hck_ rfl hgr
            replace q7x := blk_grown q7x hck_ rfl hgr
            replace q16 := blk_grown q16 hck_ rfl hgr
            have hcu := hom.clues.grown hck_ rfl rfl hgr
            replace hbw := hbw.trans (hb_.mono hsw_)
            replace hbT := hbT.trans (hb_.mono hsT_)
            replace hbX := hbX.trans (hb_.mono hsX_)
            replace hbB := hbB.trans (hb_.mono (Nat.le_refl _))
            clear hom hck_ hgr hb_
            obtain ⟨AD2, cD2, eD2, _⟩ := (Rd.of_own hcl2).shape
            subst eD2
            refine EL.val (fa_25_1 rfl) rfl ?_
            refine EL.store rfl rfl q16 sz_22 rfl rfl rfl rfl ?_
            intro w20 hq20 hg20
            replace q3x := q3x.grown hg20 (fun h => n1_16 (Option.some.inj h))
            replace q7x := q7x.grown hg20 (fun h => n5_16 (Option.some.inj h))
            replace hcl2 := own_type hcl2 q16 rfl hg20
            replace hcu := hcu.type q16 rfl rfl hg20
            replace hbw := below_store hbw hg20 bhbw_16
            replace hbT := below_store hbT hg20 bhbT_16
            replace hbX := below_store hbX hg20 bhbX_16
            replace hbB := below_store hbB hg20 bhbB_16
            replace q16 := hq20
            clear hg20 hq20
            refine EL.nil ?_
            refine EX.seq ?_
            refine EC.seq ?_
            refine EC.region ?_
            have hcu0 := hcu
            have hb14 := Below.refl w20.heap.size w20
            refine EL.val (fa_25_2 rfl) rfl ?_
            refine EL.val (ld_23 rfl (q16.at (j := 2) rfl)) rfl ?_
            refine EL.val (x_move rfl) rfl ?_
            refine EL.val (fa_25_1 rfl) rfl ?_
            refine EL.val (ld_22 rfl (q7x.at (j := 1) rfl)) rfl ?_
            refine EL.val (ln_22 rfl) rfl ?_
            refine EL.val (x_move rfl) rfl ?_
            refine EL.val (x_move rfl) rfl ?_
            refine EL.val (bd_54_0_1 rfl rfl) rfl ?_
            refine EL.val (bd_71_0_1_2_4 rfl rfl rfl rfl) rfl ?_
            refine EL.newS (bs_72_1 rfl) rfl ?_
            intro g21 w21 q21 hb21 hg21 hl21
            have n1_21 : g1 ≠ g21 := Nat.ne_of_lt (Nat.lt_of_lt_of_le q3x.lt hg21)
            have n5_21 : g5 ≠ g21 := Nat.ne_of_lt (Nat.lt_of_lt_of_le q7x.lt hg21)
            have n16_21 : g16 ≠ g21 := Nat.ne_of_lt (Nat.lt_of_lt_of_le q16.lt hg21)
            have bhbw_21 := Nat.le_trans hbw.size hg21
            have bhbT_21 := Nat.le_trans hbT.size hg21
            have bhbX_21 := Nat.le_trans hbX.size hg21
            have bhbB_21 := Nat.le_trans hbB.size hg21
            have bhb14_21 := Nat.le_trans hb14.size hg21
            replace q3x := q3x.below hb21 q3x.lt
            replace q7x := q7x.below hb21 q7x.lt
            replace q16 := q16.below hb21 q16.lt
            replace hcl2 := own_below hcl2 hb21 (Nat.le_refl _)
            replace hcu := hcu.below hb21
            replace hbw := Below.on hbw hb21 hbw.size
            replace hbT := Below.on hbT hb21 hbT.size
            replace hbX := Below.on hbX hb21 hbX.size
            replace hbB := Below.on hbB hb21 hbB.size
            replace hb14 := Below.on hb14 hb21 hb14.size
            clear hb21 hg21 hl21
            refine EL.val (bd_74_0 rfl) rfl ?_
            refine EL.newS (bs_23_1 rfl) rfl ?_
            intro g22 w22 q22 hb22 hg22 hl22
            have n1_22 : g1 ≠ g22 := Nat.ne_of_lt (Nat.lt_of_lt_of_le q3x.lt hg22)
            have n5_22 : g5 ≠ g22 := Nat.ne_of_lt (Nat.lt_of_lt_of_le q7x.lt hg22)
            have n16_22 : g16 ≠ g22 := Nat.ne_of_lt (Nat.lt_of_lt_of_le q16.lt hg22)
            have n21_22 : g21 ≠ g22 := Nat.ne_of_lt (Nat.lt_of_lt_of_le q21.lt hg22)
            have bhbw_22 := Nat.le_trans hbw.size hg22
            have bhbT_22 := Nat.le_trans hbT.size hg22
            have bhbX_22 := Nat.le_trans hbX.size hg22
            have bhbB_22 := Nat.le_trans hbB.size hg22
            have bhb14_22 := Nat.le_trans hb14.size hg22
            replace q3x := q3x.below hb22 q3x.lt
            replace q7x := q7x.below hb22 q7x.lt
            replace q16 := q16.below hb22 q16.lt
            replace q21 := q21.below hb22 q21.lt
            replace hcl2 := own_below hcl2 hb22 (Nat.le_refl _)
            replace hcu := hcu.below hb22
            replace hbw := Below.on hbw hb22 hbw.size
            replace hbT := Below.on hbT hb22 hbT.size
            replace hbX := Below.on hbX hb22 hbX.size
            replace hbB := Below.on hbB hb22 hbB.size
            replace hb14 := Below.on hb14 hb22 hb14.size
            clear hb22 hg22 hl22
            have hnew := own_built (base := w14.heap.size) (k := 1) (size := 6) (l := optsC [moreO (toldC c b M FL) ev mn]) q21 rfl (by omega) bhbB_21
            have hap3 : ∀ g, (Value.slice (some ⟨g21, 0, none⟩) 1 1).ownBlock = some g → w20.heap.size ≤ g := fun g h => by injection h with h; rw [← h]; exact bhb14_21
            have hcw_ := hcu.own
            refine EL.push clue_elem rfl rfl hcw_ (rd_one (l := [.slice (some ⟨g21, 0, none⟩) 1 1]) q22 rfl) (by intro u hu; rw [List.mem_singleton.1 hu]; rfl) (by have := smD.clues; omega) rfl hbB.size rfl ?_
            intro v23 w23 ho3 hgr hb_ _
            have hcu2 := hcu.push (o := [moreO (toldC c b M FL) ev mn]) hnew hgr ho3 hcu0 hap3 (Nat.le_refl _)
            replace q3x := blk_grown q3x hcw_ rfl hgr
            replace q7x := blk_grown q7x hcw_ rfl hgr
            replace q16 := blk_grown q16 hcw_ rfl hgr
            clear hb14
            replace hcl2 := own_grown hcl2 hcw_ rfl hgr
            replace hbw := hbw.trans (hb_.mono hsw_)
            replace hbT := hbT.trans (hb_.mono hsT_)
            replace hbX := hbX.trans (hb_.mono hsX_)
            replace hbB := hbB.trans (hb_.mono (Nat.le_refl _))
            obtain ⟨AE2, cE2, eE3, _⟩ := (Rd.of_own hcu2.own).shape
            subst eE3
            have hom : OwnCase w23 w14.heap.size (.slice AD2 ((toldC c b M FL).clocks.length + 1) cD2) (.slice AE2 ((toldC c b M FL).clues ++ [[moreO (toldC c b M FL) ev mn]]).length cE2) (moreC (toldC c b M FL) ev mn) _ := ⟨by show World.ownsRow _ _ _ _ _ ((toldC c b M FL).clocks ++ [bd0]).length (bdsC ((toldC c b M FL).clocks ++ [bd0])); rw [List.length_append, List.length_singleton, bdsC_app]; exact hcl2, hcu2⟩
            clear hcu hcu0 hcl2 hcu2 hcw_ hgr hb_ ho3 hnew hap3
            refine EL.val (fa_25_2 rfl) rfl ?_
            refine EL.store rfl rfl q16 sz_23 rfl rfl rfl rfl ?_
            intro w24 hq24 hg24
            replace q3x := q3x.grown hg24 (fun h => n1_16 (Option.some.inj h))
            replace q7x := q7x.grown hg24 (fun h => n5_16 (Option.some.inj h))
            replace hom := hom.type q16 rfl rfl rfl hg24
            replace hbw := below_store hbw hg24 bhbw_16
            replace hbT := below_store hbT hg24 bhbT_16
            replace hbX := below_store hbX hg24 bhbX_16
            replace hbB := below_store hbB hg24 bhbB_16
            replace q16 := hq24
            clear hg24 hq24
            refine EL.nil ?_
            refine EX.seq ?_
            refine EC.seq ?_
            refine EC.region ?_
            refine EL.val (ld_25 rfl (q16.at (j := 0) rfl) (q16.at (j := 1) rfl) (q16.at (j := 2) rfl)) rfl ?_
            refine EL.call (cl_14 rfl) rfl (copied_any (moreC (toldC c b M FL) ev mn) _ _ _ _ _ hom.rd (Nat.le_refl _) hn1M hn2M smM) ?_
            rintro e w26 ⟨⟨vak, vbk, wsk, rfl, hok2⟩, hc26⟩
            refine ⟨_, rfl, ?_⟩
            replace q3x := q3x.below hc26 q3x.lt
            replace q7x := q7x.below hc26 q7x.lt
            replace q16 := q16.below hc26 q16.lt
            replace hom := hom.below hc26
            replace hbw := Below.on hbw hc26 hbw.size
            replace hbT := Below.on hbT hc26 hbT.size
            replace hbX := Below.on hbX hc26 hbX.size
            replace hbB := Below.on hbB hc26 hbB.size
            clear hc26
            have hrk := hok2.rd
            have hbk := Below.refl w26.heap.size w26
            have zhbw_ := hbw.size
            have zhbT_ := hbT.size
            have zhbX_ := hbX.size
            have zhbB_ := hbB.size
            have zhbk_ := hbk.size
            refine EL.val (x_move rfl) rfl ?_
            refine EL.call (cl_15 rfl) rfl (ints_any (crsBy c b c.clues.length) _ _ wT.heap.size (hr3.below hbT) hbT.size (by omega)) ?_
            rintro e w27 ⟨⟨vlk, rfl, holk⟩, hc27⟩
            refine ⟨_, rfl, ?_⟩
            replace q3x := q3x.below hc27 q3x.lt
            replace q7x := q7x.below hc27 q7x.lt
            replace q16 := q16.below hc27 q16.lt
            replace hom := hom.below hc27
            replace hbw := Below.on hbw hc27 hbw.size
            replace hbT := Below.on hbT hc27 hbT.size
            replace hbX := Below.on hbX hc27 hbX.size
            replace hbB := Below.on hbB hc27 hbB.size
            replace hbk := Below.on hbk hc27 hbk.size
            clear hc27
            obtain ⟨Aik, cik, rfl, _⟩ := (Rd.of_own holk).shape
            refine EL.newS (bs_26_1 rfl) rfl ?_
            intro g28 w28 q28 hb28 hg28 hl28
            have n1_28 : g1 ≠ g28 := Nat.ne_of_lt (Nat.lt_of_lt_of_le q3x.lt hg28)
            have n5_28 : g5 ≠ g28 := Nat.ne_of_lt (Nat.lt_of_lt_of_le q7x.lt hg28)
            have n16_28 : g16 ≠ g28 := Nat.ne_of_lt (Nat.lt_of_lt_of_le q16.lt hg28)
            have bhbw_28 := Nat.le_trans hbw.size hg28
            have bhbT_28 := Nat.le_trans hbT.size hg28
            have bhbX_28 := Nat.le_trans hbX.size hg28
            have bhbB_28 := Nat.le_trans hbB.size hg28
            have bhbk_28 := Nat.le_trans hbk.size hg28
            replace q3x := q3x.below hb28 q3x.lt
            replace q7x := q7x.below hb28 q7x.lt
            replace q16 := q16.below hb28 q16.lt
            replace hom := hom.below hb28
            replace holk := own_below holk hb28 (Nat.le_refl _)
            replace hbw := Below.on hbw hb28 hbw.size
            replace hbT := Below.on hbT hb28 hbT.size
            replace hbX := Below.on hbX hb28 hbX.size
            replace hbB := Below.on hbB hb28 hbB.size
            replace hbk := Below.on hbk hb28 hbk.size
            clear hb28 hg28 hl28
            refine EL.push i64_elem rfl rfl holk (rd_one (l := [.int .i64 0]) q28 rfl) (by intro u hu; rw [List.mem_singleton.1 hu]; rfl) (by omega) rfl hbk.size rfl ?_
            intro v29 w29 hox hgr hb_ _
            replace q3x := blk_grown q3x holk rfl hgr
            replace q7x := blk_grown q7x holk rfl hgr
            replace q16 := blk_grown q16 holk rfl hgr
            replace hom := hom.grown holk rfl rfl rfl hgr
            replace hbw := hbw.trans (hb_.mono zhbw_)
            replace hbT := hbT.trans (hb_.mono zhbT_)
            replace hbX := hbX.trans (hb_.mono zhbX_)
            replace hbB := hbB.trans (hb_.mono zhbB_)
            replace hbk := hbk.trans (hb_.mono zhbk_)
            have hlX : Rd w29 w29.heap.size 1 v29 ((crsBy c b c.clues.length) ++ [0]).length (ints ((crsBy c b c.clues.length) ++ [0])) := by rw [hlX1, ← hin1]; exact Rd.of_own hox
            clear hox holk hgr hb_
            refine EL.call (cl_26 rfl rfl) rfl (possible_to (poss_ok hstm hfm) hstm _ _ wsk _ _ ((hrk.below hbk).more hbk.size) (Nat.le_refl _) hn1M hn2M _ hlX hLnX) ?_
            rintro e w30 ⟨rfl, hc30⟩
            refine ⟨_, rfl, ?_⟩
            replace q3x := q3x.below hc30 q3x.lt
            replace q7x := q7x.below hc30 q7x.lt
            replace q16 := q16.below hc30 q16.lt
            replace hom := hom.below hc30
            replace hbw := Below.on hbw hc30 hbw.size
            replace hbT := Below.on hbT hc30 hbT.size
            replace hbX := Below.on hbX hc30 hbX.size
            replace hbB := Below.on hbB hc30 hbB.size
            replace hbk := Below.on hbk hc30 hbk.size
            clear hc30
            refine EL.val (x_move rfl) rfl ?_
            refine EL.val (x_extract rfl rfl) rfl ?_
            refine EL.val (x_extract rfl rfl) rfl ?_
            refine EL.val (x_assign rfl) rfl ?_
            refine EL.val (x_assign rfl) rfl ?_
            refine EL.nil ?_
            refine EX.seq ?_
            refine EC.seq ?_
            refine EC.seq ?_
            refine EC.region ?_
            refine EL.val (x_move rfl) rfl ?_
            refine EL.val (x_neq (r := false) rfl rfl (by decide)) rfl ?_
            refine EL.val (x_move rfl) rfl ?_
            refine EL.valg rfl rfl (x_move rfl) rfl ?_
            refine EL.valg rfl rfl (x_move rfl) rfl ?_
            refine EL.valg rfl rfl (x_lss (r := true) rfl rfl (decide_eq_true (by omega))) rfl ?_
            refine EL.valg rfl rfl (neq_bool rfl rfl rfl) rfl ?_
            refine EL.val (x_pick_f rfl rfl) rfl ?_
            refine EL.nil ?_
            refine EX.seq ?_
            refine EC.no rfl ?_
            refine EC.skip ?_
            refine EX.seq ?_
            refine EC.seq ?_
            refine EC.seq ?_
            refine EC.region ?_
            refine EL.val (x_move rfl) rfl ?_
            refine EL.val (x_gtr (r := false) rfl rfl (decide_eq_false (by omega))) rfl ?_
            refine EL.nil ?_
            refine EX.seq ?_
            refine EC.no rfl ?_
            refine EC.skip ?_
            refine EX.seq ?_
            refine EC.seq ?_
            have lt_1 := q3x.lt
            have lt_5 := q7x.lt
            have lt_16 := q16.lt
            refine EC.regionS [[], [], [1], [], [1, 2, 3], [0, 1, 2, 3, 4], [0, 1, 2, 3, 4, 5], [0, 1, 2, 3, 4, 5, 6], [0, 1, 2, 3, 4, 5, 6], [0, 1, 2, 3, 4, 5, 6, 7], [0, 1, 2, 3, 4, 5, 6, 7, 8, 9]] 10 [] [4] (fun _ w_ => Below w30.heap.size w30 w_) (phiS (fun i_ r => match i_ with | 0 => r 0 = .agg #[.int .i64 c.events, .slice AD2 ((toldC c b M FL).clocks.length + 1) cD2, .slice AE2 ((toldC c b M FL).clues ++ [[moreO (toldC c b M FL) ev mn]]).length cE2] | 1 => r 1 = .slice AK c.clues.length cK | 8 => r 8 = .int .i64 0 | _ => True) [(2, fun fl r w_ => fl 4 = false → (∃ A_ c_, r 2 = .slice A_ (crsBy c b c.clues.length).length c_ ∧ w_.ownsRow w30.heap.size 3 1 (.slice A_ (crsBy c b c.clues.length).length c_) (crsBy c b c.clues.length).length (ints (crsBy c b c.clues.length)))), (3, fun fl r w_ => fl 4 = false → (∃ g_, r 3 = .slice (some ⟨g_, 0, none⟩) 1 1 ∧ Blk w_ g_ 3 #[.int .i64 0] ∧ w30.heap.size ≤ g_)), (4, fun _ r w_ => ∃ A_ c_, r 4 = .slice A_ ((crsBy c b c.clues.length).length + 1) c_ ∧ w_.ownsRow w30.heap.size 3 1 (.slice A_ ((crsBy c b c.clues.length).length + 1) c_) ((crsBy c b c.clues.length).length + 1) (ints (crsBy c b c.clues.length) ++ [.int .i64 0])), (5, fun _ r w_ => ∃ v, r 5 = .tuple #[v, .int .i64 0] ∧ RdUp w_ 2 v (rTimes (moreC (toldC c b M FL) ev mn) ((crsBy c b c.clues.length) ++ [0]) (moreC (toldC c b M FL) ev mn).events.toNat).length (bdsC (rTimes (moreC (toldC c b M FL) ev mn) ((crsBy c b c.clues.length) ++ [0]) (moreC (toldC c b M FL) ev mn).events.toNat))), (6, fun _ r w_ => ∃ v, r 6 = .tuple #[v, .int .i64 0] ∧ RdUp w_ 2 v (rTimes (moreC (toldC c b M FL) ev mn) ((crsBy c b c.clues.length) ++ [0]) (moreC (toldC c b M FL) ev mn).events.toNat).length (bdsC (rTimes (moreC (toldC c b M FL) ev mn) ((crsBy c b c.clues.length) ++ [0]) (moreC (toldC c b M FL) ev mn).events.toNat))), (7, fun _ r w_ => ∃ v, r 7 = v ∧ RdUp w_ 2 v (rTimes (moreC (toldC c b M FL) ev mn) ((crsBy c b c.clues.length) ++ [0]) (moreC (toldC c b M FL) ev mn).events.toNat).length (bdsC (rTimes (moreC (toldC c b M FL) ev mn) ((crsBy c b c.clues.length) ++ [0]) (moreC (toldC c b M FL) ev mn).events.toNat))), (9, fun _ r w_ => ∃ v, r 9 = v ∧ RdUp w_ 2 v (rTimes (moreC (toldC c b M FL) ev mn) ((crsBy c b c.clues.length) ++ [0]) (moreC (toldC c b M FL) ev mn).events.toNat).length (bdsC (rTimes (moreC (toldC c b M FL) ev mn) ((crsBy c b c.clues.length) ++ [0]) (moreC (toldC c b M FL) ev mn).events.toNat)))]) (by kernel_rfl) rfl rfl (by intro i hi; simp at hi; subst hi; exact ⟨by simp, by omega⟩) (base_below w30) (phiS_cons (monoS_till mono_cp) (phiS_cons (monoS_till mono_bs) (phiS_cons monoS_cp (phiS_cons monoS_up2 (phiS_cons monoS_up2 (phiS_cons monoS_up (phiS_cons monoS_up (phiS_nil)))))))) (fun i_ hi_ hs_ => ?_) (fun i_ hi_ => ?_) ?_
            · match i_, hi_ with
              | 0, _ =>
                intro val fl w1 a hb ha hd hfl
                have ha := ha.sub (Sub.ins (d := 17) (Sub.nil _) rfl)
                exact ss_val ha rfl rfl (ld_25 rfl ((q16.below hb q16.lt).at (j := 0) rfl) ((q16.below hb q16.lt).at (j := 1) rfl) ((q16.below hb q16.lt).at (j := 2) rfl)) rfl rfl
              | 1, _ =>
                intro val fl w1 a hb ha hd hfl
                have ha := ha.sub (Sub.ins (d := 10) (Sub.nil _) rfl)
                exact ss_val ha rfl rfl (x_move rfl) rfl rfl
              | 2, _ =>
                intro val fl w1 a hb ha hd hfl
                have e1 : val 1 = .slice AK c.clues.length cK := hd 1 (memB_mem.1 rfl)
                have ha := ha.sub (Sub.ins (d := 142) (Sub.nil _) (dep_get rfl e1))
                refine ss_call ha rfl rfl (cl_15 rfl) (ints_any (crsBy c b c.clues.length) _ w1 wT.heap.size (hr3.below (Below.on hbT hb hbT.size)) (Nat.le_trans hbT.size hb.size) (by omega)) rfl ?_
                rintro e w' ⟨⟨v', rfl, ho⟩, hb'⟩
                obtain ⟨A, c9, rfl, _⟩ := (Rd.of_own ho).shape
                exact ⟨_, rfl, hb', fun _ => ⟨A, c9, rfl, own_less ho hb.size⟩⟩
              | 3, _ =>
                intro val fl w1 a hb ha hd hfl
                have ha := ha.sub (Sub.nil _)
                exact ss_newS ha rfl rfl (bs_26_1 rfl) rfl (fun g w' hq _ hge => fun _ => ⟨g, rfl, hq, Nat.le_trans hb.size hge⟩)
              | 4, _ =>
                exact absurd (by simp) hs_
              | 5, _ =>
                intro val fl w1 a hb ha hd hfl
                have e0 : val 0 = .agg #[.int .i64 c.events, .slice AD2 ((toldC c b M FL).clocks.length + 1) cD2, .slice AE2 ((toldC c b M FL).clues ++ [[moreO (toldC c b M FL) ev mn]]).length cE2] := hd 0 (memB_mem.1 rfl)
                obtain ⟨A4_, c4_, e4, o4_⟩ := hd 4 (memB_mem.1 rfl)
                change val 4 = _ at e4
                have ha := ha.sub (Sub.ins (d := 145) (Sub.ins (d := 141) (Sub.nil _) (dep_get rfl e0)) (dep_get rfl e4))
                refine ss_call ha rfl rfl (cl_27 rfl rfl) (times_to (times_ok hstm hfm).1 ((times_ok hstm hfm).2.trans (timesN_dist hcm hcrm hokm)) _ _ _ _ _ (hom.below hb).rd (Nat.le_refl _) hn1M hn2M _ (show Rd w1 w1.heap.size 1 (.slice A4_ ((crsBy c b c.clues.length).length + 1) c4_) ((crsBy c b c.clues.length) ++ [0]).length (ints ((crsBy c b c.clues.length) ++ [0])) by rw [hlX1, ← hin1]; exact Rd.of_own o4_) hLnX) rfl ?_
                rintro e w' ⟨⟨v, rfl, hr_⟩, hb'⟩
                exact ⟨_, rfl, hb', ⟨_, rfl, _, Nat.le_refl _, hr_⟩⟩
              | 6, _ =>
                intro val fl w1 a hb ha hd hfl
                obtain ⟨v5_, e5, u5_⟩ := hd 5 (memB_mem.1 rfl)
                have ha := ha.sub (Sub.ins (d := 146) (Sub.nil _) (dep_get rfl e5))
                exact ss_val ha rfl rfl (x_move rfl) ⟨v5_, rfl, u5_⟩ rfl
              | 7, _ =>
                intro val fl w1 a hb ha hd hfl
                obtain ⟨v6_, e6, u6_⟩ := hd 6 (memB_mem.1 rfl)
                have ha := ha.sub (Sub.ins (d := 140) (Sub.nil _) (dep_get rfl e6))
                exact ss_val ha rfl rfl (x_extract rfl rfl) ⟨v6_, rfl, u6_⟩ rfl
              | 8, _ =>
                intro val fl w1 a hb ha hd hfl
                obtain ⟨v6_, e6, u6_⟩ := hd 6 (memB_mem.1 rfl)
                have ha := ha.sub (Sub.ins (d := 140) (Sub.nil _) (dep_get rfl e6))
                exact ss_val ha rfl rfl (x_extract rfl rfl) rfl rfl
              | 9, _ =>
                intro val fl w1 a hb ha hd hfl
                obtain ⟨v7_, e7, u7_⟩ := hd 7 (memB_mem.1 rfl)
                have ha := ha.sub (Sub.ins (d := 147) (Sub.nil _) (dep_get rfl e7))
                exact ss_val ha rfl rfl (x_assign rfl) ⟨v7_, rfl, u7_⟩ rfl
              | k + 10, h => exact absurd h (by omega)
            · simp only [List.mem_singleton] at hi_; subst hi_
              intro val fl w1 a hb hfi ha hd hfl
              obtain ⟨A2_, c2_, e2, o2_⟩ := hd 2 (memB_mem.1 rfl) hfi
              change val 2 = _ at e2
              obtain ⟨g3_, e3, q3_, h3_⟩ := hd 3 (memB_mem.1 rfl) hfi
              change val 3 = _ at e3
              have ha := ha.sub (Sub.ins (d := 144) (Sub.ins (d := 143) (Sub.nil _) (dep_get rfl e2)) (dep_get rfl e3))
              refine ts_push i64_elem ha rfl rfl rfl o2_ (rd_one (l := [.int .i64 0]) q3_ rfl) (by intro u hu; rw [List.mem_singleton.1 hu]; rfl) (by omega) rfl hb.size ?_
              intro v' w' ho' hgr hat
              obtain ⟨A9, c9, rfl, _⟩ := (Rd.of_own ho').shape
              refine ⟨_, rfl, hgr.size, hb.trans (below_row (own_less o2_ (Nat.le_refl _)) hgr hb.size), ⟨A9, c9, rfl, ho'⟩, fun j _ hj hn hA => ?_⟩
              exact phiS_cons_st (C := fun j => j ≠ 4 ∧ 4 ∉ clsAt [[], [], [1], [], [1, 2, 3], [0, 1, 2, 3, 4], [0, 1, 2, 3, 4, 5], [0, 1, 2, 3, 4, 5, 6], [0, 1, 2, 3, 4, 5, 6], [0, 1, 2, 3, 4, 5, 6, 7], [0, 1, 2, 3, 4, 5, 6, 7, 8, 9]] j) (fun _ _ h => by rw [fset_eq] at h; cases h) (phiS_cons_st (C := fun j => j ≠ 4 ∧ 4 ∉ clsAt [[], [], [1], [], [1, 2, 3], [0, 1, 2, 3, 4], [0, 1, 2, 3, 4, 5], [0, 1, 2, 3, 4, 5, 6], [0, 1, 2, 3, 4, 5, 6], [0, 1, 2, 3, 4, 5, 6, 7], [0, 1, 2, 3, 4, 5, 6, 7, 8, 9]] j) (fun _ _ h => by rw [fset_eq] at h; cases h) (phiS_cons_st (C := fun j => j ≠ 4 ∧ 4 ∉ clsAt [[], [], [1], [], [1, 2, 3], [0, 1, 2, 3, 4], [0, 1, 2, 3, 4, 5], [0, 1, 2, 3, 4, 5, 6], [0, 1, 2, 3, 4, 5, 6], [0, 1, 2, 3, 4, 5, 6, 7], [0, 1, 2, 3, 4, 5, 6, 7, 8, 9]] j) (fun hc => absurd rfl hc.1) (phiS_cons_st (C := fun j => j ≠ 4 ∧ 4 ∉ clsAt [[], [], [1], [], [1, 2, 3], [0, 1, 2, 3, 4], [0, 1, 2, 3, 4, 5], [0, 1, 2, 3, 4, 5, 6], [0, 1, 2, 3, 4, 5, 6], [0, 1, 2, 3, 4, 5, 6, 7], [0, 1, 2, 3, 4, 5, 6, 7, 8, 9]] j) (fun hc => absurd (memB_mem.1 rfl) hc.2) (phiS_cons_st (C := fun j => j ≠ 4 ∧ 4 ∉ clsAt [[], [], [1], [], [1, 2, 3], [0, 1, 2, 3, 4], [0, 1, 2, 3, 4, 5], [0, 1, 2, 3, 4, 5, 6], [0, 1, 2, 3, 4, 5, 6], [0, 1, 2, 3, 4, 5, 6, 7], [0, 1, 2, 3, 4, 5, 6, 7, 8, 9]] j) (fun hc => absurd (memB_mem.1 rfl) hc.2) (phiS_cons_st (C := fun j => j ≠ 4 ∧ 4 ∉ clsAt [[], [], [1], [], [1, 2, 3], [0, 1, 2, 3, 4], [0, 1, 2, 3, 4, 5], [0, 1, 2, 3, 4, 5, 6], [0, 1, 2, 3, 4, 5, 6], [0, 1, 2, 3, 4, 5, 6, 7], [0, 1, 2, 3, 4, 5, 6, 7, 8, 9]] j) (fun hc => absurd (memB_mem.1 rfl) hc.2) (phiS_cons_st (C := fun j => j ≠ 4 ∧ 4 ∉ clsAt [[], [], [1], [], [1, 2, 3], [0, 1, 2, 3, 4], [0, 1, 2, 3, 4, 5], [0, 1, 2, 3, 4, 5, 6], [0, 1, 2, 3, 4, 5, 6], [0, 1, 2, 3, 4, 5, 6, 7], [0, 1, 2, 3, 4, 5, 6, 7, 8, 9]] j) (fun hc => absurd (memB_mem.1 rfl) hc.2) (fun _ _ h => h))))))) j ⟨hj, hn⟩
            · intro val fl wR19 hfl hb halc hd
              have e0 : val 0 = .agg #[.int .i64 c.events, .slice AD2 ((toldC c b M FL).clocks.length + 1) cD2, .slice AE2 ((toldC c b M FL).clues ++ [[moreO (toldC c b M FL) ev mn]]).length cE2] := hd 0 (by omega)
              have e1 : val 1 = .slice AK c.clues.length cK := hd 1 (by omega)
              obtain ⟨A4_, c4_, e4, o4_⟩ := hd 4 (by omega)
              change val 4 = _ at e4
              obtain ⟨v5_, e5, u5_⟩ := hd 5 (by omega)
              obtain ⟨v6_, e6, u6_⟩ := hd 6 (by omega)
              obtain ⟨v7_, e7, u7_⟩ := hd 7 (by omega)
              have e8 : val 8 = .int .i64 0 := hd 8 (by omega)
              obtain ⟨v9_, e9, u9_⟩ := hd 9 (by omega)
              refine EL.ends (cs := [.agg #[.int .i64 c.events, .slice AD2 ((toldC c b M FL).clocks.length + 1) cD2, .slice AE2 ((toldC c b M FL).clues ++ [[moreO (toldC c b M FL) ev mn]]).length cE2], .slice AK c.clues.length cK, val 2, val 3, .slice A4_ ((crsBy c b c.clues.length).length + 1) c4_, .tuple #[v5_, .int .i64 0], .tuple #[v6_, .int .i64 0], v7_, .int .i64 0, v9_]) ⟨e0, e1, rfl, rfl, e4, e5, e6, e7, e8, e9, trivial⟩ rfl ?_
              replace q3x := q3x.below hb q3x.lt
              replace q7x := q7x.below hb q7x.lt
              replace q16 := q16.below hb q16.lt
              replace hom := hom.below hb
              replace hbw := Below.on hbw hb hbw.size
              replace hbT := Below.on hbT hb hbT.size
              replace hbX := Below.on hbX hb hbX.size
              replace hbB := Below.on hbB hb hbB.size
              clear hb
              clear e5 e6 e7 u5_ u6_ u7_ o4_
              obtain ⟨B7, hB7, hrM⟩ := u9_
              replace hrM := hrM.more hB7
              have hlM : (rTimes (moreC (toldC c b M FL) ev mn) ((crsBy c b c.clues.length) ++ [0]) (moreC (toldC c b M FL) ev mn).events.toNat).length = Ne := by rw [rTimes_len]; exact eN2
              obtain ⟨AM, cM, eM2, _⟩ := hrM.shape
              rw [hlM] at eM2 hrM
              subst eM2
              obtain ⟨⟨mb0, mb1⟩, mbb⟩ := more_bounds hcm hcd hcr hlL hevN hokm
              obtain ⟨bm, om, e_, _, me0, me1⟩ := bds_cells (rTimes (moreC (toldC c b M FL) ev mn) ((crsBy c b c.clues.length) ++ [0]) (moreC (toldC c b M FL) ev mn).events.toNat) ev (by rw [hlM]; omega) _ _ _ _ _ hrM
              subst e_
              rw [rT_get (c := (moreC (toldC c b M FL) ev mn)) hevN] at me0 me1
              simp only at me0 me1
              rw [mb0] at me0
              rw [mb1] at me1
              have hbM := Below.refl wR19.heap.size wR19
              refine EL.val (x_assign rfl) rfl ?_
              refine EL.nil ?_
              refine EX.seq ?_
              refine EC.seq ?_
              refine EC.seq ?_
              refine EC.region ?_
              refine EL.val (x_move rfl) rfl ?_
              refine EL.val (x_neq (r := false) rfl rfl (by decide)) rfl ?_
              refine EL.val (x_move rfl) rfl ?_
              refine EL.valg rfl rfl (x_move rfl) rfl ?_
              refine EL.valg rfl rfl (ln_22 rfl) rfl ?_
              refine EL.valg rfl rfl (x_move rfl) rfl ?_
              refine EL.valg rfl rfl (ln_22 rfl) rfl ?_
              refine EL.valg rfl rfl (x_neq (r := false) rfl rfl (decide_eq_false (by omega))) rfl ?_
              refine EL.val (x_pick_f rfl rfl) rfl ?_
              refine EL.val (x_move rfl) rfl ?_
              refine EL.valg rfl rfl (x_move rfl) rfl ?_
              refine EL.valg rfl rfl (x_move rfl) rfl ?_
              refine EL.valg rfl rfl (ix_22 rfl rfl hev2) rfl ?_
              refine EL.valg rfl rfl (ld_54 rfl (below_load hbM me0) (below_load hbM me1)) rfl ?_
              refine EL.valg rfl rfl (x_move rfl) rfl ?_
              refine EL.valg rfl rfl (x_move rfl) rfl ?_
              refine EL.valg rfl rfl (bd_54_0_1 rfl rfl) rfl ?_
              refine EL.valg rfl rfl (neq_54 (r := false) rfl rfl (by simp)) rfl ?_
              refine EL.val (x_pick_f rfl rfl) rfl ?_
              refine EL.nil ?_
              refine EX.seq ?_
              refine EC.no rfl ?_
              refine EC.skip ?_
              refine EX.seq ?_
              refine EC.seq ?_
              refine EC.region ?_
              refine EL.val (x_assign rfl) rfl ?_
              refine EL.nil ?_
              refine EX.seq ?_
              refine EC.block ?_
              refine EC.loopD [6, 21, 168, 169, 170, 171, 172, 173, 174, 175, 176, 177, 178, 179, 180, 181, 182, 183, 184, 185, 186, 187, 188, 189, 190, 191, 192, 193, 194, 195, 196, 197, 198, 199, 200, 201, 202, 203, 204, 205, 206, 207, 208, 209, 210] (fun y : Nat => [(21, .int .i64 (y : Nat))]) (fun y W => y ≤ Ne ∧ Blk W g1 65 #[.int .i64 c.events, .slice Ac c.clocks.length cc_, .slice Al c.clues.length cl_, .slice Am xm.length cm_, .slice Af xf.length cf_] ∧ Blk W g5 25 #[.int .i64 c.events, .slice AA (toldC c b M FL).clocks.length cA, .slice AL (toldC c b M FL).clues.length cL] ∧ Below w.heap.size w W ∧ Below wT.heap.size wT W ∧ Below w13.heap.size w13 W ∧ Below wR19.heap.size wR19 W) (fun y => Ne - y) 0 ⟨Nat.zero_le _, q3x, q7x, hbw, hbT, hbX, hbM⟩ ⟨rfl, trivial⟩ ?_
              clear q3x q7x hbw hbT hbX hbM
              rintro y wy ⟨hy, q3y, q7y, hbw, hbT, hbX, hbM⟩
              by_cases hly : y < Ne
              ·
                have hyN : y < c.events.toNat := by omega
                obtain ⟨by_, oy_, e_, _, ty0, ty1⟩ := bds_cells (rTimes (toldC c b M FL) (crsBy c b c.clues.length) (toldC c b M FL).events.toNat) y (by rw [hlT]; omega) _ _ _ _ _ hrT
                obtain ⟨bz_, oz_, e2_, _, my0, my1⟩ := bds_cells (rTimes (moreC (toldC c b M FL) ev mn) ((crsBy c b c.clues.length) ++ [0]) (moreC (toldC c b M FL) ev mn).events.toNat) y (by rw [hlM]; omega) _ _ _ _ _ hrM
                obtain ⟨rfl, rfl⟩ : be = by_ ∧ oe = oy_ := by injection e_ with e_; injection e_ with h1 h2; exact ⟨h1, h2⟩
                obtain ⟨rfl, rfl⟩ : bm = bz_ ∧ om = oz_ := by injection e2_ with e_; injection e_ with h1 h2; exact ⟨h1, h2⟩
                rw [rT_get (c := toldC c b M FL) hyN] at ty0 ty1
                rw [rT_get (c := (moreC (toldC c b M FL) ev mn)) hyN] at my0 my1
                simp only at ty0 ty1 my0 my1
                have hyb := mbb y hyN
                obtain ⟨ya, eya⟩ : ∃ z, z = -dist (toldC c b M FL) (crsBy c b c.clues.length) (1 + y) 0 := ⟨_, rfl⟩
                rw [← eya] at hyb ty0
                obtain ⟨yb, eyb⟩ : ∃ z, z = dist (toldC c b M FL) (crsBy c b c.clues.length) 0 (1 + y) := ⟨_, rfl⟩
                rw [← eyb] at hyb ty1
                obtain ⟨yc, eyc⟩ : ∃ z, z = -dist (moreC (toldC c b M FL) ev mn) ((crsBy c b c.clues.length) ++ [0]) (1 + y) 0 := ⟨_, rfl⟩
                rw [← eyc] at hyb my0
                obtain ⟨yd, eyd⟩ : ∃ z, z = dist (moreC (toldC c b M FL) ev mn) ((crsBy c b c.clues.length) ++ [0]) 0 (1 + y) := ⟨_, rfl⟩
                rw [← eyd] at hyb my1
                obtain ⟨hy1, hy2, hy3⟩ := hyb
                refine EC.seq ?_
                refine EC.seq ?_
                refine EC.region ?_
                refine EL.val (x_move rfl) rfl ?_
                refine EL.val (x_move rfl) rfl ?_
                refine EL.val (ln_22 rfl) rfl ?_
                refine EL.val (x_lss rfl rfl (decide_eq_true (show (((y : Nat) : Int) < ((Ne : Nat) : Int)) by omega))) rfl ?_
                refine EL.nil ?_
                refine EX.seq ?_
                refine EC.yes rfl ?_
                refine EC.skip ?_
                refine EX.seq ?_
                refine EC.seq ?_
                refine EC.block ?_
                refine EC.seq ?_
                refine EC.regionQ (by kernel_rfl) (by kernel_rfl) ?_
                refine EQ.val (fun _ hw => (x_move rfl)) rfl ?_
                refine EQ.val (fun _ hw => (x_move rfl)) rfl ?_
                refine EQ.val (fun _ hw => (ix_22 rfl rfl hly)) rfl ?_
                refine EQ.val (fun _ hw => (fa_54_0 rfl)) rfl ?_
                refine EQ.val (fun _ hw => (ld_3 rfl (below_load hw (below_load hbM my0)))) rfl ?_
                refine EQ.val (fun _ hw => (x_move rfl)) rfl ?_
                refine EQ.val (fun _ hw => (x_move rfl)) rfl ?_
                refine EQ.val (fun _ hw => (ix_22 rfl rfl hly)) rfl ?_
                refine EQ.val (fun _ hw => (fa_54_0 rfl)) rfl ?_
                refine EQ.val (fun _ hw => (ld_3 rfl (below_load hw (below_load hbX ty0)))) rfl ?_
                refine EQ.val (fun _ hw => (x_lss (r := false) rfl rfl (decide_eq_false (by omega)))) rfl ?_
                refine EQ.val (fun _ hw => (x_move rfl)) rfl ?_
                refine EQ.valg rfl rfl (fun _ hw => (x_move rfl)) rfl ?_
                refine EQ.valg rfl rfl (fun _ hw => (x_move rfl)) rfl ?_
                refine EQ.valg rfl rfl (fun _ hw => (ix_22 rfl rfl hly)) rfl ?_
                refine EQ.valg rfl rfl (fun _ hw => (fa_54_1 rfl)) rfl ?_
                refine EQ.valg rfl rfl (fun _ hw => (ld_3 rfl (below_load hw (below_load hbM my1)))) rfl ?_
                refine EQ.valg rfl rfl (fun _ hw => (x_move rfl)) rfl ?_
                refine EQ.valg rfl rfl (fun _ hw => (x_move rfl)) rfl ?_
                refine EQ.valg rfl rfl (fun _ hw => (ix_22 rfl rfl hly)) rfl ?_
                refine EQ.valg rfl rfl (fun _ hw => (fa_54_1 rfl)) rfl ?_
                refine EQ.valg rfl rfl (fun _ hw => (ld_3 rfl (below_load hw (below_load hbX ty1)))) rfl ?_
                refine EQ.valg rfl rfl (fun _ hw => (x_gtr (r := false) rfl rfl (decide_eq_false (by omega)))) rfl ?_
                refine EQ.val (fun _ hw => (x_pick_f rfl rfl)) rfl ?_
                refine EQ.val (fun _ hw => (x_move rfl)) rfl ?_
                refine EQ.valg rfl rfl (fun _ hw => (x_move rfl)) rfl ?_
                refine EQ.valg rfl rfl (fun _ hw => (x_move rfl)) rfl ?_
                refine EQ.valg rfl rfl (fun _ hw => (ix_22 rfl rfl hly)) rfl ?_
                refine EQ.valg rfl rfl (fun _ hw => (fa_54_0 rfl)) rfl ?_
                refine EQ.valg rfl rfl (fun _ hw => (ld_3 rfl (below_load hw (below_load hbM my0)))) rfl ?_
                refine EQ.valg rfl rfl (fun _ hw => (x_move rfl)) rfl ?_
                refine EQ.valg rfl rfl (fun _ hw => (x_move rfl)) rfl ?_
                refine EQ.valg rfl rfl (fun _ hw => (ix_22 rfl rfl hly)) rfl ?_
                refine EQ.valg rfl rfl (fun _ hw => (fa_54_1 rfl)) rfl ?_
                refine EQ.valg rfl rfl (fun _ hw => (ld_3 rfl (below_load hw (below_load hbM my1)))) rfl ?_
                refine EQ.valg rfl rfl (fun _ hw => (x_gtr (r := false) rfl rfl (decide_eq_false (by omega)))) rfl ?_
                refine EQ.val (fun _ hw => (x_pick_f rfl rfl)) rfl ?_
                refine EQ.fin (fun w31 hw_ => ?_)
                replace q3y := q3y.below hw_ q3y.lt
                replace q7y := q7y.below hw_ q7y.lt
                replace hbw := Below.on hbw hw_ hbw.size
                replace hbT := Below.on hbT hw_ hbT.size
                replace hbX := Below.on hbX hw_ hbX.size
                replace hbM := Below.on hbM hw_ hbM.size
                clear hw_
                refine EX.seq ?_
                refine EC.no rfl ?_
                refine EC.skip ?_
                refine EX.blk ?_
                refine EX.seq ?_
                refine EC.region ?_
                refine EL.val (x_move rfl) rfl ?_
                refine EL.val (x_add rfl rfl (c := ((y + 1 : Nat) : Int)) ((IntWalk.i64_in _ ⟨by first | omega | (simp only; omega), by first | omega | (simp only; omega)⟩).trans (by first | omega | (simp only; omega)))) rfl ?_
                refine EL.val (x_assign rfl) rfl ?_
                refine EL.nil ?_
                refine EX.roundD (y + 1) ⟨rfl, trivial⟩ (by repeat first | with_reducible exact Sub.refl _ | refine sub_past rfl ?_ | exact Sub.refl _ | refine sub_del rfl ?_ | refine sub_insL_nil ?_) ⟨hly, q3y, q7y, hbw, hbT, hbX, hbM⟩ (by omega)
              ·
                have hye : y = Ne := by omega
                refine EC.seq ?_
                refine EC.seq ?_
                refine EC.region ?_
                refine EL.val (x_move rfl) rfl ?_
                refine EL.val (x_move rfl) rfl ?_
                refine EL.val (ln_22 rfl) rfl ?_
                refine EL.val (x_lss rfl rfl (decide_eq_false (show ¬(((y : Nat) : Int) < ((Ne : Nat) : Int)) by omega))) rfl ?_
                refine EL.nil ?_
                refine EX.seq ?_
                refine EC.no rfl ?_
                refine EC.exit ?_
                refine EX.seq_exit ?_
                refine EX.seq_exit ?_
                refine EX.blk_here ?_
                refine EX.blk ?_
                refine EX.seq ?_
                refine EC.region ?_
                refine EL.val (x_move rfl) rfl ?_
                refine EL.val (x_add rfl rfl (c := ((x + 1 : Nat) : Int)) ((IntWalk.i64_in _ ⟨by first | omega | (simp only; omega), by first | omega | (simp only; omega)⟩).trans (by first | omega | (simp only; omega)))) rfl ?_
                refine EL.val (x_assign rfl) rfl ?_
                refine EL.nil ?_
                refine EX.roundD (x + 1) ⟨rfl, trivial⟩ (by repeat first | with_reducible exact Sub.refl _ | refine sub_past rfl ?_ | exact Sub.refl _ | refine sub_del rfl ?_ | refine sub_insL_nil ?_) ⟨hlt, q3y, q7y, hbw, hbT, hbX⟩ (by omega)
          ·
            have hokm : okC (moreC (toldC c b M FL) ev mn) ((crsBy c b c.clues.length) ++ [0]) = false := more_not hcm hcd hcr hlL hevN (by rcases hm4.resolve_left (fun h => by omega) with ⟨_, e | e⟩ <;> omega)
            have hfm : fitsS (moreC (toldC c b M FL) ev mn) ((crsBy c b c.clues.length) ++ [0]) = false := (fits_okC hcm hcrm.neg).trans hokm
            refine EC.seq ?_
            refine EC.seq ?_
            refine EC.region ?_
            refine EL.val (x_move rfl) rfl ?_
            refine EL.val (x_lss (r := true) rfl rfl (decide_eq_true (by omega))) rfl ?_
            refine EL.nil ?_
            refine EX.seq ?_
            refine EC.yes rfl ?_
            refine EC.skip ?_
            refine EX.seq ?_
            refine EC.seq ?_
            refine EC.block ?_
            refine EC.seq ?_
            refine EC.regionQ (by kernel_rfl) (by kernel_rfl) ?_
            refine EQ.val (fun _ hw => (x_move rfl)) rfl ?_
            refine EQ.val (fun _ hw => (x_move rfl)) rfl ?_
            refine EQ.val (fun _ hw => (ix_22 rfl rfl hev2)) rfl ?_
            refine EQ.val (fun _ hw => (fa_54_0 rfl)) rfl ?_
            refine EQ.val (fun _ hw => (ld_3 rfl (below_load hw (below_load hbX te0)))) rfl ?_
            refine EQ.val (fun _ hw => (x_move rfl)) rfl ?_
            refine EQ.val (fun _ hw => (x_move rfl)) rfl ?_
            refine EQ.val (fun _ hw => (ix_22 rfl rfl hev2)) rfl ?_
            refine EQ.val (fun _ hw => (fa_54_1 rfl)) rfl ?_
            refine EQ.val (fun _ hw => (ld_3 rfl (below_load hw (below_load hbX te1)))) rfl ?_
            refine EQ.val (fun _ hw => (x_move rfl)) rfl ?_
            refine EQ.val (fun _ hw => (x_move rfl)) rfl ?_
            refine EQ.val (fun _ hw => (ix_22 rfl rfl hev2)) rfl ?_
            refine EQ.val (fun _ hw => (fa_54_0 rfl)) rfl ?_
            refine EQ.val (fun _ hw => (ld_3 rfl (below_load hw (below_load hbX te0)))) rfl ?_
            refine EQ.val (fun _ hw => (x_sub rfl rfl (c := lo - 1) (IntWalk.i64_in _ ⟨by omega, by omega⟩))) rfl ?_
            refine EQ.val (fun _ hw => (x_move rfl)) rfl ?_
            refine EQ.val (fun _ hw => (x_move rfl)) rfl ?_
            refine EQ.val (fun _ hw => (ix_22 rfl rfl hev2)) rfl ?_
            refine EQ.val (fun _ hw => (fa_54_1 rfl)) rfl ?_
            refine EQ.val (fun _ hw => (ld_3 rfl (below_load hw (below_load hbX te1)))) rfl ?_
            refine EQ.val (fun _ hw => (x_add rfl rfl (c := hi + 1) (IntWalk.i64_in _ ⟨by omega, by omega⟩))) rfl ?_
            refine EQ.val (fun _ hw => (bd_68_0_1_2_3 rfl rfl rfl rfl)) rfl ?_
            refine EQ.val (fun _ hw => (x_move rfl)) rfl ?_
            refine EQ.val (fun _ hw => (index4 rfl rfl hlt emn.symm)) rfl ?_
            refine EQ.val (fun _ hw => (x_assign rfl)) rfl ?_
            refine EQ.fin (fun w32 hw_ => ?_)
            replace q3x := q3x.below hw_ q3x.lt
            replace q7x := q7x.below hw_ q7x.lt
            replace hbw := Below.on hbw hw_ hbw.size
            replace hbT := Below.on hbT hw_ hbT.size
            replace hbX := Below.on hbX hw_ hbX.size
            clear hw_
            refine EX.seq ?_
            refine EC.seq ?_
            refine EC.region ?_
            refine EL.val (ld_25 rfl (q7x.at (j := 0) rfl) (q7x.at (j := 1) rfl) (q7x.at (j := 2) rfl)) rfl ?_
            have hbB := Below.refl w32.heap.size w32
            have hsw_ := hbw.size
            have hsT_ := hbT.size
            have hsX_ := hbX.size
            refine EL.call (cl_14 rfl) rfl (copied_any (toldC c b M FL) _ _ ws _ _ (hRD.below hbT) hbT.size hn1D hn2D smD) ?_
            rintro e w33 ⟨⟨vam, vbm, wsm, rfl, hom⟩, hc33⟩
            refine ⟨_, rfl, ?_⟩
            replace q3x := q3x.below hc33 q3x.lt
            replace q7x := q7x.below hc33 q7x.lt
            replace hbw := Below.on hbw hc33 hbw.size
            replace hbT := Below.on hbT hc33 hbT.size
            replace hbX := Below.on hbX hc33 hbX.size
            replace hbB := Below.on hbB hc33 hbB.size
            clear hc33
            obtain ⟨AD, cD, rfl, _⟩ := (Rd.of_own hom.clocks).shape
            obtain ⟨AE, cE, rfl, _⟩ := (Rd.of_own hom.clues.own).shape
            refine EL.newP al_25 rfl ?_
            intro g34 w34 q34 hb34 hg34 hl34
            have n1_34 : g1 ≠ g34 := Nat.ne_of_lt (Nat.lt_of_lt_of_le q3x.lt hg34)
            have n5_34 : g5 ≠ g34 := Nat.ne_of_lt (Nat.lt_of_lt_of_le q7x.lt hg34)
            have bhbw_34 := Nat.le_trans hbw.size hg34
            have bhbT_34 := Nat.le_trans hbT.size hg34
            have bhbX_34 := Nat.le_trans hbX.size hg34
            have bhbB_34 := Nat.le_trans hbB.size hg34
            replace q3x := q3x.below hb34 q3x.lt
            replace q7x := q7x.below hb34 q7x.lt
            replace hom := hom.below hb34
            replace hbw := Below.on hbw hb34 hbw.size
            replace hbT := Below.on hbT hb34 hbT.size
            replace hbX := Below.on hbX hb34 hbX.size
            replace hbB := Below.on hbB hb34 hbB.size
            clear hb34 hg34 hl34
            refine EL.store rfl rfl q34 sz_25 rfl rfl rfl rfl ?_
            intro w35 hq35 hg35
            replace q3x := q3x.grown hg35 (fun h => n1_34 (Option.some.inj h))
            replace q7x := q7x.grown hg35 (fun h => n5_34 (Option.some.inj h))
            replace hom := hom.type q34 rfl rfl rfl hg35
            replace hbw := below_store hbw hg35 bhbw_34
            replace hbT := below_store hbT hg35 bhbT_34
            replace hbX := below_store hbX hg35 bhbX_34
            replace hbB := below_store hbB hg35 bhbB_34
            replace q34 := hq35
            clear hg35 hq35
            refine EL.nil ?_
            refine EX.seq ?_
            refine EC.seq ?_
            refine EC.region ?_
            refine EL.val (fa_25_1 rfl) rfl ?_
            refine EL.val (ld_22 rfl (q34.at (j := 1) rfl)) rfl ?_
            refine EL.val (bd_54_) rfl ?_
            refine EL.newS (bs_22_1 rfl) rfl ?_
            intro g36 w36 q36 hb36 hg36 hl36
            have n1_36 : g1 ≠ g36 := Nat.ne_of_lt (Nat.lt_of_lt_of_le q3x.lt hg36)
            have n5_36 : g5 ≠ g36 := Nat.ne_of_lt (Nat.lt_of_lt_of_le q7x.lt hg36)
            have n34_36 : g34 ≠ g36 := Nat.ne_of_lt (Nat.lt_of_lt_of_le q34.lt hg36)
            have bhbw_36 := Nat.le_trans hbw.size hg36
            have bhbT_36 := Nat.le_trans hbT.size hg36
            have bhbX_36 := Nat.le_trans hbX.size hg36
            have bhbB_36 := Nat.le_trans hbB.size hg36
            replace q3x := q3x.below hb36 q3x.lt
            replace q7x := q7x.below hb36 q7x.lt
            replace q34 := q34.below hb36 q34.lt
            replace hom := hom.below hb36
            replace hbw := Below.on hbw hb36 hbw.size
            replace hbT := Below.on hbT hb36 hbT.size
            replace hbX := Below.on hbX hb36 hbX.size
            replace hbB := Below.on hbB hb36 hbB.size
            clear hb36 hg36 hl36
            have hck_ := hom.clocks
            refine EL.push bd_elem rfl rfl hck_ (rd_one (l := [.int .i64 0, .int .i64 0]) q36 rfl) (fun u hu => by simp only [List.mem_cons, List.not_mem_nil, or_false] at hu; rcases hu with rfl | rfl <;> rfl) (by have := smD.clocks; omega) rfl hbB.size rfl ?_
            intro v37 w37 hcl2 hgr hb_ _
            replace q3x := blk_grown q3x hck_ rfl hgr
            replace q7x := blk_grown q7x hck_ rfl hgr
            replace q34 := blk_grown q34 hck_ rfl hgr
            have hcu := hom.clues.grown hck_ rfl rfl hgr
            replace hbw := hbw.trans (hb_.mono hsw_)
            replace hbT := hbT.trans (hb_.mono hsT_)
            replace hbX := hbX.trans (hb_.mono hsX_)
            replace hbB := hbB.trans (hb_.mono (Nat.le_refl _))
            clear hom hck_ hgr hb_
            obtain ⟨AD2, cD2, eD2, _⟩ := (Rd.of_own hcl2).shape
            subst eD2
            refine EL.val (fa_25_1 rfl) rfl ?_
            refine EL.store rfl rfl q34 sz_22 rfl rfl rfl rfl ?_
            intro w38 hq38 hg38
            replace q3x := q3x.grown hg38 (fun h => n1_34 (Option.some.inj h))
            replace q7x := q7x.grown hg38 (fun h => n5_34 (Option.some.inj h))
            replace hcl2 := own_type hcl2 q34 rfl hg38
            replace hcu := hcu.type q34 rfl rfl hg38
            replace hbw := below_store hbw hg38 bhbw_34
            replace hbT := below_store hbT hg38 bhbT_34
            replace hbX := below_store hbX hg38 bhbX_34
            replace hbB := below_store hbB hg38 bhbB_34
            replace q34 := hq38
            clear hg38 hq38
            refine EL.nil ?_
            refine EX.seq ?_
            refine EC.seq ?_
            refine EC.region ?_
            have hcu0 := hcu
            have hb14 := Below.refl w38.heap.size w38
            refine EL.val (fa_25_2 rfl) rfl ?_
            refine EL.val (ld_23 rfl (q34.at (j := 2) rfl)) rfl ?_
            refine EL.val (x_move rfl) rfl ?_
            refine EL.val (fa_25_1 rfl) rfl ?_
            refine EL.val (ld_22 rfl (q7x.at (j := 1) rfl)) rfl ?_
            refine EL.val (ln_22 rfl) rfl ?_
            refine EL.val (x_move rfl) rfl ?_
            refine EL.val (x_move rfl) rfl ?_
            refine EL.val (bd_54_0_1 rfl rfl) rfl ?_
            refine EL.val (bd_71_0_1_2_4 rfl rfl rfl rfl) rfl ?_
            refine EL.newS (bs_72_1 rfl) rfl ?_
            intro g39 w39 q39 hb39 hg39 hl39
            have n1_39 : g1 ≠ g39 := Nat.ne_of_lt (Nat.lt_of_lt_of_le q3x.lt hg39)
            have n5_39 : g5 ≠ g39 := Nat.ne_of_lt (Nat.lt_of_lt_of_le q7x.lt hg39)
            have n34_39 : g34 ≠ g39 := Nat.ne_of_lt (Nat.lt_of_lt_of_le q34.lt hg39)
            have bhbw_39 := Nat.le_trans hbw.size hg39
            have bhbT_39 := Nat.le_trans hbT.size hg39
            have bhbX_39 := Nat.le_trans hbX.size hg39
            have bhbB_39 := Nat.le_trans hbB.size hg39
            have bhb14_39 := Nat.le_trans hb14.size hg39
            replace q3x := q3x.below hb39 q3x.lt
            replace q7x := q7x.below hb39 q7x.lt
            replace q34 := q34.below hb39 q34.lt
            replace hcl2 := own_below hcl2 hb39 (Nat.le_refl _)
            replace hcu := hcu.below hb39
            replace hbw := Below.on hbw hb39 hbw.size
            replace hbT := Below.on hbT hb39 hbT.size
            replace hbX := Below.on hbX hb39 hbX.size
            replace hbB := Below.on hbB hb39 hbB.size
            replace hb14 := Below.on hb14 hb39 hb14.size
            clear hb39 hg39 hl39
            refine EL.val (bd_74_0 rfl) rfl ?_
            refine EL.newS (bs_23_1 rfl) rfl ?_
            intro g40 w40 q40 hb40 hg40 hl40
            have n1_40 : g1 ≠ g40 := Nat.ne_of_lt (Nat.lt_of_lt_of_le q3x.lt hg40)
            have n5_40 : g5 ≠ g40 := Nat.ne_of_lt (Nat.lt_of_lt_of_le q7x.lt hg40)
            have n34_40 : g34 ≠ g40 := Nat.ne_of_lt (Nat.lt_of_lt_of_le q34.lt hg40)
            have n39_40 : g39 ≠ g40 := Nat.ne_of_lt (Nat.lt_of_lt_of_le q39.lt hg40)
            have bhbw_40 := Nat.le_trans hbw.size hg40
            have bhbT_40 := Nat.le_trans hbT.size hg40
            have bhbX_40 := Nat.le_trans hbX.size hg40
            have bhbB_40 := Nat.le_trans hbB.size hg40
            have bhb14_40 := Nat.le_trans hb14.size hg40
            replace q3x := q3x.below hb40 q3x.lt
            replace q7x := q7x.below hb40 q7x.lt
            replace q34 := q34.below hb40 q34.lt
            replace q39 := q39.below hb40 q39.lt
            replace hcl2 := own_below hcl2 hb40 (Nat.le_refl _)
            replace hcu := hcu.below hb40
            replace hbw := Below.on hbw hb40 hbw.size
            replace hbT := Below.on hbT hb40 hbT.size
            replace hbX := Below.on hbX hb40 hbX.size
            replace hbB := Below.on hbB hb40 hbB.size
            replace hb14 := Below.on hb14 hb40 hb14.size
            clear hb40 hg40 hl40
            have hnew := own_built (base := w32.heap.size) (k := 1) (size := 6) (l := optsC [moreO (toldC c b M FL) ev mn]) q39 rfl (by omega) bhbB_39
            have hap3 : ∀ g, (Value.slice (some ⟨g39, 0, none⟩) 1 1).ownBlock = some g → w38.heap.size ≤ g := fun g h => by injection h with h; rw [← h]; exact bhb14_39
            have hcw_ := hcu.own
            refine EL.push clue_elem rfl rfl hcw_ (rd_one (l := [.slice (some ⟨g39, 0, none⟩) 1 1]) q40 rfl) (by intro u hu; rw [List.mem_singleton.1 hu]; rfl) (by have := smD.clues; omega) rfl hbB.size rfl ?_
            intro v41 w41 ho3 hgr hb_ _
            have hcu2 := hcu.push (o := [moreO (toldC c b M FL) ev mn]) hnew hgr ho3 hcu0 hap3 (Nat.le_refl _)
            replace q3x := blk_grown q3x hcw_ rfl hgr
            replace q7x := blk_grown q7x hcw_ rfl hgr
            replace q34 := blk_grown q34 hcw_ rfl hgr
            clear hb14
            replace hcl2 := own_grown hcl2 hcw_ rfl hgr
            replace hbw := hbw.trans (hb_.mono hsw_)
            replace hbT := hbT.trans (hb_.mono hsT_)
            replace hbX := hbX.trans (hb_.mono hsX_)
            replace hbB := hbB.trans (hb_.mono (Nat.le_refl _))
            obtain ⟨AE2, cE2, eE3, _⟩ := (Rd.of_own hcu2.own).shape
            subst eE3
            have hom : OwnCase w41 w32.heap.size (.slice AD2 ((toldC c b M FL).clocks.length + 1) cD2) (.slice AE2 ((toldC c b M FL).clues ++ [[moreO (toldC c b M FL) ev mn]]).length cE2) (moreC (toldC c b M FL) ev mn) _ := ⟨by show World.ownsRow _ _ _ _ _ ((toldC c b M FL).clocks ++ [bd0]).length (bdsC ((toldC c b M FL).clocks ++ [bd0])); rw [List.length_append, List.length_singleton, bdsC_app]; exact hcl2, hcu2⟩
            clear hcu hcu0 hcl2 hcu2 hcw_ hgr hb_ ho3 hnew hap3
            refine EL.val (fa_25_2 rfl) rfl ?_
            refine EL.store rfl rfl q34 sz_23 rfl rfl rfl rfl ?_
            intro w42 hq42 hg42
            replace q3x := q3x.grown hg42 (fun h => n1_34 (Option.some.inj h))
            replace q7x := q7x.grown hg42 (fun h => n5_34 (Option.some.inj h))
            replace hom := hom.type q34 rfl rfl rfl hg42
            replace hbw := below_store hbw hg42 bhbw_34
            replace hbT := below_store hbT hg42 bhbT_34
            replace hbX := below_store hbX hg42 bhbX_34
            replace hbB := below_store hbB hg42 bhbB_34
            replace q34 := hq42
            clear hg42 hq42
            refine EL.nil ?_
            refine EX.seq ?_
            refine EC.seq ?_
            refine EC.region ?_
            refine EL.val (ld_25 rfl (q34.at (j := 0) rfl) (q34.at (j := 1) rfl) (q34.at (j := 2) rfl)) rfl ?_
            refine EL.call (cl_14 rfl) rfl (copied_any (moreC (toldC c b M FL) ev mn) _ _ _ _ _ hom.rd (Nat.le_refl _) hn1M hn2M smM) ?_
            rintro e w44 ⟨⟨vak, vbk, wsk, rfl, hok2⟩, hc44⟩
            refine ⟨_, rfl, ?_⟩
            replace q3x := q3x.below hc44 q3x.lt
            replace q7x := q7x.below hc44 q7x.lt
            replace q34 := q34.below hc44 q34.lt
            replace hom := hom.below hc44
            replace hbw := Below.on hbw hc44 hbw.size
            replace hbT := Below.on hbT hc44 hbT.size
            replace hbX := Below.on hbX hc44 hbX.size
            replace hbB := Below.on hbB hc44 hbB.size
            clear hc44
            have hrk := hok2.rd
            have hbk := Below.refl w44.heap.size w44
            have zhbw_ := hbw.size
            have zhbT_ := hbT.size
            have zhbX_ := hbX.size
            have zhbB_ := hbB.size
            have zhbk_ := hbk.size
            refine EL.val (x_move rfl) rfl ?_
            refine EL.call (cl_15 rfl) rfl (ints_any (crsBy c b c.clues.length) _ _ wT.heap.size (hr3.below hbT) hbT.size (by omega)) ?_
            rintro e w45 ⟨⟨vlk, rfl, holk⟩, hc45⟩
            refine ⟨_, rfl, ?_⟩
            replace q3x := q3x.below hc45 q3x.lt
            replace q7x := q7x.below hc45 q7x.lt
            replace q34 := q34.below hc45 q34.lt
            replace hom := hom.below hc45
            replace hbw := Below.on hbw hc45 hbw.size
            replace hbT := Below.on hbT hc45 hbT.size
            replace hbX := Below.on hbX hc45 hbX.size
            replace hbB := Below.on hbB hc45 hbB.size
            replace hbk := Below.on hbk hc45 hbk.size
            clear hc45
            obtain ⟨Aik, cik, rfl, _⟩ := (Rd.of_own holk).shape
            refine EL.newS (bs_26_1 rfl) rfl ?_
            intro g46 w46 q46 hb46 hg46 hl46
            have n1_46 : g1 ≠ g46 := Nat.ne_of_lt (Nat.lt_of_lt_of_le q3x.lt hg46)
            have n5_46 : g5 ≠ g46 := Nat.ne_of_lt (Nat.lt_of_lt_of_le q7x.lt hg46)
            have n34_46 : g34 ≠ g46 := Nat.ne_of_lt (Nat.lt_of_lt_of_le q34.lt hg46)
            have bhbw_46 := Nat.le_trans hbw.size hg46
            have bhbT_46 := Nat.le_trans hbT.size hg46
            have bhbX_46 := Nat.le_trans hbX.size hg46
            have bhbB_46 := Nat.le_trans hbB.size hg46
            have bhbk_46 := Nat.le_trans hbk.size hg46
            replace q3x := q3x.below hb46 q3x.lt
            replace q7x := q7x.below hb46 q7x.lt
            replace q34 := q34.below hb46 q34.lt
            replace hom := hom.below hb46
            replace holk := own_below holk hb46 (Nat.le_refl _)
            replace hbw := Below.on hbw hb46 hbw.size
            replace hbT := Below.on hbT hb46 hbT.size
            replace hbX := Below.on hbX hb46 hbX.size
            replace hbB := Below.on hbB hb46 hbB.size
            replace hbk := Below.on hbk hb46 hbk.size
            clear hb46 hg46 hl46
            refine EL.push i64_elem rfl rfl holk (rd_one (l := [.int .i64 0]) q46 rfl) (by intro u hu; rw [List.mem_singleton.1 hu]; rfl) (by omega) rfl hbk.size rfl ?_
            intro v47 w47 hox hgr hb_ _
            replace q3x := blk_grown q3x holk rfl hgr
            replace q7x := blk_grown q7x holk rfl hgr
            replace q34 := blk_grown q34 holk rfl hgr
            replace hom := hom.grown holk rfl rfl rfl hgr
            replace hbw := hbw.trans (hb_.mono zhbw_)
            replace hbT := hbT.trans (hb_.mono zhbT_)
            replace hbX := hbX.trans (hb_.mono zhbX_)
            replace hbB := hbB.trans (hb_.mono zhbB_)
            replace hbk := hbk.trans (hb_.mono zhbk_)
            have hlX : Rd w47 w47.heap.size 1 v47 ((crsBy c b c.clues.length) ++ [0]).length (ints ((crsBy c b c.clues.length) ++ [0])) := by rw [hlX1, ← hin1]; exact Rd.of_own hox
            clear hox holk hgr hb_
            refine EL.call (cl_26 rfl rfl) rfl (possible_to (poss_no hstm hfm) hstm _ _ wsk _ _ ((hrk.below hbk).more hbk.size) (Nat.le_refl _) hn1M hn2M _ hlX hLnX) ?_
            rintro e w48 ⟨rfl, hc48⟩
            refine ⟨_, rfl, ?_⟩
            replace q3x := q3x.below hc48 q3x.lt
            replace q7x := q7x.below hc48 q7x.lt
            replace q34 := q34.below hc48 q34.lt
            replace hom := hom.below hc48
            replace hbw := Below.on hbw hc48 hbw.size
            replace hbT := Below.on hbT hc48 hbT.size
            replace hbX := Below.on hbX hc48 hbX.size
            replace hbB := Below.on hbB hc48 hbB.size
            replace hbk := Below.on hbk hc48 hbk.size
            clear hc48
            refine EL.val (x_move rfl) rfl ?_
            refine EL.val (x_extract rfl rfl) rfl ?_
            refine EL.val (x_extract rfl rfl) rfl ?_
            refine EL.val (x_assign rfl) rfl ?_
            refine EL.val (x_assign rfl) rfl ?_
            refine EL.nil ?_
            refine EX.seq ?_
            refine EC.seq ?_
            refine EC.seq ?_
            refine EC.region ?_
            refine EL.val (x_move rfl) rfl ?_
            refine EL.val (x_neq (r := false) rfl rfl (by decide)) rfl ?_
            refine EL.val (x_move rfl) rfl ?_
            refine EL.valg rfl rfl (x_move rfl) rfl ?_
            refine EL.valg rfl rfl (x_move rfl) rfl ?_
            refine EL.valg rfl rfl (x_lss (r := false) rfl rfl (decide_eq_false (by omega))) rfl ?_
            refine EL.valg rfl rfl (neq_bool rfl rfl rfl) rfl ?_
            refine EL.val (x_pick_f rfl rfl) rfl ?_
            refine EL.nil ?_
            refine EX.seq ?_
            refine EC.no rfl ?_
            refine EC.skip ?_
            refine EX.seq ?_
            refine EC.seq ?_
            refine EC.seq ?_
            refine EC.region ?_
            refine EL.val (x_move rfl) rfl ?_
            refine EL.val (x_gtr (r := true) rfl rfl (decide_eq_true (by omega))) rfl ?_
            refine EL.nil ?_
            refine EX.seq ?_
            refine EC.yes rfl ?_
            refine EC.exit ?_
            refine EX.seq_exit ?_
            refine EX.blk_here ?_
            refine EX.seq ?_
            refine EC.region ?_
            refine EL.val (x_move rfl) rfl ?_
            refine EL.val (x_add rfl rfl (c := ((x + 1 : Nat) : Int)) ((IntWalk.i64_in _ ⟨by first | omega | (simp only; omega), by first | omega | (simp only; omega)⟩).trans (by first | omega | (simp only; omega)))) rfl ?_
            refine EL.val (x_assign rfl) rfl ?_
            refine EL.nil ?_
            refine EX.roundD (x + 1) ⟨rfl, trivial⟩ (by repeat first | with_reducible exact Sub.refl _ | refine sub_past rfl ?_ | exact Sub.refl _ | refine sub_del rfl ?_ | refine sub_insL_nil ?_) ⟨hlt, q3x, q7x, hbw, hbT, hbX⟩ (by omega)
        ·
          have hx4 : x = 4 := by omega
          refine EC.seq ?_
          refine EC.seq ?_
          refine EC.region ?_
          refine EL.val (x_move rfl) rfl ?_
          refine EL.val (x_lss (r := false) rfl rfl (decide_eq_false (by omega))) rfl ?_
          refine EL.nil ?_
          refine EX.seq ?_
          refine EC.no rfl ?_
          refine EC.exit ?_
          refine EX.seq_exit ?_
          refine EX.seq_exit ?_
          refine EX.blk_here ?_
          refine EX.seq ?_
          refine EC.seq ?_
          refine EC.region ?_
          refine EL.call cl_12 rfl (known_any _) ?_
          rintro e w49 ⟨rfl, hc49⟩
          refine ⟨_, rfl, ?_⟩
          replace q3x := q3x.below hc49 q3x.lt
          replace q7x := q7x.below hc49 q7x.lt
          replace hbw := Below.on hbw hc49 hbw.size
          replace hbT := Below.on hbT hc49 hbT.size
          replace hbX := Below.on hbX hc49 hbX.size
          clear hc49
          refine EL.val (x_assign rfl) rfl ?_
          refine EL.nil ?_
          refine EX.seq ?_
          refine EC.ret ?_
          exact EX.done (res1 rfl rfl) ⟨rfl, hbw⟩
end Go.Proofs.Ytmaiiigijjfjfaa
