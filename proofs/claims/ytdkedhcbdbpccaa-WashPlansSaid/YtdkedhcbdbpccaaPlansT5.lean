/- X18, ExX19, X19, ExX20, X20, ExX21, X21, ExX22: what WashPlansProof needs of them (merged by trimpack.py). -/
import Derived.Test.YtdkedhcbdbpccaaPlansT4
set_option linter.unusedVariables false
set_option linter.unusedSimpArgs false
namespace Go.Proofs.Ytdkedhcbdbpccaa
open Go Go.RowKit
theorem in_to {n lo hi : Int} {b : Bool} (h : inB lo hi n = b) (w : World) : Calls Try.prog 56 #[.int .i64 n, .int .i64 lo, .int .i64 hi] w fun e w' => e = .returned (.bool b) ∧ Below w.heap.size w w' := by
 have hbw := Below.refl w.heap.size w;refine EC.enter 15 Try.func56 rfl rfl rfl (EC.seq (EC.region (EL.as rfl rfl (EL.nil (EX.seq (EC.seq (EC.region (EL.mv rfl rfl (EL.mv rfl rfl ?_)))))))))
 by_cases h1 : lo ≤ n
 ·
  refine EL.val (x_geq (r := true) rfl rfl (decide_eq_true (by omega))) rfl ?_
  refine EL.mv rfl rfl (EL.valg rfl rfl (x_move rfl) rfl (EL.valg rfl rfl (x_move rfl) rfl ?_))
  by_cases h2 : n ≤ hi
  ·
   refine EL.valg rfl rfl (x_leq (r := true) rfl rfl (decide_eq_true (by omega))) rfl ?_
   refine EL.val (x_pick_t rfl rfl) rfl (EL.as rfl rfl (EL.nil (EX.seq (EC.ret ?_))))
   exact EX.done (res1 rfl rfl) ⟨by rw [← h]; rw [inB_iff.2 ⟨h1, h2⟩], hbw⟩
  ·
   refine EL.valg rfl rfl (x_leq (r := false) rfl rfl (decide_eq_false (by omega))) rfl ?_
   refine EL.val (x_pick_t rfl rfl) rfl (EL.as rfl rfl (EL.nil (EX.seq (EC.ret ?_))))
   exact EX.done (res1 rfl rfl) ⟨by rw [← h]; rw [show inB lo hi n = false from Bool.eq_false_iff.2 (fun h => by rw [inB_iff] at h; omega)], hbw⟩
 ·
  refine EL.val (x_geq (r := false) rfl rfl (decide_eq_false (by omega))) rfl ?_
  refine EL.mv rfl rfl (EL.skip rfl rfl rfl rfl (EL.skip rfl rfl rfl rfl (EL.skip rfl rfl rfl rfl (EL.val (x_pick_f rfl rfl) rfl (EL.as rfl rfl (EL.nil (EX.seq (EC.ret ?_))))))))
  exact EX.done (res1 rfl rfl) ⟨by rw [← h]; rw [show inB lo hi n = false from Bool.eq_false_iff.2 (fun h => by rw [inB_iff] at h; omega)], hbw⟩
theorem bounds_to {x : Bd} {b : Bool} (h : bdB x = b) (w : World) : Calls Try.prog 66 #[.agg #[.int .i64 x.lo, .int .i64 x.hi], .int .i64 1000000] w fun e w' => e = .returned (.bool b) ∧ Below w.heap.size w w' := by
 have hbw := Below.refl w.heap.size w;refine EC.enter 21 Try.func66 rfl rfl rfl (EC.seq (EC.region (EL.newP (bx_24 rfl) rfl ?_)));intro g1 w1 q1 hb1 hg1 hl1;have bhbw_1 := Nat.le_trans hbw.size hg1;replace hbw := bo_ hbw hb1;clear hb1 hg1 hl1;refine EL.as rfl rfl (EL.nil (EX.seq (EC.seq (EC.region (EL.val (fa_24_0 rfl) rfl (EL.val (ld_3 rfl (q1.at (j := 0) rfl)) rfl ?_))))))
 by_cases h1 : 0 ≤ x.lo
 ·
  refine EL.val (x_geq (r := true) rfl rfl (decide_eq_true (by omega))) rfl ?_
  refine EL.mv rfl rfl (EL.valg rfl rfl (fa_24_0 rfl) rfl (EL.valg rfl rfl (ld_3 rfl (q1.at (j := 0) rfl)) rfl (EL.valg rfl rfl (fa_24_1 rfl) rfl (EL.valg rfl rfl (ld_3 rfl (q1.at (j := 1) rfl)) rfl ?_))))
  by_cases h2 : x.lo ≤ x.hi
  ·
   refine EL.valg rfl rfl (x_leq (r := true) rfl rfl (decide_eq_true (by omega))) rfl ?_
   refine EL.val (x_pick_t rfl rfl) rfl (EL.mv rfl rfl (EL.valg rfl rfl (fa_24_1 rfl) rfl (EL.valg rfl rfl (ld_3 rfl (q1.at (j := 1) rfl)) rfl (EL.valg rfl rfl (x_move rfl) rfl ?_))))
   by_cases h3 : x.hi ≤ 1000000
   ·
    refine EL.valg rfl rfl (x_leq (r := true) rfl rfl (decide_eq_true (by omega))) rfl ?_
    refine EL.val (x_pick_t rfl rfl) rfl (EL.as rfl rfl (EL.nil (EX.seq (EC.ret ?_))))
    exact EX.done (res1 rfl rfl) ⟨by rw [← h]; rw [bdB_iff.2 ⟨h1, h2, h3⟩], hbw⟩
   ·
    refine EL.valg rfl rfl (x_leq (r := false) rfl rfl (decide_eq_false (by omega))) rfl ?_
    refine EL.val (x_pick_t rfl rfl) rfl (EL.as rfl rfl (EL.nil (EX.seq (EC.ret ?_))))
    exact EX.done (res1 rfl rfl) ⟨by rw [← h]; rw [show bdB x = false from Bool.eq_false_iff.2 (fun h => by rw [bdB_iff] at h; omega)], hbw⟩
  ·
   refine EL.valg rfl rfl (x_leq (r := false) rfl rfl (decide_eq_false (by omega))) rfl ?_
   refine EL.val (x_pick_t rfl rfl) rfl (EL.mv rfl rfl (EL.skip rfl rfl rfl rfl (EL.skip rfl rfl rfl rfl (EL.skip rfl rfl rfl rfl (EL.skip rfl rfl rfl rfl (EL.val (x_pick_f rfl rfl) rfl (EL.as rfl rfl (EL.nil (EX.seq ?_)))))))));refine EC.ret ?_
   exact EX.done (res1 rfl rfl) ⟨by rw [← h]; rw [show bdB x = false from Bool.eq_false_iff.2 (fun h => by rw [bdB_iff] at h; omega)], hbw⟩
 ·
  refine EL.val (x_geq (r := false) rfl rfl (decide_eq_false (by omega))) rfl ?_
  refine EL.mv rfl rfl (EL.skip rfl rfl rfl rfl (EL.skip rfl rfl rfl rfl (EL.skip rfl rfl rfl rfl (EL.skip rfl rfl rfl rfl (EL.skip rfl rfl rfl rfl (EL.val (x_pick_f rfl rfl) rfl (EL.mv rfl rfl (EL.skip rfl rfl rfl rfl (EL.skip rfl rfl rfl rfl ?_)))))))));refine EL.skip rfl rfl rfl rfl (EL.skip rfl rfl rfl rfl (EL.val (x_pick_f rfl rfl) rfl (EL.as rfl rfl (EL.nil (EX.seq (EC.ret ?_))))))
  exact EX.done (res1 rfl rfl) ⟨by rw [← h]; rw [show bdB x = false from Bool.eq_false_iff.2 (fun h => by rw [bdB_iff] at h; omega)], hbw⟩
section
variable {tt : List (List Int)} {n : Nat} {m : Int}
theorem sq_no1 (h : tt.length ≠ n) : sqB tt n m = false := by unfold sqB; simp [h]
theorem sq_no2 {i : Nat} (hi : i < n) (h : (tt.getD i []).length ≠ n) : sqB tt n m = false := Bool.eq_false_iff.2 fun e => by
 unfold sqB at e
 rw [Bool.and_eq_true, decide_eq_true_eq] at e;have := List.all_eq_true.1 e.2 (tt.getD i []) (by rw [getD_in (by omega)]; exact List.getElem_mem _)
 rw [Bool.and_eq_true, decide_eq_true_eq] at this
 exact h this.1
theorem sq_no3 {i k : Nat} (hi : i < n) (hk : k < n) (h : inB 0 m ((tt.getD i []).getD k 0) = false) : sqB tt n m = false := Bool.eq_false_iff.2 fun e => by
 unfold sqB at e
 rw [Bool.and_eq_true, decide_eq_true_eq] at e;have := List.all_eq_true.1 e.2 (tt.getD i []) (by rw [getD_in (by omega)]; exact List.getElem_mem _)
 rw [Bool.and_eq_true, decide_eq_true_eq] at this;have h2 := List.all_eq_true.1 this.2 ((tt.getD i []).getD k 0) (by rw [getD_in (show k < (tt.getD i []).length by omega)]; exact List.getElem_mem _)
 rw [h] at h2
 cases h2
theorem sq_row {row : List Int} (hr : row.length = n) (h : ∀ k, k < n → inB 0 m (row.getD k 0) = true) : row.all (inB 0 m) = true := List.all_eq_true.2 fun x hx => by
 obtain ⟨k, hk, rfl⟩ := List.getElem_of_mem hx;have := h k (by omega)
 rwa [getD_in hk] at this
theorem sq_yes (hn : tt.length = n) (h : ∀ i, i < n → (tt.getD i []).length = n ∧ (tt.getD i []).all (inB 0 m) = true) : sqB tt n m = true := by
 unfold sqB
 rw [Bool.and_eq_true, decide_eq_true_eq];refine ⟨hn, List.all_eq_true.2 fun x hx => ?_⟩
 obtain ⟨i, hi, rfl⟩ := List.getElem_of_mem hx;have := h i (by omega)
 rw [getD_in hi] at this;rw [this.2, this.1, Bool.and_true]
 exact decide_eq_true rfl
end
theorem square_to {tt : List (List Int)} {n : Nat} {m : Int} {b : Bool} (h : sqB tt n m = b) {vt : Value} {ut : List Value} {w : World} {B : Nat} (ht : RdLL iC 1 w B vt tt ut) (hB : B ≤ w.heap.size) (htn : tt.length ≤ 1048576) (hnn : n ≤ 1048576) :
  Calls Try.prog 67 #[vt, .int .i64 (n : Nat), .int .i64 m] w fun e w' => e = .returned (.bool b) ∧ Below w.heap.size w w' := by
 obtain ⟨At, ct, rfl, _⟩ := ht.rd.shape;have hbw := Below.refl w.heap.size w;refine EC.enter 40 Try.func67 rfl rfl rfl (EC.seq (EC.region (EL.as rfl rfl (EL.nil (EX.seq (EC.seq (EC.seq (EC.region (EL.mv rfl rfl ?_)))))))));refine EL.val (ln_25 rfl) rfl (EL.mv rfl rfl ?_)
 by_cases hn : tt.length = n
 ·
  refine EL.val (x_neq (r := false) rfl rfl (decide_eq_false (by omega))) rfl ?_
  refine EL.nil (EX.seq (EC.no rfl (EC.skip (EX.seq (EC.seq (EC.seq (EC.region (EL.as rfl rfl (EL.nil ?_)))))))));refine EX.seq (EC.block ?_);refine EC.loopD [6, 7, 8, 13, 14, 15, 16, 17, 18, 19, 20, 21, 22, 23, 24, 25, 26, 27, 28, 29, 30, 31, 32, 33, 34, 35, 36, 37, 38, 39] (fun x : Nat => [(7, .int .i64 (x : Nat))]) (fun x W => x ≤ n ∧ (∀ i, i < x → (tt.getD i []).length = n ∧ (tt.getD i []).all (inB 0 m) = true) ∧ Below w.heap.size w W) (fun x => n - x) 0 ⟨Nat.zero_le _, fun i hi => absurd hi (by omega), hbw⟩ ⟨rfl, trivial⟩ ?_
  clear hbw
  rintro i wx ⟨hi, hall, hbw⟩
  by_cases hlt : i < n
  ·
   have hlt_ : i < tt.length := by omega
   obtain ⟨bt, ot, et, _, htc⟩ := vals_cells ut i (by rw [ht.len]; exact hlt_) wx B _ _ _ (ht.rd.below (hbw.mono hB))
   cases et
   have hrr := (ht.row i hlt_);rw [← ints_flat] at hrr;obtain ⟨Ai, ci, ei, _⟩ := hrr.shape;rw [ei] at htc hrr;refine EC.seq (EC.seq (EC.region (EL.mv rfl rfl (EL.mv rfl rfl ?_))));refine EL.val (x_lss rfl rfl (decide_eq_true (show (((i : Nat) : Int) < ((n : Nat) : Int)) by omega))) rfl ?_
   refine EL.nil (EX.seq (EC.yes rfl (EC.skip (EX.seq (EC.seq (EC.block (EC.seq (EC.seq (EC.region ?_)))))))));refine EL.mv rfl rfl (EL.mv rfl rfl (EL.val (ix_25 rfl rfl hlt_) rfl (EL.val (ld_22 rfl htc) rfl (EL.val (ln_22 rfl) rfl (EL.mv rfl rfl ?_)))))
   by_cases hrow : (tt.getD i []).length = n
   ·
    refine EL.val (x_neq (r := false) rfl rfl (decide_eq_false (by omega))) rfl ?_
    refine EL.nil (EX.seq (EC.no rfl (EC.skip (EX.seq (EC.seq (EC.region (EL.as rfl rfl (EL.nil (EX.seq ?_)))))))));refine EC.block ?_;refine EC.loopD [6, 8, 25, 26, 27, 28, 29, 30, 31, 32, 33, 34, 35, 36, 37, 38, 39] (fun x : Nat => [(8, .int .i64 (x : Nat))]) (fun x W => x ≤ n ∧ (∀ k, k < x → inB 0 m ((tt.getD i []).getD k 0) = true) ∧ Below w.heap.size w W) (fun x => n - x) 0 ⟨Nat.zero_le _, fun k hk => absurd hk (by omega), hbw⟩ ⟨rfl, trivial⟩ ?_
    clear hbw htc
    rintro k wk ⟨hk, hall2, hbw⟩
    by_cases hlt2 : k < n
    ·
     obtain ⟨bt2, ot2, et2, _, htc⟩ := vals_cells ut i (by rw [ht.len]; exact hlt_) wk B _ _ _ (ht.rd.below (hbw.mono hB))
     cases et2
     rw [ei] at htc;obtain ⟨bi, oi, ebi, _, hc0⟩ := ints_cells (tt.getD i []) k (by omega) wk B _ _ _ (hrr.below (hbw.mono hB))
     cases ebi
     refine EC.seq (EC.seq (EC.region (EL.mv rfl rfl (EL.mv rfl rfl ?_))));refine EL.val (x_lss rfl rfl (decide_eq_true (show (((k : Nat) : Int) < ((n : Nat) : Int)) by omega))) rfl ?_
     refine EL.nil (EX.seq (EC.yes rfl (EC.skip (EX.seq (EC.seq (EC.block (EC.seq (EC.region (EL.mv rfl rfl ?_)))))))));refine EL.mv rfl rfl (EL.val (ix_25 rfl rfl hlt_) rfl (EL.val (ld_22 rfl htc) rfl (EL.mv rfl rfl ?_)));refine EL.val (ix_22 rfl rfl (show k < (tt.getD i []).length by omega)) rfl ?_
     refine EL.val (ld_3 rfl hc0) rfl (EL.mv rfl rfl ?_)
     cases hin : inB 0 m ((tt.getD i []).getD k 0)
     ·
      refine EL.call (cl_56 rfl rfl rfl) rfl (in_to hin _) ?_
      rintro e w1 ⟨rfl, hc1⟩
      refine ⟨_, rfl, ?_⟩;replace hbw := bo_ hbw hc1;clear hc1;refine EL.val (x_not rfl) rfl (EL.nil (EX.seq (EC.yes rfl (EC.seq (EC.region (EL.as rfl rfl (EL.nil (EX.seq (EC.ret ?_)))))))));refine EX.blk_ret (EX.seq_ret (EX.seq_ret (EX.blk_ret (EX.blk_ret (EX.seq_ret (EX.seq_ret (EX.blk_ret (EX.seq_ret ?_))))))))
      exact EX.done (res1 rfl rfl) ⟨by rw [← h, sq_no3 hlt hlt2 hin], hbw⟩
     ·
      refine EL.call (cl_56 rfl rfl rfl) rfl (in_to hin _) ?_
      rintro e w2 ⟨rfl, hc2⟩
      refine ⟨_, rfl, ?_⟩;replace hbw := bo_ hbw hc2;clear hc2;refine EL.val (x_not rfl) rfl (EL.nil (EX.seq (EC.no rfl (EC.skip (EX.blk (EX.seq (EC.region (EL.mv rfl rfl ?_))))))));refine EL.val (x_add rfl rfl (c := ((k + 1 : Nat) : Int)) ((IntWalk.i64_in _ ⟨by first | omega | (simp only; omega), by first | omega | (simp only; omega)⟩).trans (by first | omega | (simp only; omega)))) rfl ?_
      refine EL.as rfl rfl (EL.nil ?_);refine EX.roundD (k + 1) ⟨rfl, trivial⟩ (by repeat first | with_reducible exact Sub.refl _ | refine sub_past rfl ?_ | exact Sub.refl _ | refine sub_del rfl ?_ | refine sub_insL_nil ?_) ⟨hlt2, (fun j hj => by rcases Nat.lt_or_ge j k with h0 | h0; exact hall2 j h0; rw [show j = k by omega]; exact hin), hbw⟩ (by omega)
    ·
     have hkn : k = n := by omega
     have hal : (tt.getD i []).all (inB 0 m) = true := sq_row hrow (hkn ▸ hall2);refine EC.seq (EC.seq (EC.region (EL.mv rfl rfl (EL.mv rfl rfl ?_))));refine EL.val (x_lss rfl rfl (decide_eq_false (show ¬(((k : Nat) : Int) < ((n : Nat) : Int)) by omega))) rfl ?_
     refine EL.nil (EX.seq (EC.no rfl (EC.exit (EX.seq_exit (EX.seq_exit (EX.blk_here (EX.blk (EX.seq (EC.region ?_)))))))));refine EL.mv rfl rfl ?_;refine EL.val (x_add rfl rfl (c := ((i + 1 : Nat) : Int)) ((IntWalk.i64_in _ ⟨by first | omega | (simp only; omega), by first | omega | (simp only; omega)⟩).trans (by first | omega | (simp only; omega)))) rfl ?_
     refine EL.as rfl rfl (EL.nil ?_);refine EX.roundD (i + 1) ⟨rfl, trivial⟩ (by repeat first | with_reducible exact Sub.refl _ | refine sub_past rfl ?_ | exact Sub.refl _ | refine sub_del rfl ?_ | refine sub_insL_nil ?_) ⟨hlt, (fun j hj => by rcases Nat.lt_or_ge j i with h0 | h0; exact hall j h0; rw [show j = i by omega]; exact ⟨hrow, hal⟩), hbw⟩ (by omega)
   ·
    refine EL.val (x_neq (r := true) rfl rfl (decide_eq_true (by omega))) rfl ?_
    refine EL.nil (EX.seq (EC.yes rfl (EC.seq (EC.region (EL.as rfl rfl (EL.nil (EX.seq (EC.ret (EX.seq_ret ?_)))))))));refine EX.blk_ret (EX.seq_ret (EX.seq_ret (EX.blk_ret (EX.seq_ret ?_))))
    exact EX.done (res1 rfl rfl) ⟨by rw [← h, sq_no2 hlt hrow], hbw⟩
  ·
   obtain rfl : i = n := by omega
   refine EC.seq (EC.seq (EC.region (EL.mv rfl rfl (EL.mv rfl rfl ?_))));refine EL.val (x_lss rfl rfl (decide_eq_false (show ¬(((i : Nat) : Int) < ((i : Nat) : Int)) by omega))) rfl ?_
   refine EL.nil (EX.seq (EC.no rfl (EC.exit (EX.seq_exit (EX.seq_exit (EX.blk_here (EX.seq (EC.seq (EC.region ?_)))))))));refine EL.as rfl rfl (EL.nil (EX.seq (EC.ret ?_)))
   exact EX.done (res1 rfl rfl) ⟨by rw [← h, sq_yes hn hall], hbw⟩
 ·
  refine EL.val (x_neq (r := true) rfl rfl (decide_eq_true (by omega))) rfl ?_
  refine EL.nil (EX.seq (EC.yes rfl (EC.seq (EC.region (EL.as rfl rfl (EL.nil (EX.seq (EC.ret (EX.seq_ret ?_)))))))))
  exact EX.done (res1 rfl rfl) ⟨by rw [← h, sq_no1 hn], hbw⟩
theorem all_idx {α : Type} {l : List α} {p : α → Bool} {d : α} (h : ∀ i, i < l.length → p (l.getD i d) = true) : l.all p = true := List.all_eq_true.2 fun x hx => by
 obtain ⟨k, hk, rfl⟩ := List.getElem_of_mem hx;have := h k hk
 rwa [getD_in hk] at this
theorem rules_lev {ru : Rules} (h : rulesB ru = true) (i : Nat) (hi : i < ru.levels.length) : inB 0 1000000 (ru.levels.getD i 0) = true := by
 unfold rulesB at h
 simp only [Bool.and_eq_true] at h
 exact List.all_eq_true.1 h.2.1 _ (by rw [getD_in hi]; exact List.getElem_mem _)
theorem rules_kd {ru : Rules} (h : rulesB ru = true) (i : Nat) (hi : i < ru.kinds.length) : kdB (ru.kinds.getD i kd0) = true := by
 unfold rulesB at h
 simp only [Bool.and_eq_true] at h
 exact List.all_eq_true.1 h.2.2.2.2.2.2 _ (by rw [getD_in hi]; exact List.getElem_mem _)
set_option maxHeartbeats 1000000 in
theorem Rules_to {ru : Rules} {ua up : List Value} {vl va vp vk : Value} {w : World} {B : Nat} (hr : RdRules w B vl va vp vk ru ua up) (hB : B ≤ w.heap.size) (hs : Short ru) {b : Bool} (h : rulesB ru = b) :
  Calls Try.prog 35 #[rulesV vl va vp vk ru] w fun e w' => e = .returned (.bool b) ∧ Below w.heap.size w w' := by
 have hs_ := hs;obtain ⟨Al, cl, rfl, _⟩ := hr.levels.shape;obtain ⟨Aa, ca, rfl, _⟩ := hr.allow.rd.shape;obtain ⟨Ap, cp, rfl, _⟩ := hr.apart.rd.shape;obtain ⟨Ak, ck, rfl, _⟩ := hr.kinds.shape;obtain ⟨z1, z2, z3, z4⟩ := hs_;have hbw := Below.refl w.heap.size w
 unfold rulesV
 refine EC.enter 85 Try.func35 rfl rfl rfl (EC.seq (EC.region (EL.newP (bx_28 rfl) rfl ?_)));intro g1 w1 q1 hb1 hg1 hl1;have bhbw_1 := Nat.le_trans hbw.size hg1;replace hbw := bo_ hbw hb1;clear hb1 hg1 hl1;refine EL.as rfl rfl (EL.nil (EX.seq (EC.seq (EC.region (EL.val (fa_28_0 rfl) rfl (EL.val (ld_22 rfl (q1.at (j := 0) rfl)) rfl (EL.val (ln_22 rfl) rfl (EL.as rfl rfl (EL.nil ?_)))))))));refine EX.seq (EC.seq (EC.seq (EC.region (EL.mv rfl rfl ?_))))
 cases gg1 : inB 1 8 (ru.levels.length : Nat)
 ·
  refine EL.call (cl_56 rfl rfl rfl) rfl (in_to gg1 _) ?_
  rintro e w2 ⟨rfl, hc2⟩
  refine ⟨_, rfl, ?_⟩;replace q1 := q1.bl hc2;replace hbw := bo_ hbw hc2;clear hc2;refine EL.val (x_not rfl) rfl (EL.mv rfl rfl (EL.skip rfl rfl rfl rfl (EL.skip rfl rfl rfl rfl (EL.skip rfl rfl rfl rfl (EL.skip rfl rfl rfl rfl (EL.val (x_pick_t rfl rfl) rfl (EL.mv rfl rfl (EL.skip rfl rfl rfl rfl (EL.skip rfl rfl rfl rfl ?_)))))))));refine EL.skip rfl rfl rfl rfl (EL.skip rfl rfl rfl rfl (EL.val (x_pick_t rfl rfl) rfl (EL.mv rfl rfl (EL.skip rfl rfl rfl rfl (EL.skip rfl rfl rfl rfl (EL.skip rfl rfl rfl rfl (EL.skip rfl rfl rfl rfl (EL.skip rfl rfl rfl rfl (EL.val (x_pick_t rfl rfl) rfl ?_)))))))));refine EL.mv rfl rfl (EL.skip rfl rfl rfl rfl (EL.skip rfl rfl rfl rfl (EL.skip rfl rfl rfl rfl (EL.skip rfl rfl rfl rfl (EL.skip rfl rfl rfl rfl (EL.val (x_pick_t rfl rfl) rfl (EL.nil (EX.seq (EC.yes rfl ?_)))))))));refine EC.seq (EC.region (EL.as rfl rfl (EL.nil (EX.seq (EC.ret (EX.seq_ret ?_))))));have hres : rulesB ru = false := by unfold rulesB; rw [gg1]; rfl
  exact EX.done (res1 rfl rfl) ⟨by rw [← h, hres], hbw⟩
 ·
  refine EL.call (cl_56 rfl rfl rfl) rfl (in_to gg1 _) ?_
  rintro e w3 ⟨rfl, hc3⟩
  refine ⟨_, rfl, ?_⟩;replace q1 := q1.bl hc3;replace hbw := bo_ hbw hc3;clear hc3;refine EL.val (x_not rfl) rfl (EL.mv rfl rfl (EL.valg rfl rfl (fa_28_4 rfl) rfl (EL.valg rfl rfl (ld_26 rfl (q1.at (j := 5) rfl)) rfl (EL.valg rfl rfl (ln_26 rfl) rfl ?_))))
  by_cases gg2 : ru.kinds.length ≤ 4
  ·
   refine EL.valg rfl rfl (x_gtr (r := false) rfl rfl (decide_eq_false (by omega))) rfl ?_
   refine EL.val (x_pick_f rfl rfl) rfl (EL.mv rfl rfl (EL.valg rfl rfl (fa_28_1 rfl) rfl (EL.valg rfl rfl (ld_24 rfl (q1.at (j := 1) rfl) (q1.at (j := 2) rfl)) rfl ?_)))
   cases gg3 : bdB ru.fade
   ·
    refine EL.callg rfl rfl (cl_66 rfl rfl) rfl (bounds_to gg3 _) ?_
    rintro e w4 ⟨rfl, hc4⟩
    refine ⟨_, rfl, ?_⟩;replace q1 := q1.bl hc4;replace hbw := bo_ hbw hc4;clear hc4;refine EL.valg rfl rfl (x_not rfl) rfl (EL.val (x_pick_f rfl rfl) rfl (EL.mv rfl rfl (EL.skip rfl rfl rfl rfl (EL.skip rfl rfl rfl rfl (EL.skip rfl rfl rfl rfl (EL.skip rfl rfl rfl rfl (EL.skip rfl rfl rfl rfl (EL.val (x_pick_t rfl rfl) rfl (EL.mv rfl rfl ?_)))))))));refine EL.skip rfl rfl rfl rfl (EL.skip rfl rfl rfl rfl (EL.skip rfl rfl rfl rfl (EL.skip rfl rfl rfl rfl (EL.skip rfl rfl rfl rfl (EL.val (x_pick_t rfl rfl) rfl (EL.nil (EX.seq (EC.yes rfl (EC.seq ?_)))))))));refine EC.region (EL.as rfl rfl (EL.nil (EX.seq (EC.ret (EX.seq_ret ?_)))));have hres : rulesB ru = false := by unfold rulesB; simp [gg3]
    exact EX.done (res1 rfl rfl) ⟨by rw [← h, hres], hbw⟩
   ·
    refine EL.callg rfl rfl (cl_66 rfl rfl) rfl (bounds_to gg3 _) ?_
    rintro e w5 ⟨rfl, hc5⟩
    refine ⟨_, rfl, ?_⟩;replace q1 := q1.bl hc5;replace hbw := bo_ hbw hc5;clear hc5;refine EL.valg rfl rfl (x_not rfl) rfl (EL.val (x_pick_f rfl rfl) rfl (EL.mv rfl rfl (EL.valg rfl rfl (fa_28_2 rfl) rfl (EL.valg rfl rfl (ld_25 rfl (q1.at (j := 3) rfl)) rfl (EL.valg rfl rfl (x_move rfl) rfl ?_)))))
    cases gg4 : sqB ru.allow ru.levels.length 1000000
    ·
     refine EL.callg rfl rfl (cl_67 rfl rfl rfl) rfl (square_to gg4 (hr.below (hbw.mono hB)).allow (Nat.le_trans hB hbw.size) hs.a hs.n) ?_
     rintro e w6 ⟨rfl, hc6⟩
     refine ⟨_, rfl, ?_⟩;replace q1 := q1.bl hc6;replace hbw := bo_ hbw hc6;clear hc6;refine EL.valg rfl rfl (x_not rfl) rfl (EL.val (x_pick_f rfl rfl) rfl (EL.mv rfl rfl (EL.skip rfl rfl rfl rfl (EL.skip rfl rfl rfl rfl (EL.skip rfl rfl rfl rfl (EL.skip rfl rfl rfl rfl (EL.skip rfl rfl rfl rfl (EL.val (x_pick_t rfl rfl) rfl (EL.nil ?_)))))))));refine EX.seq (EC.yes rfl (EC.seq (EC.region (EL.as rfl rfl (EL.nil (EX.seq (EC.ret (EX.seq_ret ?_))))))));have hres : rulesB ru = false := by unfold rulesB; simp [gg4]
     exact EX.done (res1 rfl rfl) ⟨by rw [← h, hres], hbw⟩
    ·
     refine EL.callg rfl rfl (cl_67 rfl rfl rfl) rfl (square_to gg4 (hr.below (hbw.mono hB)).allow (Nat.le_trans hB hbw.size) hs.a hs.n) ?_
     rintro e w7 ⟨rfl, hc7⟩
     refine ⟨_, rfl, ?_⟩;replace q1 := q1.bl hc7;replace hbw := bo_ hbw hc7;clear hc7;refine EL.valg rfl rfl (x_not rfl) rfl (EL.val (x_pick_f rfl rfl) rfl (EL.mv rfl rfl (EL.valg rfl rfl (fa_28_3 rfl) rfl (EL.valg rfl rfl (ld_25 rfl (q1.at (j := 4) rfl)) rfl (EL.valg rfl rfl (x_move rfl) rfl ?_)))))
     cases gg5 : sqB ru.apart ru.levels.length 10
     ·
      refine EL.callg rfl rfl (cl_67 rfl rfl rfl) rfl (square_to gg5 (hr.below (hbw.mono hB)).apart (Nat.le_trans hB hbw.size) hs.p hs.n) ?_
      rintro e w8 ⟨rfl, hc8⟩
      refine ⟨_, rfl, ?_⟩;replace q1 := q1.bl hc8;replace hbw := bo_ hbw hc8;clear hc8;refine EL.valg rfl rfl (x_not rfl) rfl (EL.val (x_pick_f rfl rfl) rfl (EL.nil (EX.seq (EC.yes rfl (EC.seq (EC.region (EL.as rfl rfl (EL.nil (EX.seq ?_)))))))));refine EC.ret (EX.seq_ret ?_);have hres : rulesB ru = false := by unfold rulesB; simp [gg5]
      exact EX.done (res1 rfl rfl) ⟨by rw [← h, hres], hbw⟩
     ·
      refine EL.callg rfl rfl (cl_67 rfl rfl rfl) rfl (square_to gg5 (hr.below (hbw.mono hB)).apart (Nat.le_trans hB hbw.size) hs.p hs.n) ?_
      rintro e w9 ⟨rfl, hc9⟩
      refine ⟨_, rfl, ?_⟩;replace q1 := q1.bl hc9;replace hbw := bo_ hbw hc9;clear hc9;refine EL.valg rfl rfl (x_not rfl) rfl (EL.val (x_pick_f rfl rfl) rfl (EL.nil (EX.seq (EC.no rfl (EC.skip (EX.seq (EC.seq (EC.seq (EC.region ?_)))))))));refine EL.as rfl rfl (EL.nil (EX.seq (EC.block ?_)));refine EC.loopD [2, 4, 39, 40, 41, 42, 43, 44, 45, 46, 47, 48, 49, 50] (fun x : Nat => [(4, .int .i64 (x : Nat))]) (fun x W => x ≤ ru.levels.length ∧ (∀ i, i < x → inB 0 1000000 (ru.levels.getD i 0) = true) ∧ Blk W g1 28 #[.slice Al ru.levels.length cl, .int .i64 ru.fade.lo, .int .i64 ru.fade.hi, .slice Aa ru.allow.length ca, .slice Ap ru.apart.length cp, .slice Ak ru.kinds.length ck] ∧ Below w.heap.size w W) (fun x => ru.levels.length - x) 0 ⟨Nat.zero_le _, fun i hi => absurd hi (by omega), q1, hbw⟩ ⟨rfl, trivial⟩ ?_
      clear q1 hbw
      rintro i wx ⟨hi, hall, q1, hbw⟩
      by_cases hlt : i < ru.levels.length
      ·
       obtain ⟨bl, ol, el, _, hc0⟩ := ints_cells ru.levels i hlt wx B _ _ _ (hr.below (hbw.mono hB)).levels;refine EC.seq (EC.seq (EC.region (EL.mv rfl rfl (EL.mv rfl rfl ?_))));refine EL.val (x_lss rfl rfl (decide_eq_true (show (((i : Nat) : Int) < ((ru.levels.length : Nat) : Int)) by omega))) rfl ?_
       refine EL.nil (EX.seq (EC.yes rfl (EC.skip (EX.seq (EC.seq (EC.block (EC.seq (EC.region (EL.val (fa_28_0 rfl) rfl ?_)))))))));refine EL.val (ld_22 rfl (q1.at (j := 0) rfl)) rfl (EL.mv rfl rfl ?_);refine EL.val (ix_22 (by show some (Value.slice Al _ _) = _; rw [el]) rfl hlt) rfl ?_
       refine EL.val (ld_3 rfl hc0) rfl ?_
       cases hin : inB 0 1000000 (ru.levels.getD i 0)
       ·
        refine EL.call (cl_56 rfl rfl rfl) rfl (in_to hin _) ?_
        rintro e w10 ⟨rfl, hc10⟩
        refine ⟨_, rfl, ?_⟩;replace q1 := q1.bl hc10;replace hbw := bo_ hbw hc10;clear hc10;refine EL.val (x_not rfl) rfl (EL.nil (EX.seq (EC.yes rfl (EC.seq (EC.region (EL.as rfl rfl (EL.nil (EX.seq (EC.ret ?_)))))))));refine EX.blk_ret (EX.seq_ret (EX.seq_ret (EX.blk_ret (EX.seq_ret ?_))));have hres : rulesB ru = false := by exact Bool.eq_false_iff.2 fun e => by have := rules_lev e i hlt; rw [hin] at this; cases this
        exact EX.done (res1 rfl rfl) ⟨by rw [← h, hres], hbw⟩
       ·
        refine EL.call (cl_56 rfl rfl rfl) rfl (in_to hin _) ?_
        rintro e w11 ⟨rfl, hc11⟩
        refine ⟨_, rfl, ?_⟩;replace q1 := q1.bl hc11;replace hbw := bo_ hbw hc11;clear hc11;refine EL.val (x_not rfl) rfl (EL.nil (EX.seq (EC.no rfl (EC.skip (EX.blk (EX.seq (EC.region (EL.mv rfl rfl ?_))))))));refine EL.val (x_add rfl rfl (c := ((i + 1 : Nat) : Int)) ((IntWalk.i64_in _ ⟨by first | omega | (simp only; omega), by first | omega | (simp only; omega)⟩).trans (by first | omega | (simp only; omega)))) rfl ?_
        refine EL.as rfl rfl (EL.nil ?_);refine EX.roundD (i + 1) ⟨rfl, trivial⟩ (by repeat first | with_reducible exact Sub.refl _ | refine sub_past rfl ?_ | exact Sub.refl _ | refine sub_del rfl ?_ | refine sub_insL_nil ?_) ⟨hlt, (fun j hj => by rcases Nat.lt_or_ge j i with h0 | h0; exact hall j h0; rw [show j = i by omega]; exact hin), q1, hbw⟩ (by omega)
      ·
       have hxe : i = ru.levels.length := by omega
       have gg6 : ru.levels.all (inB 0 1000000) = true := sq_row rfl (hxe ▸ hall);refine EC.seq (EC.seq (EC.region (EL.mv rfl rfl (EL.mv rfl rfl ?_))));refine EL.val (x_lss rfl rfl (decide_eq_false (show ¬(((i : Nat) : Int) < ((ru.levels.length : Nat) : Int)) by omega))) rfl ?_
       refine EL.nil (EX.seq (EC.no rfl (EC.exit (EX.seq_exit (EX.seq_exit (EX.blk_here (EX.seq (EC.seq (EC.seq ?_)))))))));refine EC.region (EL.as rfl rfl (EL.nil (EX.seq (EC.block ?_))));refine EC.loopD [2, 5, 6, 51, 52, 53, 54, 55, 56, 57, 58, 59, 60, 61, 62, 63, 64, 65, 66, 67, 68, 69, 70, 71, 72, 73, 74, 75, 76, 77, 78, 79, 80, 81, 82, 83, 84] (fun x : Nat => [(5, .int .i64 (x : Nat))]) (fun x W => x ≤ ru.kinds.length ∧ (∀ i, i < x → kdB (ru.kinds.getD i kd0) = true) ∧ Blk W g1 28 #[.slice Al ru.levels.length cl, .int .i64 ru.fade.lo, .int .i64 ru.fade.hi, .slice Aa ru.allow.length ca, .slice Ap ru.apart.length cp, .slice Ak ru.kinds.length ck] ∧ Below w.heap.size w W) (fun x => ru.kinds.length - x) 0 ⟨Nat.zero_le _, fun i hi => absurd hi (by omega), q1, hbw⟩ ⟨rfl, trivial⟩ ?_
       clear q1 hbw
       rintro k wk ⟨hk, hallk, q1, hbw⟩
       by_cases hltk : k < ru.kinds.length
       ·
        obtain ⟨bk, ok, ek, _, hkd⟩ := kds_cells ru.kinds k hltk wk B _ _ _ (hr.below (hbw.mono hB)).kinds;obtain ⟨kd, ekd⟩ : ∃ z, z = ru.kinds.getD k kd0 := ⟨_, rfl⟩;rw [← ekd] at hkd;refine EC.seq (EC.seq (EC.region (EL.mv rfl rfl (EL.val (fa_28_4 rfl) rfl (EL.val (ld_26 rfl (q1.at (j := 5) rfl)) rfl (EL.val (ln_26 rfl) rfl ?_))))));refine EL.val (x_lss rfl rfl (decide_eq_true (show (((k : Nat) : Int) < ((ru.kinds.length : Nat) : Int)) by omega))) rfl ?_
        refine EL.nil (EX.seq (EC.yes rfl (EC.skip (EX.seq (EC.seq (EC.block (EC.seq (EC.region (EL.val (fa_28_4 rfl) rfl ?_)))))))));refine EL.val (ld_26 rfl (q1.at (j := 5) rfl)) rfl (EL.mv rfl rfl ?_);refine EL.val (ix_26 (by show some (Value.slice Ak _ _) = _; rw [ek]) rfl hltk) rfl ?_
        refine EL.val (ld_52 rfl hkd.c0 hkd.c1 hkd.c2 hkd.c3 hkd.c4) rfl (EL.newP al_52 rfl ?_);intro g12 w12 q12 hb12 hg12 hl12;have n1_12 := q1.na hg12;have bhbw_12 := Nat.le_trans hbw.size hg12;replace q1 := q1.bl hb12;replace hbw := bo_ hbw hb12;clear hb12 hg12 hl12;refine EL.store rfl rfl q12 sz_52 rfl rfl rfl rfl ?_;intro w13 hq13 hg13;replace q1 := q1.gr hg13 n1_12;replace hbw := below_store hbw hg13 bhbw_12;replace q12 := hq13;clear hg13 hq13;refine EL.nil (EX.seq (EC.seq (EC.region (EL.val (fa_52_0 rfl) rfl (EL.val (ld_24 rfl (q12.at (j := 0) rfl) (q12.at (j := 1) rfl)) rfl ?_)))))
        cases k1 : bdB kd.power
        ·
         refine EL.call (cl_66 rfl rfl) rfl (bounds_to k1 _) ?_
         rintro e w14 ⟨rfl, hc14⟩
         refine ⟨_, rfl, ?_⟩;replace q1 := q1.bl hc14;replace q12 := q12.bl hc14;replace hbw := bo_ hbw hc14;clear hc14;refine EL.val (x_not rfl) rfl (EL.mv rfl rfl (EL.skip rfl rfl rfl rfl (EL.skip rfl rfl rfl rfl (EL.skip rfl rfl rfl rfl (EL.skip rfl rfl rfl rfl (EL.val (x_pick_t rfl rfl) rfl (EL.mv rfl rfl (EL.skip rfl rfl rfl rfl (EL.skip rfl rfl rfl rfl ?_)))))))));refine EL.skip rfl rfl rfl rfl (EL.skip rfl rfl rfl rfl (EL.val (x_pick_t rfl rfl) rfl (EL.mv rfl rfl (EL.skip rfl rfl rfl rfl (EL.skip rfl rfl rfl rfl (EL.skip rfl rfl rfl rfl (EL.skip rfl rfl rfl rfl (EL.val (x_pick_t rfl rfl) rfl (EL.nil ?_)))))))));refine EX.seq (EC.yes rfl (EC.seq (EC.region (EL.as rfl rfl (EL.nil (EX.seq (EC.ret (EX.blk_ret (EX.seq_ret ?_)))))))));refine EX.seq_ret (EX.blk_ret (EX.seq_ret ?_));have hres : rulesB ru = false := by exact Bool.eq_false_iff.2 fun e => by have := rules_kd e k hltk; rw [← ekd] at this; simp_all [kdB]
         exact EX.done (res1 rfl rfl) ⟨by rw [← h, hres], hbw⟩
        ·
         refine EL.call (cl_66 rfl rfl) rfl (bounds_to k1 _) ?_
         rintro e w15 ⟨rfl, hc15⟩
         refine ⟨_, rfl, ?_⟩;replace q1 := q1.bl hc15;replace q12 := q12.bl hc15;replace hbw := bo_ hbw hc15;clear hc15;refine EL.val (x_not rfl) rfl (EL.mv rfl rfl (EL.valg rfl rfl (fa_52_1 rfl) rfl (EL.valg rfl rfl (ld_3 rfl (q12.at (j := 2) rfl)) rfl ?_)))
         cases k2 : inB 0 10000 kd.mins
         ·
          refine EL.callg rfl rfl (cl_56 rfl rfl rfl) rfl (in_to k2 _) ?_
          rintro e w16 ⟨rfl, hc16⟩
          refine ⟨_, rfl, ?_⟩;replace q1 := q1.bl hc16;replace q12 := q12.bl hc16;replace hbw := bo_ hbw hc16;clear hc16;refine EL.valg rfl rfl (x_not rfl) rfl (EL.val (x_pick_f rfl rfl) rfl (EL.mv rfl rfl (EL.skip rfl rfl rfl rfl (EL.skip rfl rfl rfl rfl (EL.skip rfl rfl rfl rfl (EL.skip rfl rfl rfl rfl (EL.val (x_pick_t rfl rfl) rfl (EL.mv rfl rfl (EL.skip rfl rfl rfl rfl ?_)))))))));refine EL.skip rfl rfl rfl rfl (EL.skip rfl rfl rfl rfl (EL.skip rfl rfl rfl rfl (EL.val (x_pick_t rfl rfl) rfl (EL.nil (EX.seq (EC.yes rfl (EC.seq (EC.region (EL.as rfl rfl ?_)))))))));refine EL.nil (EX.seq (EC.ret (EX.blk_ret (EX.seq_ret (EX.seq_ret (EX.blk_ret (EX.seq_ret ?_)))))));have hres : rulesB ru = false := by exact Bool.eq_false_iff.2 fun e => by have := rules_kd e k hltk; rw [← ekd] at this; simp_all [kdB]
          exact EX.done (res1 rfl rfl) ⟨by rw [← h, hres], hbw⟩
         ·
          refine EL.callg rfl rfl (cl_56 rfl rfl rfl) rfl (in_to k2 _) ?_
          rintro e w17 ⟨rfl, hc17⟩
          refine ⟨_, rfl, ?_⟩;replace q1 := q1.bl hc17;replace q12 := q12.bl hc17;replace hbw := bo_ hbw hc17;clear hc17;refine EL.valg rfl rfl (x_not rfl) rfl (EL.val (x_pick_f rfl rfl) rfl (EL.mv rfl rfl (EL.valg rfl rfl (fa_52_2 rfl) rfl (EL.valg rfl rfl (ld_3 rfl (q12.at (j := 3) rfl)) rfl ?_))))
          cases k3 : inB 0 10000 kd.water
          ·
           refine EL.callg rfl rfl (cl_56 rfl rfl rfl) rfl (in_to k3 _) ?_
           rintro e w18 ⟨rfl, hc18⟩
           refine ⟨_, rfl, ?_⟩;replace q1 := q1.bl hc18;replace q12 := q12.bl hc18;replace hbw := bo_ hbw hc18;clear hc18;refine EL.valg rfl rfl (x_not rfl) rfl (EL.val (x_pick_f rfl rfl) rfl (EL.mv rfl rfl (EL.skip rfl rfl rfl rfl (EL.skip rfl rfl rfl rfl (EL.skip rfl rfl rfl rfl (EL.skip rfl rfl rfl rfl (EL.val (x_pick_t rfl rfl) rfl (EL.nil (EX.seq ?_)))))))));refine EC.yes rfl (EC.seq (EC.region (EL.as rfl rfl (EL.nil (EX.seq (EC.ret (EX.blk_ret (EX.seq_ret (EX.seq_ret ?_)))))))));refine EX.blk_ret (EX.seq_ret ?_);have hres : rulesB ru = false := by exact Bool.eq_false_iff.2 fun e => by have := rules_kd e k hltk; rw [← ekd] at this; simp_all [kdB]
           exact EX.done (res1 rfl rfl) ⟨by rw [← h, hres], hbw⟩
          ·
           refine EL.callg rfl rfl (cl_56 rfl rfl rfl) rfl (in_to k3 _) ?_
           rintro e w19 ⟨rfl, hc19⟩
           refine ⟨_, rfl, ?_⟩;replace q1 := q1.bl hc19;replace q12 := q12.bl hc19;replace hbw := bo_ hbw hc19;clear hc19;refine EL.valg rfl rfl (x_not rfl) rfl (EL.val (x_pick_f rfl rfl) rfl (EL.mv rfl rfl (EL.valg rfl rfl (fa_52_3 rfl) rfl (EL.valg rfl rfl (ld_3 rfl (q12.at (j := 4) rfl)) rfl ?_))))
           cases k4 : inB 0 100000000 kd.cost
           ·
            refine EL.callg rfl rfl (cl_56 rfl rfl rfl) rfl (in_to k4 _) ?_
            rintro e w20 ⟨rfl, hc20⟩
            refine ⟨_, rfl, ?_⟩;replace q1 := q1.bl hc20;replace q12 := q12.bl hc20;replace hbw := bo_ hbw hc20;clear hc20;refine EL.valg rfl rfl (x_not rfl) rfl (EL.val (x_pick_f rfl rfl) rfl (EL.nil (EX.seq (EC.yes rfl (EC.seq (EC.region (EL.as rfl rfl (EL.nil (EX.seq ?_)))))))));refine EC.ret (EX.blk_ret (EX.seq_ret (EX.seq_ret (EX.blk_ret (EX.seq_ret ?_)))));have hres : rulesB ru = false := by exact Bool.eq_false_iff.2 fun e => by have := rules_kd e k hltk; rw [← ekd] at this; simp_all [kdB]
            exact EX.done (res1 rfl rfl) ⟨by rw [← h, hres], hbw⟩
           ·
            refine EL.callg rfl rfl (cl_56 rfl rfl rfl) rfl (in_to k4 _) ?_
            rintro e w21 ⟨rfl, hc21⟩
            refine ⟨_, rfl, ?_⟩;replace q1 := q1.bl hc21;replace q12 := q12.bl hc21;replace hbw := bo_ hbw hc21;clear hc21;refine EL.valg rfl rfl (x_not rfl) rfl (EL.val (x_pick_f rfl rfl) rfl (EL.nil (EX.seq (EC.no rfl (EC.skip (EX.blk (EX.seq (EC.region (EL.mv rfl rfl ?_)))))))));refine EL.val (x_add rfl rfl (c := ((k + 1 : Nat) : Int)) ((IntWalk.i64_in _ ⟨by first | omega | (simp only; omega), by first | omega | (simp only; omega)⟩).trans (by first | omega | (simp only; omega)))) rfl ?_
            refine EL.as rfl rfl (EL.nil ?_);refine EX.roundD (k + 1) ⟨rfl, trivial⟩ (by repeat first | with_reducible exact Sub.refl _ | refine sub_past rfl ?_ | exact Sub.refl _ | refine sub_del rfl ?_ | refine sub_insL_nil ?_) ⟨hltk, (fun j hj => by rcases Nat.lt_or_ge j k with h0 | h0; exact hallk j h0; rw [show j = k by omega, ← ekd]; simp [kdB, k1, k2, k3, k4]), q1, hbw⟩ (by omega)
       ·
        have hxk : k = ru.kinds.length := by omega
        have gg7 : ru.kinds.all kdB = true := all_idx (hxk ▸ hallk);refine EC.seq (EC.seq (EC.region (EL.mv rfl rfl (EL.val (fa_28_4 rfl) rfl (EL.val (ld_26 rfl (q1.at (j := 5) rfl)) rfl (EL.val (ln_26 rfl) rfl ?_))))));refine EL.val (x_lss rfl rfl (decide_eq_false (show ¬(((k : Nat) : Int) < ((ru.kinds.length : Nat) : Int)) by omega))) rfl ?_
        refine EL.nil (EX.seq (EC.no rfl (EC.exit (EX.seq_exit (EX.seq_exit (EX.blk_here (EX.seq (EC.seq (EC.region ?_)))))))));refine EL.as rfl rfl (EL.nil (EX.seq (EC.ret ?_)));have hres : rulesB ru = true := by unfold rulesB; simp [gg1, gg2, gg3, gg4, gg5, gg6, gg7]
        exact EX.done (res1 rfl rfl) ⟨by rw [← h, hres], hbw⟩
  ·
   refine EL.valg rfl rfl (x_gtr (r := true) rfl rfl (decide_eq_true (by omega))) rfl ?_
   refine EL.val (x_pick_f rfl rfl) rfl (EL.mv rfl rfl (EL.skip rfl rfl rfl rfl (EL.skip rfl rfl rfl rfl (EL.skip rfl rfl rfl rfl (EL.skip rfl rfl rfl rfl (EL.val (x_pick_t rfl rfl) rfl (EL.mv rfl rfl (EL.skip rfl rfl rfl rfl (EL.skip rfl rfl rfl rfl ?_)))))))));refine EL.skip rfl rfl rfl rfl (EL.skip rfl rfl rfl rfl (EL.skip rfl rfl rfl rfl (EL.val (x_pick_t rfl rfl) rfl (EL.mv rfl rfl (EL.skip rfl rfl rfl rfl (EL.skip rfl rfl rfl rfl (EL.skip rfl rfl rfl rfl (EL.skip rfl rfl rfl rfl (EL.skip rfl rfl rfl rfl ?_)))))))));refine EL.val (x_pick_t rfl rfl) rfl (EL.nil (EX.seq (EC.yes rfl (EC.seq (EC.region (EL.as rfl rfl (EL.nil (EX.seq (EC.ret ?_)))))))));refine EX.seq_ret ?_;have hres : rulesB ru = false := by unfold rulesB; simp [gg2]
   exact EX.done (res1 rfl rfl) ⟨by rw [← h, hres], hbw⟩
set_option maxHeartbeats 1000000 in
theorem History_any {ru : Rules} {ua up : List Value} {vl va vp vk : Value} {w : World} {B : Nat} (hr : RdRules w B vl va vp vk ru ua up) (hB : B ≤ w.heap.size) (hs : Short ru) {l : List Ev} {v : Value} (hl : Rd w B 2 v l.length (evsC l)) (hn : l.length ≤ 1048576) :
  Calls Try.prog 53 #[rulesV vl va vp vk ru, v] w fun e w' => e = .returned (.int .i64 (histE ru l)) ∧ Below w.heap.size w w' := by
 have hs_ := hs;obtain ⟨Al, cl, rfl, _⟩ := hr.levels.shape;obtain ⟨Aa, ca, rfl, _⟩ := hr.allow.rd.shape;obtain ⟨Ap, cp, rfl, _⟩ := hr.apart.rd.shape;obtain ⟨Ak, ck, rfl, _⟩ := hr.kinds.shape;obtain ⟨Ae, ce, rfl, _⟩ := hl.shape;obtain ⟨z1, z2, z3, z4⟩ := hs_;have hbw := Below.refl w.heap.size w
 unfold rulesV
 refine EC.enter 55 Try.func53 rfl rfl rfl (EC.seq (EC.region (EL.newP (bx_28 rfl) rfl ?_)));intro g1 w1 q1 hb1 hg1 hl1;have bhbw_1 := Nat.le_trans hbw.size hg1;replace hbw := bo_ hbw hb1;clear hb1 hg1 hl1;refine EL.as rfl rfl (EL.nil (EX.seq (EC.seq (EC.seq (EC.region (EL.mv rfl rfl (EL.val (ln_29 rfl) rfl ?_)))))))
 by_cases hl100 : 100 < l.length
 ·
  refine EL.val (x_gtr (r := true) rfl rfl (decide_eq_true (by omega))) rfl ?_
  refine EL.nil (EX.seq (EC.yes rfl (EC.seq (EC.region (EL.as rfl rfl (EL.nil (EX.seq (EC.ret (EX.seq_ret ?_)))))))));have hres : histE ru l = 5 := by unfold histE; rw [if_pos hl100]
  exact EX.done (res1 rfl rfl) ⟨by rw [hres], hbw⟩
 ·
  refine EL.val (x_gtr (r := false) rfl rfl (decide_eq_false (by omega))) rfl ?_
  refine EL.nil (EX.seq (EC.no rfl (EC.skip (EX.seq (EC.seq (EC.seq (EC.region (EL.as rfl rfl (EL.nil ?_)))))))));refine EX.seq (EC.block ?_);refine EC.loopD [4, 5, 9, 10, 11, 12, 13, 14, 15, 16, 17, 18, 19, 20, 21, 22, 23, 24, 25, 26, 27, 28, 29, 30, 31, 32, 33, 34, 35, 36, 37, 38, 39, 40, 41, 42, 43, 44, 45, 46, 47, 48, 49, 50, 51, 52, 53, 54] (fun x : Nat => [(5, .int .i64 (x : Nat))]) (fun x W => x ≤ l.length ∧ (∀ i, i < x → evB ru (l.getD i ev0) = true) ∧ Blk W g1 28 #[.slice Al ru.levels.length cl, .int .i64 ru.fade.lo, .int .i64 ru.fade.hi, .slice Aa ru.allow.length ca, .slice Ap ru.apart.length cp, .slice Ak ru.kinds.length ck] ∧ Below w.heap.size w W) (fun x => l.length - x) 0 ⟨Nat.zero_le _, fun i hi => absurd hi (by omega), q1, hbw⟩ ⟨rfl, trivial⟩ ?_
  clear q1 hbw
  rintro i wx ⟨hi, hall, q1, hbw⟩
  by_cases hlt : i < l.length
  ·
   obtain ⟨be, oe, ee, _, c0, c1⟩ := evs_cells l i hlt wx B _ _ _ (hl.below (hbw.mono hB))
   cases ee
   obtain ⟨ev, eev⟩ : ∃ z, z = l.getD i ev0 := ⟨_, rfl⟩;rw [← eev] at c0 c1
   by_cases k1 : ev.kind = 1
   ·
    cases h1 : inB 0 ((ru.levels.length : Nat) - 1 : Int) ev.number
    ·
     refine EC.seq (EC.seq (EC.region (EL.mv rfl rfl (EL.mv rfl rfl (EL.val (ln_29 rfl) rfl ?_)))));refine EL.val (x_lss rfl rfl (decide_eq_true (show (((i : Nat) : Int) < ((l.length : Nat) : Int)) by omega))) rfl ?_
     refine EL.nil (EX.seq (EC.yes rfl (EC.skip (EX.seq (EC.seq (EC.block (EC.seq ?_)))))));refine EC.regionQ (by kernel_rfl) (by kernel_rfl) ?_
     refine EQ.val (fun _ hw => (x_move rfl)) rfl ?_
     refine EQ.val (fun _ hw => (x_move rfl)) rfl ?_
     refine EQ.val (fun _ hw => (ix_29 rfl rfl hlt)) rfl ?_
     refine EQ.val (fun _ hw => (fa_50_0 rfl)) rfl ?_
     refine EQ.val (fun _ hw => (ld_48 rfl (below_load hw c0))) rfl ?_
     refine EQ.val (fun _ hw => (x_eql (r := true) rfl rfl (decide_eq_true k1))) rfl ?_
     refine EQ.val (fun _ hw => (x_move rfl)) rfl ?_
     refine EQ.valg rfl rfl (fun _ hw => (x_move rfl)) rfl ?_
     refine EQ.valg rfl rfl (fun _ hw => (x_move rfl)) rfl ?_
     refine EQ.valg rfl rfl (fun _ hw => (ix_29 rfl rfl hlt)) rfl ?_
     refine EQ.valg rfl rfl (fun _ hw => (fa_50_1 rfl)) rfl ?_
     refine EQ.valg rfl rfl (fun _ hw => (ld_3 rfl (below_load hw c1))) rfl ?_
     refine EQ.valg rfl rfl (fun _ hw => (fa_28_0 rfl)) rfl ?_
     refine EQ.valg rfl rfl (fun _ hw => (ld_22 rfl (below_load hw (q1.at (j := 0) rfl)))) rfl ?_
     refine EQ.valg rfl rfl (fun _ hw => (ln_22 rfl)) rfl ?_
     refine EQ.valg rfl rfl (fun _ hw => (x_sub rfl rfl (c := (ru.levels.length : Nat) - 1) (IntWalk.i64_in _ ⟨by omega, by omega⟩))) rfl ?_
     refine EQ.callg rfl rfl (fun _ _ _ ha => cl_56 rfl rfl rfl _ ha) rfl (fun W hw => (in_to h1 W).mono fun e w' h => ⟨h.1, hw.trans (h.2.mono hw.size)⟩) ?_
     refine EQ.val (fun _ hw => (x_pick_t rfl rfl)) rfl ?_
     refine EQ.val (fun _ hw => (x_not rfl)) rfl ?_
     refine EQ.val (fun _ hw => (x_move rfl)) rfl ?_
     refine EQ.valg rfl rfl (fun _ hw => (x_move rfl)) rfl ?_
     refine EQ.valg rfl rfl (fun _ hw => (x_move rfl)) rfl ?_
     refine EQ.valg rfl rfl (fun _ hw => (ix_29 rfl rfl hlt)) rfl ?_
     refine EQ.valg rfl rfl (fun _ hw => (fa_50_0 rfl)) rfl ?_
     refine EQ.valg rfl rfl (fun _ hw => (ld_48 rfl (below_load hw c0))) rfl ?_
     refine EQ.valg rfl rfl (fun _ hw => (x_eql (r := false) rfl rfl (decide_eq_false (by omega)))) rfl ?_
     refine EQ.valg rfl rfl (fun _ hw => (x_move rfl)) rfl ?_
     refine EQ.skip rfl rfl rfl rfl (EQ.skip rfl rfl rfl rfl (EQ.skip rfl rfl rfl rfl (EQ.skip rfl rfl rfl rfl (EQ.skip rfl rfl rfl rfl (EQ.skip rfl rfl rfl rfl (EQ.skip rfl rfl rfl rfl (EQ.skip rfl rfl rfl rfl (EQ.skip rfl rfl rfl rfl (EQ.skip rfl rfl rfl rfl ?_)))))))));refine EQ.valg rfl rfl (fun _ hw => (x_pick_f rfl rfl)) rfl ?_
     refine EQ.valg rfl rfl (fun _ hw => (x_not rfl)) rfl ?_
     refine EQ.val (fun _ hw => (x_pick_t rfl rfl)) rfl ?_
     refine EQ.fin (fun w2 hw_ => ?_)
     replace q1 := q1.bl hw_;replace hbw := bo_ hbw hw_;clear hw_;refine EX.seq (EC.yes rfl (EC.seq (EC.region (EL.as rfl rfl (EL.nil (EX.seq (EC.ret (EX.blk_ret (EX.seq_ret ?_)))))))));refine EX.seq_ret (EX.blk_ret (EX.seq_ret ?_));have hres : histE ru l = 2 := by unfold histE; rw [if_neg hl100, if_neg (fun ha => by have e := List.all_eq_true.1 ha ev (by rw [eev, getD_in hlt]; exact List.getElem_mem _); unfold evB at e; rw [h1] at e; simp at e; omega)]
     exact EX.done (res1 rfl rfl) ⟨by rw [hres], hbw⟩
    ·
     refine EC.seq (EC.seq (EC.region (EL.mv rfl rfl (EL.mv rfl rfl (EL.val (ln_29 rfl) rfl ?_)))));refine EL.val (x_lss rfl rfl (decide_eq_true (show (((i : Nat) : Int) < ((l.length : Nat) : Int)) by omega))) rfl ?_
     refine EL.nil (EX.seq (EC.yes rfl (EC.skip (EX.seq (EC.seq (EC.block (EC.seq ?_)))))));refine EC.regionQ (by kernel_rfl) (by kernel_rfl) ?_
     refine EQ.val (fun _ hw => (x_move rfl)) rfl ?_
     refine EQ.val (fun _ hw => (x_move rfl)) rfl ?_
     refine EQ.val (fun _ hw => (ix_29 rfl rfl hlt)) rfl ?_
     refine EQ.val (fun _ hw => (fa_50_0 rfl)) rfl ?_
     refine EQ.val (fun _ hw => (ld_48 rfl (below_load hw c0))) rfl ?_
     refine EQ.val (fun _ hw => (x_eql (r := true) rfl rfl (decide_eq_true k1))) rfl ?_
     refine EQ.val (fun _ hw => (x_move rfl)) rfl ?_
     refine EQ.valg rfl rfl (fun _ hw => (x_move rfl)) rfl ?_
     refine EQ.valg rfl rfl (fun _ hw => (x_move rfl)) rfl ?_
     refine EQ.valg rfl rfl (fun _ hw => (ix_29 rfl rfl hlt)) rfl ?_
     refine EQ.valg rfl rfl (fun _ hw => (fa_50_1 rfl)) rfl ?_
     refine EQ.valg rfl rfl (fun _ hw => (ld_3 rfl (below_load hw c1))) rfl ?_
     refine EQ.valg rfl rfl (fun _ hw => (fa_28_0 rfl)) rfl ?_
     refine EQ.valg rfl rfl (fun _ hw => (ld_22 rfl (below_load hw (q1.at (j := 0) rfl)))) rfl ?_
     refine EQ.valg rfl rfl (fun _ hw => (ln_22 rfl)) rfl ?_
     refine EQ.valg rfl rfl (fun _ hw => (x_sub rfl rfl (c := (ru.levels.length : Nat) - 1) (IntWalk.i64_in _ ⟨by omega, by omega⟩))) rfl ?_
     refine EQ.callg rfl rfl (fun _ _ _ ha => cl_56 rfl rfl rfl _ ha) rfl (fun W hw => (in_to h1 W).mono fun e w' h => ⟨h.1, hw.trans (h.2.mono hw.size)⟩) ?_
     refine EQ.val (fun _ hw => (x_pick_t rfl rfl)) rfl ?_
     refine EQ.val (fun _ hw => (x_not rfl)) rfl ?_
     refine EQ.val (fun _ hw => (x_move rfl)) rfl ?_
     refine EQ.skip rfl rfl rfl rfl (EQ.skip rfl rfl rfl rfl (EQ.skip rfl rfl rfl rfl (EQ.skip rfl rfl rfl rfl (EQ.skip rfl rfl rfl rfl (EQ.skip rfl rfl rfl rfl (EQ.skip rfl rfl rfl rfl (EQ.skip rfl rfl rfl rfl (EQ.skip rfl rfl rfl rfl (EQ.skip rfl rfl rfl rfl ?_)))))))));refine EQ.skip rfl rfl rfl rfl (EQ.skip rfl rfl rfl rfl (EQ.skip rfl rfl rfl rfl (EQ.skip rfl rfl rfl rfl (EQ.skip rfl rfl rfl rfl (EQ.skip rfl rfl rfl rfl (EQ.skip rfl rfl rfl rfl (EQ.skip rfl rfl rfl rfl (EQ.skip rfl rfl rfl rfl ?_))))))));refine EQ.val (fun _ hw => (x_pick_f rfl rfl)) rfl ?_
     refine EQ.fin (fun w3 hw_ => ?_)
     replace q1 := q1.bl hw_;replace hbw := bo_ hbw hw_;clear hw_;refine EX.seq (EC.no rfl (EC.skip (EX.blk (EX.seq (EC.region (EL.mv rfl rfl ?_))))));refine EL.val (x_add rfl rfl (c := ((i + 1 : Nat) : Int)) ((IntWalk.i64_in _ ⟨by first | omega | (simp only; omega), by first | omega | (simp only; omega)⟩).trans (by first | omega | (simp only; omega)))) rfl ?_
     refine EL.as rfl rfl (EL.nil ?_);have hev : evB ru ev = true := by unfold evB; rw [h1, decide_eq_true k1]; rfl
     refine EX.roundD (i + 1) ⟨rfl, trivial⟩ (by repeat first | with_reducible exact Sub.refl _ | refine sub_past rfl ?_ | exact Sub.refl _ | refine sub_del rfl ?_ | refine sub_insL_nil ?_) ⟨hlt, (fun j hj => by rcases Nat.lt_or_ge j i with h0 | h0; exact hall j h0; rw [show j = i by omega, ← eev]; exact hev), q1, hbw⟩ (by omega)
   ·
    by_cases k2 : ev.kind = 2
    ·
     cases h2 : inB 0 ((ru.kinds.length : Nat) - 1 : Int) ev.number
     ·
      refine EC.seq (EC.seq (EC.region (EL.mv rfl rfl (EL.mv rfl rfl (EL.val (ln_29 rfl) rfl ?_)))));refine EL.val (x_lss rfl rfl (decide_eq_true (show (((i : Nat) : Int) < ((l.length : Nat) : Int)) by omega))) rfl ?_
      refine EL.nil (EX.seq (EC.yes rfl (EC.skip (EX.seq (EC.seq (EC.block (EC.seq ?_)))))));refine EC.regionQ (by kernel_rfl) (by kernel_rfl) ?_
      refine EQ.val (fun _ hw => (x_move rfl)) rfl ?_
      refine EQ.val (fun _ hw => (x_move rfl)) rfl ?_
      refine EQ.val (fun _ hw => (ix_29 rfl rfl hlt)) rfl ?_
      refine EQ.val (fun _ hw => (fa_50_0 rfl)) rfl ?_
      refine EQ.val (fun _ hw => (ld_48 rfl (below_load hw c0))) rfl ?_
      refine EQ.val (fun _ hw => (x_eql (r := false) rfl rfl (decide_eq_false k1))) rfl ?_
      refine EQ.val (fun _ hw => (x_move rfl)) rfl ?_
      refine EQ.skip rfl rfl rfl rfl (EQ.skip rfl rfl rfl rfl (EQ.skip rfl rfl rfl rfl (EQ.skip rfl rfl rfl rfl (EQ.skip rfl rfl rfl rfl (EQ.skip rfl rfl rfl rfl (EQ.skip rfl rfl rfl rfl (EQ.skip rfl rfl rfl rfl (EQ.skip rfl rfl rfl rfl (EQ.skip rfl rfl rfl rfl ?_)))))))));refine EQ.val (fun _ hw => (x_pick_f rfl rfl)) rfl ?_
      refine EQ.val (fun _ hw => (x_not rfl)) rfl ?_
      refine EQ.val (fun _ hw => (x_move rfl)) rfl ?_
      refine EQ.valg rfl rfl (fun _ hw => (x_move rfl)) rfl ?_
      refine EQ.valg rfl rfl (fun _ hw => (x_move rfl)) rfl ?_
      refine EQ.valg rfl rfl (fun _ hw => (ix_29 rfl rfl hlt)) rfl ?_
      refine EQ.valg rfl rfl (fun _ hw => (fa_50_0 rfl)) rfl ?_
      refine EQ.valg rfl rfl (fun _ hw => (ld_48 rfl (below_load hw c0))) rfl ?_
      refine EQ.valg rfl rfl (fun _ hw => (x_eql (r := true) rfl rfl (decide_eq_true k2))) rfl ?_
      refine EQ.valg rfl rfl (fun _ hw => (x_move rfl)) rfl ?_
      refine EQ.valg rfl rfl (fun _ hw => (x_move rfl)) rfl ?_
      refine EQ.valg rfl rfl (fun _ hw => (x_move rfl)) rfl ?_
      refine EQ.valg rfl rfl (fun _ hw => (ix_29 rfl rfl hlt)) rfl ?_
      refine EQ.valg rfl rfl (fun _ hw => (fa_50_1 rfl)) rfl ?_
      refine EQ.valg rfl rfl (fun _ hw => (ld_3 rfl (below_load hw c1))) rfl ?_
      refine EQ.valg rfl rfl (fun _ hw => (fa_28_4 rfl)) rfl ?_
      refine EQ.valg rfl rfl (fun _ hw => (ld_26 rfl (below_load hw (q1.at (j := 5) rfl)))) rfl ?_
      refine EQ.valg rfl rfl (fun _ hw => (ln_26 rfl)) rfl ?_
      refine EQ.valg rfl rfl (fun _ hw => (x_sub rfl rfl (c := (ru.kinds.length : Nat) - 1) (IntWalk.i64_in _ ⟨by omega, by omega⟩))) rfl ?_
      refine EQ.callg rfl rfl (fun _ _ _ ha => cl_56 rfl rfl rfl _ ha) rfl (fun W hw => (in_to h2 W).mono fun e w' h => ⟨h.1, hw.trans (h.2.mono hw.size)⟩) ?_
      refine EQ.valg rfl rfl (fun _ hw => (x_pick_t rfl rfl)) rfl ?_
      refine EQ.valg rfl rfl (fun _ hw => (x_not rfl)) rfl ?_
      refine EQ.val (fun _ hw => (x_pick_t rfl rfl)) rfl ?_
      refine EQ.fin (fun w4 hw_ => ?_)
      replace q1 := q1.bl hw_;replace hbw := bo_ hbw hw_;clear hw_;refine EX.seq (EC.yes rfl (EC.seq (EC.region (EL.as rfl rfl (EL.nil (EX.seq (EC.ret (EX.blk_ret (EX.seq_ret ?_)))))))));refine EX.seq_ret (EX.blk_ret (EX.seq_ret ?_));have hres : histE ru l = 2 := by unfold histE; rw [if_neg hl100, if_neg (fun ha => by have e := List.all_eq_true.1 ha ev (by rw [eev, getD_in hlt]; exact List.getElem_mem _); unfold evB at e; rw [h2] at e; simp at e; omega)]
      exact EX.done (res1 rfl rfl) ⟨by rw [hres], hbw⟩
     ·
      refine EC.seq (EC.seq (EC.region (EL.mv rfl rfl (EL.mv rfl rfl (EL.val (ln_29 rfl) rfl ?_)))));refine EL.val (x_lss rfl rfl (decide_eq_true (show (((i : Nat) : Int) < ((l.length : Nat) : Int)) by omega))) rfl ?_
      refine EL.nil (EX.seq (EC.yes rfl (EC.skip (EX.seq (EC.seq (EC.block (EC.seq ?_)))))));refine EC.regionQ (by kernel_rfl) (by kernel_rfl) ?_
      refine EQ.val (fun _ hw => (x_move rfl)) rfl ?_
      refine EQ.val (fun _ hw => (x_move rfl)) rfl ?_
      refine EQ.val (fun _ hw => (ix_29 rfl rfl hlt)) rfl ?_
      refine EQ.val (fun _ hw => (fa_50_0 rfl)) rfl ?_
      refine EQ.val (fun _ hw => (ld_48 rfl (below_load hw c0))) rfl ?_
      refine EQ.val (fun _ hw => (x_eql (r := false) rfl rfl (decide_eq_false k1))) rfl ?_
      refine EQ.val (fun _ hw => (x_move rfl)) rfl ?_
      refine EQ.skip rfl rfl rfl rfl (EQ.skip rfl rfl rfl rfl (EQ.skip rfl rfl rfl rfl (EQ.skip rfl rfl rfl rfl (EQ.skip rfl rfl rfl rfl (EQ.skip rfl rfl rfl rfl (EQ.skip rfl rfl rfl rfl (EQ.skip rfl rfl rfl rfl (EQ.skip rfl rfl rfl rfl (EQ.skip rfl rfl rfl rfl ?_)))))))));refine EQ.val (fun _ hw => (x_pick_f rfl rfl)) rfl ?_
      refine EQ.val (fun _ hw => (x_not rfl)) rfl ?_
      refine EQ.val (fun _ hw => (x_move rfl)) rfl ?_
      refine EQ.valg rfl rfl (fun _ hw => (x_move rfl)) rfl ?_
      refine EQ.valg rfl rfl (fun _ hw => (x_move rfl)) rfl ?_
      refine EQ.valg rfl rfl (fun _ hw => (ix_29 rfl rfl hlt)) rfl ?_
      refine EQ.valg rfl rfl (fun _ hw => (fa_50_0 rfl)) rfl ?_
      refine EQ.valg rfl rfl (fun _ hw => (ld_48 rfl (below_load hw c0))) rfl ?_
      refine EQ.valg rfl rfl (fun _ hw => (x_eql (r := true) rfl rfl (decide_eq_true k2))) rfl ?_
      refine EQ.valg rfl rfl (fun _ hw => (x_move rfl)) rfl ?_
      refine EQ.valg rfl rfl (fun _ hw => (x_move rfl)) rfl ?_
      refine EQ.valg rfl rfl (fun _ hw => (x_move rfl)) rfl ?_
      refine EQ.valg rfl rfl (fun _ hw => (ix_29 rfl rfl hlt)) rfl ?_
      refine EQ.valg rfl rfl (fun _ hw => (fa_50_1 rfl)) rfl ?_
      refine EQ.valg rfl rfl (fun _ hw => (ld_3 rfl (below_load hw c1))) rfl ?_
      refine EQ.valg rfl rfl (fun _ hw => (fa_28_4 rfl)) rfl ?_
      refine EQ.valg rfl rfl (fun _ hw => (ld_26 rfl (below_load hw (q1.at (j := 5) rfl)))) rfl ?_
      refine EQ.valg rfl rfl (fun _ hw => (ln_26 rfl)) rfl ?_
      refine EQ.valg rfl rfl (fun _ hw => (x_sub rfl rfl (c := (ru.kinds.length : Nat) - 1) (IntWalk.i64_in _ ⟨by omega, by omega⟩))) rfl ?_
      refine EQ.callg rfl rfl (fun _ _ _ ha => cl_56 rfl rfl rfl _ ha) rfl (fun W hw => (in_to h2 W).mono fun e w' h => ⟨h.1, hw.trans (h.2.mono hw.size)⟩) ?_
      refine EQ.valg rfl rfl (fun _ hw => (x_pick_t rfl rfl)) rfl ?_
      refine EQ.valg rfl rfl (fun _ hw => (x_not rfl)) rfl ?_
      refine EQ.val (fun _ hw => (x_pick_t rfl rfl)) rfl ?_
      refine EQ.fin (fun w5 hw_ => ?_)
      replace q1 := q1.bl hw_;replace hbw := bo_ hbw hw_;clear hw_;refine EX.seq (EC.no rfl (EC.skip (EX.blk (EX.seq (EC.region (EL.mv rfl rfl ?_))))));refine EL.val (x_add rfl rfl (c := ((i + 1 : Nat) : Int)) ((IntWalk.i64_in _ ⟨by first | omega | (simp only; omega), by first | omega | (simp only; omega)⟩).trans (by first | omega | (simp only; omega)))) rfl ?_
      refine EL.as rfl rfl (EL.nil ?_);have hev : evB ru ev = true := by unfold evB; rw [h2, decide_eq_true k2]; simp
      refine EX.roundD (i + 1) ⟨rfl, trivial⟩ (by repeat first | with_reducible exact Sub.refl _ | refine sub_past rfl ?_ | exact Sub.refl _ | refine sub_del rfl ?_ | refine sub_insL_nil ?_) ⟨hlt, (fun j hj => by rcases Nat.lt_or_ge j i with h0 | h0; exact hall j h0; rw [show j = i by omega, ← eev]; exact hev), q1, hbw⟩ (by omega)
    ·
     refine EC.seq (EC.seq (EC.region (EL.mv rfl rfl (EL.mv rfl rfl (EL.val (ln_29 rfl) rfl ?_)))));refine EL.val (x_lss rfl rfl (decide_eq_true (show (((i : Nat) : Int) < ((l.length : Nat) : Int)) by omega))) rfl ?_
     refine EL.nil (EX.seq (EC.yes rfl (EC.skip (EX.seq (EC.seq (EC.block (EC.seq ?_)))))));refine EC.regionQ (by kernel_rfl) (by kernel_rfl) ?_
     refine EQ.val (fun _ hw => (x_move rfl)) rfl ?_
     refine EQ.val (fun _ hw => (x_move rfl)) rfl ?_
     refine EQ.val (fun _ hw => (ix_29 rfl rfl hlt)) rfl ?_
     refine EQ.val (fun _ hw => (fa_50_0 rfl)) rfl ?_
     refine EQ.val (fun _ hw => (ld_48 rfl (below_load hw c0))) rfl ?_
     refine EQ.val (fun _ hw => (x_eql (r := false) rfl rfl (decide_eq_false k1))) rfl ?_
     refine EQ.val (fun _ hw => (x_move rfl)) rfl ?_
     refine EQ.skip rfl rfl rfl rfl (EQ.skip rfl rfl rfl rfl (EQ.skip rfl rfl rfl rfl (EQ.skip rfl rfl rfl rfl (EQ.skip rfl rfl rfl rfl (EQ.skip rfl rfl rfl rfl (EQ.skip rfl rfl rfl rfl (EQ.skip rfl rfl rfl rfl (EQ.skip rfl rfl rfl rfl (EQ.skip rfl rfl rfl rfl ?_)))))))));refine EQ.val (fun _ hw => (x_pick_f rfl rfl)) rfl ?_
     refine EQ.val (fun _ hw => (x_not rfl)) rfl ?_
     refine EQ.val (fun _ hw => (x_move rfl)) rfl ?_
     refine EQ.valg rfl rfl (fun _ hw => (x_move rfl)) rfl ?_
     refine EQ.valg rfl rfl (fun _ hw => (x_move rfl)) rfl ?_
     refine EQ.valg rfl rfl (fun _ hw => (ix_29 rfl rfl hlt)) rfl ?_
     refine EQ.valg rfl rfl (fun _ hw => (fa_50_0 rfl)) rfl ?_
     refine EQ.valg rfl rfl (fun _ hw => (ld_48 rfl (below_load hw c0))) rfl ?_
     refine EQ.valg rfl rfl (fun _ hw => (x_eql (r := false) rfl rfl (decide_eq_false (by omega)))) rfl ?_
     refine EQ.valg rfl rfl (fun _ hw => (x_move rfl)) rfl ?_
     refine EQ.skip rfl rfl rfl rfl (EQ.skip rfl rfl rfl rfl (EQ.skip rfl rfl rfl rfl (EQ.skip rfl rfl rfl rfl (EQ.skip rfl rfl rfl rfl (EQ.skip rfl rfl rfl rfl (EQ.skip rfl rfl rfl rfl (EQ.skip rfl rfl rfl rfl (EQ.skip rfl rfl rfl rfl (EQ.skip rfl rfl rfl rfl ?_)))))))));refine EQ.valg rfl rfl (fun _ hw => (x_pick_f rfl rfl)) rfl ?_
     refine EQ.valg rfl rfl (fun _ hw => (x_not rfl)) rfl ?_
     refine EQ.val (fun _ hw => (x_pick_t rfl rfl)) rfl ?_
     refine EQ.fin (fun w6 hw_ => ?_)
     replace q1 := q1.bl hw_;replace hbw := bo_ hbw hw_;clear hw_;refine EX.seq (EC.yes rfl (EC.seq (EC.region (EL.as rfl rfl (EL.nil (EX.seq (EC.ret (EX.blk_ret (EX.seq_ret ?_)))))))));refine EX.seq_ret (EX.blk_ret (EX.seq_ret ?_));have hres : histE ru l = 2 := by unfold histE; rw [if_neg hl100, if_neg (fun ha => by have e := List.all_eq_true.1 ha ev (by rw [eev, getD_in hlt]; exact List.getElem_mem _); unfold evB at e; simp at e; omega)]
     exact EX.done (res1 rfl rfl) ⟨by rw [hres], hbw⟩
  ·
   have hxe : i = l.length := by omega
   refine EC.seq (EC.seq (EC.region (EL.mv rfl rfl (EL.mv rfl rfl (EL.val (ln_29 rfl) rfl ?_)))));refine EL.val (x_lss rfl rfl (decide_eq_false (show ¬(((i : Nat) : Int) < ((l.length : Nat) : Int)) by omega))) rfl ?_
   refine EL.nil (EX.seq (EC.no rfl (EC.exit (EX.seq_exit (EX.seq_exit (EX.blk_here (EX.seq (EC.seq (EC.region ?_)))))))));refine EL.as rfl rfl (EL.nil (EX.seq (EC.ret ?_)));have hres : histE ru l = 0 := by unfold histE; rw [if_neg hl100, if_pos (all_idx (d := ev0) (hxe ▸ hall))]
   exact EX.done (res1 rfl rfl) ⟨by rw [hres], hbw⟩
section
variable {n : Nat} {σ : Sg} {w : World} {dst : Option Tmp} {ty : TypeId} {pos : String} {af : Array Edge} {g : Option (Nat × Bool)} {x y z : Operand} {at' : Array TypeId}
theorem al_62 (a : Act) (_ : Env n σ a) : (execOp a.eval ⟨dst, .alloc 62, ty, pos, af, g⟩).run Try.prog w = .ok (.value (.pointer (some ⟨w.heap.size, 0, none⟩))) (w.alloc (.cells #[.slice none 0 0, .slice none 0 0] 62)) := by
 simp only [execOp]
 simp [go_sem]
theorem bd_62_    : Gives Try.prog n σ w ⟨dst, .build 62 #[], ty, pos, af, g⟩ (.agg #[.slice none 0 0, .slice none 0 0]) := fun a _ => by
 simp only [execOp, List.map_toArray, List.map_nil]
 go_simp
theorem sz_62 : (Try.prog.info? 62).map (·.size) = some 2 := by kernel_rfl
theorem fa_62_0 {b o : Nat} (hx : evS σ x = some (.pointer (some ⟨b, o, none⟩))) : Gives Try.prog n σ w ⟨dst, .fieldAddr 62 x 0, ty, pos, af, g⟩ (.pointer (some ⟨b, o, none⟩)) := fun a ha => by
 simp only [execOp, ha.eval hx]
 simp [go_sem]
theorem ld_60 {b o : Nat} {v0 : Value} (hx : evS σ x = some (.pointer (some ⟨b, o, none⟩))) (c0 : w.cell? ⟨b, o, none⟩ = some v0) : Gives Try.prog n σ w ⟨dst, .load 60 x, ty, pos, af, g⟩ (v0) := fun a ha => by
 simp only [execOp, ha.eval hx]
 simp [go_sem, c0]
theorem bd_24_    : Gives Try.prog n σ w ⟨dst, .build 24 #[], ty, pos, af, g⟩ (.agg #[.int .i64 0, .int .i64 0]) := fun a _ => by
 simp only [execOp, List.map_toArray, List.map_nil]
 go_simp
theorem fa_62_1 {b o : Nat} (hx : evS σ x = some (.pointer (some ⟨b, o, none⟩))) : Gives Try.prog n σ w ⟨dst, .fieldAddr 62 x 1, ty, pos, af, g⟩ (.pointer (some ⟨b, o + 1, none⟩)) := fun a ha => by
 simp only [execOp, ha.eval hx]
 simp [go_sem]
theorem sz_60 : (Try.prog.info? 60).map (·.size) = some 1 := by kernel_rfl
theorem sz_22 : (Try.prog.info? 22).map (·.size) = some 1 := by kernel_rfl
theorem ld_62 {b o : Nat} {v0 v1 : Value} (hx : evS σ x = some (.pointer (some ⟨b, o, none⟩))) (c0 : w.cell? ⟨b, o, none⟩ = some v0) (c1 : w.cell? ⟨b, o + 1, none⟩ = some v1) : Gives Try.prog n σ w ⟨dst, .load 62 x, ty, pos, af, g⟩ (.agg #[v0, v1]) := fun a ha => by
 simp only [execOp, ha.eval hx]
 simp [go_sem, c0, c1]
theorem lv_62 {b o : Nat} {v0 v1 : Value} (c0 : w.cell? ⟨b, o, none⟩ = some v0) (c1 : w.cell? ⟨b, o + 1, none⟩ = some v1) : (loadVar 62 ⟨b, o, none⟩).run Try.prog w = .ok (.agg #[v0, v1]) w := by
 simp [go_sem, loadVar, c0, c1]
theorem al_24 (a : Act) (_ : Env n σ a) : (execOp a.eval ⟨dst, .alloc 24, ty, pos, af, g⟩).run Try.prog w = .ok (.value (.pointer (some ⟨w.heap.size, 0, none⟩))) (w.alloc (.cells #[.int .i64 0, .int .i64 0] 24)) := by
 simp only [execOp]
 simp [go_sem]
theorem sz_24 : (Try.prog.info? 24).map (·.size) = some 2 := by kernel_rfl
theorem lv_24 {b o : Nat} {v0 v1 : Value} (c0 : w.cell? ⟨b, o, none⟩ = some v0) (c1 : w.cell? ⟨b, o + 1, none⟩ = some v1) : (loadVar 24 ⟨b, o, none⟩).run Try.prog w = .ok (.agg #[v0, v1]) w := by
 simp [go_sem, loadVar, c0, c1]
theorem bx_62 {v0 v1 : Value} (hx : evS σ x = some (.agg #[v0, v1])) (a : Act) (ha : Env n σ a) : (execOp a.eval ⟨dst, .box 62 x, ty, pos, af, g⟩).run Try.prog w = .ok (.value (.pointer (some ⟨w.heap.size, 0, none⟩))) (w.alloc (.cells #[v0, v1] 62)) := by
 simp only [execOp, ha.eval hx]
 simp [go_sem]
theorem ix_60 {b o m c k : Nat} (hx : evS σ x = some (.slice (some ⟨b, o, none⟩) m c)) (hy : evS σ y = some (.int .i64 (k : Int))) (hk : k < m) : Gives Try.prog n σ w ⟨dst, .indexAddr 60 x y, ty, pos, af, g⟩ (.pointer (some ⟨b, o + k * 2, none⟩)) := fun a ha => by
 have k0 : (0 : Int) ≤ (k : Int) := Int.natCast_nonneg _;have k1 : (k : Int) < (m : Int) := by omega
 simp only [execOp, ha.eval hx, ha.eval hy]
 simp [go_sem, k0, k1]
theorem ln_60 {A : Option Addr} {m c : Nat} (hx : evS σ x = some (.slice A m c)) : Gives Try.prog n σ w ⟨dst, .call { callee := .builtin .len, args := #[x], argTypes := #[60] }, ty, pos, af, g⟩ (.int .i64 (m : Int)) := fun a ha => by
 simp only [execOp, resolve, List.map_toArray, List.map_cons, List.map_nil, ha.eval hx]
 simp [go_sem]
theorem cl_81 {x0 x1 : Operand} {v0 v1 : Value} (h0 : evS σ x0 = some v0) (h1 : evS σ x1 = some v1) (a : Act) (ha : Env n σ a) : (execOp a.eval ⟨dst, .call { callee := .value (.func 81), args := #[x0, x1], argTypes := at' }, ty, pos, af, g⟩).run Try.prog w = .ok (.enter 81 #[v0, v1]) w := by
 simp only [execOp, resolve, List.map_toArray, List.map_cons, List.map_nil, ha.eval h0, ha.eval h1]
 simp [go_sem, Act.eval]
theorem cl_57 {x0 : Operand} {v0 : Value} (h0 : evS σ x0 = some v0) (a : Act) (ha : Env n σ a) : (execOp a.eval ⟨dst, .call { callee := .value (.func 57), args := #[x0], argTypes := at' }, ty, pos, af, g⟩).run Try.prog w = .ok (.enter 57 #[v0]) w := by
 simp only [execOp, resolve, List.map_toArray, List.map_cons, List.map_nil, ha.eval h0]
 simp [go_sem, Act.eval]
theorem cl_58 {x0 x1 x2 : Operand} {v0 v1 v2 : Value} (h0 : evS σ x0 = some v0) (h1 : evS σ x1 = some v1) (h2 : evS σ x2 = some v2) (a : Act) (ha : Env n σ a) : (execOp a.eval ⟨dst, .call { callee := .value (.func 58), args := #[x0, x1, x2], argTypes := at' }, ty, pos, af, g⟩).run Try.prog w = .ok (.enter 58 #[v0, v1, v2]) w := by
 simp only [execOp, resolve, List.map_toArray, List.map_cons, List.map_nil, ha.eval h0, ha.eval h1, ha.eval h2]
 simp [go_sem, Act.eval]
end
theorem rep_bd {i : Nat} : bdsC (List.replicate (i + 1) bd0) = bdsC (List.replicate i bd0) ++ [.int .i64 0, .int .i64 0] := by
 unfold bdsC
 rw [List.replicate_succ', List.flatMap_append]
 rfl
theorem rep_int {i : Nat} : ints (List.replicate (i + 1) (-1)) = ints (List.replicate i (-1)) ++ [.int .i64 (-1)] := by
 unfold ints
 rw [List.replicate_succ', List.map_append]
 rfl
theorem own_cast' {w : World} {base e size n m : Nat} {A : Option Addr} {c : Nat} {xs xs' : List Value} (h : w.ownsRow base e size (.slice A n c) n xs) (hn : n = m) (hx : xs = xs') : w.ownsRow base e size (.slice A m c) m xs' := by subst hn; subst hx; exact h
set_option maxHeartbeats 1000000 in
theorem Clean_any {ru : Rules} {ua up : List Value} {vl va vp vk : Value} {w : World} {B : Nat} (hr : RdRules w B vl va vp vk ru ua up) (hB : B ≤ w.heap.size) (hro : RulesOk ru) :
  Calls Try.prog 57 #[rulesV vl va vp vk ru] w fun e w' => (∃ A1 c1 A2 c2, e = .returned (.agg #[.slice A1 ru.levels.length c1, .slice A2 ru.levels.length c2]) ∧ w'.ownsRow w.heap.size 24 2 (.slice A1 ru.levels.length c1) ru.levels.length (bdsC (cleanR ru.levels.length).res) ∧ w'.ownsRow w.heap.size 3 1 (.slice A2 ru.levels.length c2) ru.levels.length (ints (cleanR ru.levels.length).aft)) ∧ Below w.heap.size w w' := by
 obtain ⟨Al, cl, rfl, _⟩ := hr.levels.shape;obtain ⟨Aa, ca, rfl, _⟩ := hr.allow.rd.shape;obtain ⟨Ap, cp, rfl, _⟩ := hr.apart.rd.shape;obtain ⟨Ak, ck, rfl, _⟩ := hr.kinds.shape;have hn8 := hro.n8;have hbw := Below.refl w.heap.size w
 unfold rulesV
 refine EC.enter 25 Try.func57 rfl rfl rfl (EC.seq (EC.region (EL.newP (bx_28 rfl) rfl ?_)));intro g1 w1 q1 hb1 hg1 hl1;have bhbw_1 := Nat.le_trans hbw.size hg1;replace hbw := bo_ hbw hb1;clear hb1 hg1 hl1;refine EL.newP al_62 rfl ?_;intro g2 w2 q2 hb2 hg2 hl2;have n1_2 := q1.na hg2;have bhbw_2 := Nat.le_trans hbw.size hg2;replace q1 := q1.bl hb2;replace hbw := bo_ hbw hb2;clear hb2 hg2 hl2;refine EL.nil (EX.seq (EC.seq (EC.region (EL.val (bd_62_) rfl (EL.newP al_62 rfl ?_)))));intro g3 w3 q3 hb3 hg3 hl3;have n1_3 := q1.na hg3;have n2_3 := q2.na hg3;have bhbw_3 := Nat.le_trans hbw.size hg3;replace q1 := q1.bl hb3;replace q2 := q2.bl hb3;replace hbw := bo_ hbw hb3;clear hb3 hg3 hl3;refine EL.store rfl rfl q3 sz_62 rfl rfl rfl rfl ?_;intro w4 hq4 hg4;replace q1 := q1.gr hg4 n1_3;replace q2 := q2.gr hg4 n2_3;replace hbw := below_store hbw hg4 bhbw_3;replace q3 := hq4;clear hg4 hq4;refine EL.nil (EX.seq (EC.seq (EC.seq (EC.region (EL.as rfl rfl (EL.nil (EX.seq (EC.block ?_))))))));refine EC.loopD [4, 6, 7, 8, 9, 10, 11, 12, 13, 14, 15, 16, 17, 18, 19, 20, 21, 22, 23] (fun x : Nat × Option Addr × Nat × Option Addr × Nat => [(4, .int .i64 (x.1 : Nat))]) (fun x W => x.1 ≤ ru.levels.length ∧ Blk W g1 28 #[.slice Al ru.levels.length cl, .int .i64 ru.fade.lo, .int .i64 ru.fade.hi, .slice Aa ru.allow.length ca, .slice Ap ru.apart.length cp, .slice Ak ru.kinds.length ck] ∧ Blk W g2 62 #[.slice none 0 0, .slice none 0 0] ∧ Blk W g3 62 #[.slice x.2.1 x.1 x.2.2.1, .slice x.2.2.2.1 x.1 x.2.2.2.2] ∧ W.ownsRow w.heap.size 24 2 (.slice x.2.1 x.1 x.2.2.1) x.1 (bdsC (List.replicate x.1 bd0)) ∧ W.ownsRow w.heap.size 3 1 (.slice x.2.2.2.1 x.1 x.2.2.2.2) x.1 (ints (List.replicate x.1 (-1))) ∧ Below w.heap.size w W) (fun x => ru.levels.length - x.1) (0, none, 0, none, 0) ⟨Nat.zero_le _, q1, q2, q3, World.ownsRow_nil _ _ _ _, World.ownsRow_nil _ _ _ _, hbw⟩ ⟨rfl, trivial⟩ ?_
 clear q1 q2 q3 hbw
 rintro ⟨i, A1, c1, A2, c2⟩ wx ⟨hi, q1, q2, q3, ho1, ho2, hbw⟩
 dsimp only at hi ho1 ho2 q3
 by_cases hlt : i < ru.levels.length
 ·
  refine EC.seq (EC.seq (EC.region (EL.mv rfl rfl (EL.val (fa_28_0 rfl) rfl (EL.val (ld_22 rfl (q1.at (j := 0) rfl)) rfl (EL.val (ln_22 rfl) rfl ?_))))));refine EL.val (x_lss rfl rfl (decide_eq_true (show (((i : Nat) : Int) < ((ru.levels.length : Nat) : Int)) by omega))) rfl ?_
  refine EL.nil (EX.seq (EC.yes rfl (EC.skip (EX.seq (EC.seq (EC.block ?_))))));have hCW := hbw.size;refine EC.regionS [[], [0], [], [2], [0, 1, 2, 3], [], [5], [], [0, 1, 2, 3, 4, 5, 6, 7], [0, 1, 2, 3, 4, 5, 6], [0, 1, 2, 3, 4, 5, 6, 7, 8, 9], [0, 1, 2, 3, 4, 5, 6, 7, 8, 9, 10], [0, 1, 2, 3, 4, 5, 6, 7, 8, 9, 10, 11]] 10 [] [4, 8] (fun fl w_ => Kp w.heap.size [24, 3] wx w_ ∧ (fl 4 = false → w_.ownsRow w.heap.size 24 2 (.slice A1 i c1) i (bdsC (List.replicate i bd0))) ∧ (fl 8 = false → w_.ownsRow w.heap.size 3 1 (.slice A2 i c2) i (ints (List.replicate i (-1))))) (phiS (fun i_ r => match i_ with | 0 => r 0 = .pointer (some ⟨g3, 0, none⟩) | 1 => r 1 = .slice A1 i c1 | 2 => r 2 = .agg #[.int .i64 0, .int .i64 0] | 5 => r 5 = .pointer (some ⟨g3, 1, none⟩) | 6 => r 6 = .slice A2 i c2 | 9 => r 9 = .pointer (some ⟨g3, 0, none⟩) | _ => True) [(3, fun fl r w_ => fl 4 = false → (∃ g_, r 3 = .slice (some ⟨g_, 0, none⟩) 1 1 ∧ Blk w_ g_ 24 #[.int .i64 0, .int .i64 0] ∧ wx.heap.size ≤ g_)), (4, fun _ r w_ => ∃ A c, r 4 = .slice A (i + 1) c ∧ w_.ownsRow w.heap.size 24 2 (.slice A (i + 1) c) (i + 1) ((bdsC (List.replicate i bd0)) ++ [.int .i64 0, .int .i64 0])), (7, fun fl r w_ => fl 8 = false → (∃ g_, r 7 = .slice (some ⟨g_, 0, none⟩) 1 1 ∧ Blk w_ g_ 3 #[.int .i64 (-1)] ∧ wx.heap.size ≤ g_)), (8, fun _ r w_ => ∃ A c, r 8 = .slice A (i + 1) c ∧ w_.ownsRow w.heap.size 3 1 (.slice A (i + 1) c) (i + 1) ((ints (List.replicate i (-1))) ++ [.int .i64 (-1)]))]) (by kernel_rfl) rfl rfl (by intro i hi; simp at hi; rcases hi with rfl | rfl <;> exact ⟨by simp, by omega⟩) ⟨fun _ _ => ⟨⟨rfl, rfl, rfl, Nat.le_refl _, fun _ _ => rfl, fun _ _ _ h _ => h⟩, fun _ => ho1, fun _ => ho2⟩, fun _ _ _ ⟨hK, h1, h2⟩ hb => ⟨hK.trans (Kp.of_below hb (Nat.le_trans hCW hK.size)), fun h => own_below (h1 h) hb (Nat.le_refl _), fun h => own_below (h2 h) hb (Nat.le_refl _)⟩, fun _ _ h => h.1.size⟩ (phiS_cons (monoS_till mono_bs) (phiS_cons (monoS_cp (f := fun A c => .slice A (i + 1) c)) (phiS_cons (monoS_till mono_bs) (phiS_cons (monoS_cp (f := fun A c => .slice A (i + 1) c)) (phiS_nil))))) (fun i_ hi_ hs_ => ?_) (fun i_ hi_ => ?_) ?_
  ·match i_, hi_ with
   | 0, _ =>
    intro val fl w1 a hb ha hd hfl;obtain ⟨hK, h1, h2⟩ := hb;have ha := ha.s0 (d := 3) rfl
    exact ss_val ha rfl rfl (fa_62_0 rfl) rfl rfl
   | 1, _ =>
    intro val fl w1 a hb ha hd hfl;obtain ⟨hK, h1, h2⟩ := hb;have e0 : val 0 = .pointer (some ⟨g3, 0, none⟩) := hd 0 (memB_mem.1 rfl);have ha := ha.s1 (d := 13) rfl e0
    exact ss_val ha rfl rfl (ld_60 rfl ((hK.blk _ _ _ q3 rfl).at (j := 0) rfl)) rfl rfl
   | 2, _ =>
    intro val fl w1 a hb ha hd hfl;obtain ⟨hK, h1, h2⟩ := hb;have ha := ha.sub (Sub.nil _)
    exact ss_val ha rfl rfl (bd_24_) rfl rfl
   | 3, _ =>
    intro val fl w1 a hb ha hd hfl;obtain ⟨hK, h1, h2⟩ := hb;have e2 : val 2 = .agg #[.int .i64 0, .int .i64 0] := hd 2 (memB_mem.1 rfl);have ha := ha.s1 (d := 15) rfl e2
    exact ss_newS ha rfl rfl (bs_60_1 rfl) rfl (fun g w' hq _ hge => fun _ => ⟨g, rfl, hq, Nat.le_trans hK.size hge⟩)
   | 4, _ =>
    exact absurd (by simp) hs_
   | 5, _ =>
    intro val fl w1 a hb ha hd hfl;obtain ⟨hK, h1, h2⟩ := hb;have ha := ha.s0 (d := 3) rfl
    exact ss_val ha rfl rfl (fa_62_1 rfl) rfl rfl
   | 6, _ =>
    intro val fl w1 a hb ha hd hfl;obtain ⟨hK, h1, h2⟩ := hb;have e5 : val 5 = .pointer (some ⟨g3, 1, none⟩) := hd 5 (memB_mem.1 rfl);have ha := ha.s1 (d := 18) rfl e5
    exact ss_val ha rfl rfl (ld_22 rfl ((hK.blk _ _ _ q3 rfl).at (j := 1) rfl)) rfl rfl
   | 7, _ =>
    intro val fl w1 a hb ha hd hfl;obtain ⟨hK, h1, h2⟩ := hb;have ha := ha.sub (Sub.nil _)
    exact ss_newS ha rfl rfl (bs_22_1 rfl) rfl (fun g w' hq _ hge => fun _ => ⟨g, rfl, hq, Nat.le_trans hK.size hge⟩)
   | 8, _ =>
    exact absurd (by simp) hs_
   | 9, _ =>
    intro val fl w1 a hb ha hd hfl;obtain ⟨hK, h1, h2⟩ := hb;have ha := ha.s0 (d := 3) rfl
    exact ss_val ha rfl rfl (fa_62_0 rfl) rfl rfl
   | k + 10, h => exact absurd h (by omega)
  ·simp only [List.mem_cons, List.not_mem_nil, or_false] at hi_; rcases hi_ with rfl | rfl
   ·
    intro val fl w1 a hb hfi ha hd hfl;obtain ⟨hK, h1, h2⟩ := hb;have e1 : val 1 = .slice A1 i c1 := hd 1 (memB_mem.1 rfl);obtain ⟨g3_, e3, q3_, h3_⟩ := hd 3 (memB_mem.1 rfl) hfi;change val 3 = _ at e3;have ha := ha.s2 (d := 16) (e := 14) rfl e3 rfl e1;refine ts_push bdR_elem ha rfl rfl rfl (h1 hfi) (rd_one (l := [.int .i64 0, .int .i64 0]) q3_ rfl) (by intro u hu; simp only [List.mem_cons, List.not_mem_nil, or_false] at hu; rcases hu with rfl | rfl <;> rfl) (by omega) rfl (Nat.le_trans hCW hK.size) ?_
    intro v' w' ho' hgr hat;obtain ⟨A', c', rfl, _⟩ := (Rd.of_own ho').shape;refine ⟨_, rfl, hgr.size, ⟨hK.trans (Kp.own (h1 hfi) rfl (Nat.le_refl _) (Nat.le_trans hCW hK.size) hgr), (fun h => by rw [fset_eq] at h; cases h), fun h => own_grown (h2 (by rwa [fset_ne rfl] at h)) (h1 hfi) rfl hgr⟩, ⟨A', c', rfl, ho'⟩, fun j _ hj hn hA => ?_⟩
    exact phiS_cons_st (C := fun j => j ≠ 4 ∧ 4 ∉ clsAt [[], [0], [], [2], [0, 1, 2, 3], [], [5], [], [0, 1, 2, 3, 4, 5, 6, 7], [0, 1, 2, 3, 4, 5, 6], [0, 1, 2, 3, 4, 5, 6, 7, 8, 9], [0, 1, 2, 3, 4, 5, 6, 7, 8, 9, 10], [0, 1, 2, 3, 4, 5, 6, 7, 8, 9, 10, 11]] j) (fun _ _ h => by rw [fset_eq] at h; cases h) (phiS_cons_st (C := fun j => j ≠ 4 ∧ 4 ∉ clsAt [[], [0], [], [2], [0, 1, 2, 3], [], [5], [], [0, 1, 2, 3, 4, 5, 6, 7], [0, 1, 2, 3, 4, 5, 6], [0, 1, 2, 3, 4, 5, 6, 7, 8, 9], [0, 1, 2, 3, 4, 5, 6, 7, 8, 9, 10], [0, 1, 2, 3, 4, 5, 6, 7, 8, 9, 10, 11]] j) (fun hc => absurd rfl hc.1) (phiS_cons_st (C := fun j => j ≠ 4 ∧ 4 ∉ clsAt [[], [0], [], [2], [0, 1, 2, 3], [], [5], [], [0, 1, 2, 3, 4, 5, 6, 7], [0, 1, 2, 3, 4, 5, 6], [0, 1, 2, 3, 4, 5, 6, 7, 8, 9], [0, 1, 2, 3, 4, 5, 6, 7, 8, 9, 10], [0, 1, 2, 3, 4, 5, 6, 7, 8, 9, 10, 11]] j) (fun _ hh h => let ⟨g, a1, a2, a3⟩ := hh (by rwa [fset_ne rfl] at h); ⟨g, a1, blk_grown a2 (h1 hfi) rfl hgr, a3⟩) (phiS_cons_st (C := fun j => j ≠ 4 ∧ 4 ∉ clsAt [[], [0], [], [2], [0, 1, 2, 3], [], [5], [], [0, 1, 2, 3, 4, 5, 6, 7], [0, 1, 2, 3, 4, 5, 6], [0, 1, 2, 3, 4, 5, 6, 7, 8, 9], [0, 1, 2, 3, 4, 5, 6, 7, 8, 9, 10], [0, 1, 2, 3, 4, 5, 6, 7, 8, 9, 10, 11]] j) (fun hc => absurd (memB_mem.1 rfl) hc.2) (fun _ _ h => h)))) j ⟨hj, hn⟩
   ·
    intro val fl w1 a hb hfi ha hd hfl;obtain ⟨hK, h1, h2⟩ := hb;have e6 : val 6 = .slice A2 i c2 := hd 6 (memB_mem.1 rfl);obtain ⟨g7_, e7, q7_, h7_⟩ := hd 7 (memB_mem.1 rfl) hfi;change val 7 = _ at e7;have ha := ha.s2 (d := 20) (e := 19) rfl e7 rfl e6;refine ts_push ir_elem ha rfl rfl rfl (h2 hfi) (rd_one (l := [.int .i64 (-1)]) q7_ rfl) (by intro u hu; simp only [List.mem_cons, List.not_mem_nil, or_false] at hu; rcases hu with rfl <;> rfl) (by omega) rfl (Nat.le_trans hCW hK.size) ?_
    intro v' w' ho' hgr hat;obtain ⟨A', c', rfl, _⟩ := (Rd.of_own ho').shape;refine ⟨_, rfl, hgr.size, ⟨hK.trans (Kp.own (h2 hfi) rfl (Nat.le_refl _) (Nat.le_trans hCW hK.size) hgr), (fun h => own_grown (h1 (by rwa [fset_ne rfl] at h)) (h2 hfi) rfl hgr), (fun h => by rw [fset_eq] at h; cases h)⟩, ⟨A', c', rfl, ho'⟩, fun j _ hj hn hA => ?_⟩
    exact phiS_cons_st (C := fun j => j ≠ 8 ∧ 8 ∉ clsAt [[], [0], [], [2], [0, 1, 2, 3], [], [5], [], [0, 1, 2, 3, 4, 5, 6, 7], [0, 1, 2, 3, 4, 5, 6], [0, 1, 2, 3, 4, 5, 6, 7, 8, 9], [0, 1, 2, 3, 4, 5, 6, 7, 8, 9, 10], [0, 1, 2, 3, 4, 5, 6, 7, 8, 9, 10, 11]] j) (fun _ hh h => let ⟨g, a1, a2, a3⟩ := hh (by rwa [fset_ne rfl] at h); ⟨g, a1, blk_grown a2 (h2 hfi) rfl hgr, a3⟩) (phiS_cons_st (C := fun j => j ≠ 8 ∧ 8 ∉ clsAt [[], [0], [], [2], [0, 1, 2, 3], [], [5], [], [0, 1, 2, 3, 4, 5, 6, 7], [0, 1, 2, 3, 4, 5, 6], [0, 1, 2, 3, 4, 5, 6, 7, 8, 9], [0, 1, 2, 3, 4, 5, 6, 7, 8, 9, 10], [0, 1, 2, 3, 4, 5, 6, 7, 8, 9, 10, 11]] j) (fun _ ⟨A, c, a1, a2⟩ => ⟨A, c, a1, own_grown a2 (h2 hfi) rfl hgr⟩) (phiS_cons_st (C := fun j => j ≠ 8 ∧ 8 ∉ clsAt [[], [0], [], [2], [0, 1, 2, 3], [], [5], [], [0, 1, 2, 3, 4, 5, 6, 7], [0, 1, 2, 3, 4, 5, 6], [0, 1, 2, 3, 4, 5, 6, 7, 8, 9], [0, 1, 2, 3, 4, 5, 6, 7, 8, 9, 10], [0, 1, 2, 3, 4, 5, 6, 7, 8, 9, 10, 11]] j) (fun _ _ h => by rw [fset_eq] at h; cases h) (phiS_cons_st (C := fun j => j ≠ 8 ∧ 8 ∉ clsAt [[], [0], [], [2], [0, 1, 2, 3], [], [5], [], [0, 1, 2, 3, 4, 5, 6, 7], [0, 1, 2, 3, 4, 5, 6], [0, 1, 2, 3, 4, 5, 6, 7, 8, 9], [0, 1, 2, 3, 4, 5, 6, 7, 8, 9, 10], [0, 1, 2, 3, 4, 5, 6, 7, 8, 9, 10, 11]] j) (fun hc => absurd rfl hc.1) (fun _ _ h => h)))) j ⟨hj, hn⟩
  ·intro val fl wR5 hfl hb halc hd
   obtain ⟨hK, _, _⟩ := hb;have e0 : val 0 = .pointer (some ⟨g3, 0, none⟩) := hd 0 (by omega)
   have e1 : val 1 = .slice A1 i c1 := hd 1 (by omega)
   have e2 : val 2 = .agg #[.int .i64 0, .int .i64 0] := hd 2 (by omega)
   obtain ⟨B1, d1, e4, hn1⟩ := hd 4 (by omega)
   have e5 : val 5 = .pointer (some ⟨g3, 1, none⟩) := hd 5 (by omega)
   have e6 : val 6 = .slice A2 i c2 := hd 6 (by omega)
   obtain ⟨B2, d2, e8, hn2⟩ := hd 8 (by omega)
   have e9 : val 9 = .pointer (some ⟨g3, 0, none⟩) := hd 9 (by omega)
   refine EL.ends (cs := [.pointer (some ⟨g3, 0, none⟩), .slice A1 i c1, .agg #[.int .i64 0, .int .i64 0], val 3, .slice B1 (i + 1) d1, .pointer (some ⟨g3, 1, none⟩), .slice A2 i c2, val 7, .slice B2 (i + 1) d2, .pointer (some ⟨g3, 0, none⟩)]) ⟨e0, e1, e2, rfl, e4, e5, e6, rfl, e8, e9, trivial⟩ rfl ?_;replace q1 := hK.blk _ _ _ q1 rfl;replace q2 := hK.blk _ _ _ q2 rfl;replace q3 := hK.blk _ _ _ q3 rfl;clear ho1 ho2;have ho1 : wR5.ownsRow w.heap.size 24 2 (.slice B1 (i + 1) d1) (i + 1) ((bdsC (List.replicate i bd0)) ++ [.int .i64 0, .int .i64 0]) := hn1;have ho2 : wR5.ownsRow w.heap.size 3 1 (.slice B2 (i + 1) d2) (i + 1) ((ints (List.replicate i (-1))) ++ [.int .i64 (-1)]) := hn2;clear hn1 hn2;replace hbw := hbw.trans hK.below;clear hK;refine EL.store rfl rfl q3 sz_60 rfl rfl rfl rfl ?_;intro w5 hq5 hg5;replace q1 := q1.gr hg5 n1_3;replace q2 := q2.gr hg5 n2_3;replace ho1 := own_type ho1 q3 rfl hg5;replace ho2 := own_type ho2 q3 rfl hg5;replace hbw := below_store hbw hg5 bhbw_3;replace q3 := hq5;clear hg5 hq5;refine EL.val (fa_62_1 rfl) rfl (EL.store rfl rfl q3 sz_22 rfl rfl rfl rfl ?_);intro w6 hq6 hg6;replace q1 := q1.gr hg6 n1_3;replace q2 := q2.gr hg6 n2_3;replace ho1 := own_type ho1 q3 rfl hg6;replace ho2 := own_type ho2 q3 rfl hg6;replace hbw := below_store hbw hg6 bhbw_3;replace q3 := hq6;clear hg6 hq6;refine EL.nil (EX.blk (EX.seq (EC.region (EL.mv rfl rfl ?_))));refine EL.val (x_add rfl rfl (c := ((i + 1 : Nat) : Int)) ((IntWalk.i64_in _ ⟨by first | omega | (simp only; omega), by first | omega | (simp only; omega)⟩).trans (by first | omega | (simp only; omega)))) rfl ?_
   refine EL.as rfl rfl (EL.nil ?_);refine EX.roundD (i + 1, B1, d1, B2, d2) ⟨rfl, trivial⟩ (by repeat first | with_reducible exact Sub.refl _ | refine sub_past rfl ?_ | exact Sub.refl _ | refine sub_del rfl ?_ | refine sub_insL_nil ?_) ⟨hlt, q1, q2, q3, own_cast ho1 rfl rep_bd.symm, own_cast ho2 rfl rep_int.symm, hbw⟩ (by simp only; omega)
 ·
  have hxe : i = ru.levels.length := by omega
  refine EC.seq (EC.seq (EC.region (EL.mv rfl rfl (EL.val (fa_28_0 rfl) rfl (EL.val (ld_22 rfl (q1.at (j := 0) rfl)) rfl (EL.val (ln_22 rfl) rfl ?_))))));refine EL.val (x_lss rfl rfl (decide_eq_false (show ¬(((i : Nat) : Int) < ((ru.levels.length : Nat) : Int)) by omega))) rfl ?_
  refine EL.nil (EX.seq (EC.no rfl (EC.exit (EX.seq_exit (EX.seq_exit (EX.blk_here (EX.seq (EC.seq (EC.region ?_)))))))));refine EL.val (ld_62 rfl (q3.at (j := 0) rfl) (q3.at (j := 1) rfl)) rfl (EL.store rfl rfl q2 sz_62 rfl rfl rfl rfl ?_);intro w7 hq7 hg7;replace q1 := q1.gr hg7 n1_2;replace q3 := q3.gr hg7 n2_3.symm;replace ho1 := own_type ho1 q2 rfl hg7;replace ho2 := own_type ho2 q2 rfl hg7;replace hbw := below_store hbw hg7 bhbw_2;replace q2 := hq7;clear hg7 hq7;refine EL.nil (EX.seq (EC.ret ?_))
  exact EX.done (resc1 rfl rfl (lv_62 (q2.at (j := 0) rfl) (q2.at (j := 1) rfl))) ⟨⟨A1, c1, A2, c2, by rw [hxe], own_cast' ho1 hxe (by rw [hxe]; rfl), own_cast' ho2 hxe (by rw [hxe]; rfl)⟩, hbw⟩
theorem less_any {x y : Bd} (hx : (0 ≤ x.lo ∧ x.lo ≤ 1000000) ∧ 0 ≤ x.hi ∧ x.hi ≤ 1000000) (hy : (0 ≤ y.lo ∧ y.lo ≤ 1000000) ∧ 0 ≤ y.hi ∧ y.hi ≤ 1000000) (w : World) :
  Calls Try.prog 81 #[.agg #[.int .i64 x.lo, .int .i64 x.hi], .agg #[.int .i64 y.lo, .int .i64 y.hi]] w fun e w' => e = .returned (.agg #[.int .i64 (lessR x y).lo, .int .i64 (lessR x y).hi]) ∧ Below w.heap.size w w' := by
 obtain ⟨⟨h1, h2⟩, h3, h4⟩ := hx;obtain ⟨⟨h5, h6⟩, h7, h8⟩ := hy;have hbw := Below.refl w.heap.size w;refine EC.enter 18 Try.func81 rfl rfl rfl (EC.seq (EC.region (EL.newP (bx_24 rfl) rfl ?_)));intro g1 w1 q1 hb1 hg1 hl1;have bhbw_1 := Nat.le_trans hbw.size hg1;replace hbw := bo_ hbw hb1;clear hb1 hg1 hl1;refine EL.newP (bx_24 rfl) rfl ?_;intro g2 w2 q2 hb2 hg2 hl2;have n1_2 := q1.na hg2;have bhbw_2 := Nat.le_trans hbw.size hg2;replace q1 := q1.bl hb2;replace hbw := bo_ hbw hb2;clear hb2 hg2 hl2;refine EL.newP al_24 rfl ?_;intro g3 w3 q3 hb3 hg3 hl3;have n1_3 := q1.na hg3;have n2_3 := q2.na hg3;have bhbw_3 := Nat.le_trans hbw.size hg3;replace q1 := q1.bl hb3;replace q2 := q2.bl hb3;replace hbw := bo_ hbw hb3;clear hb3 hg3 hl3;refine EL.nil (EX.seq (EC.seq (EC.region (EL.val (fa_24_0 rfl) rfl (EL.val (ld_3 rfl (q1.at (j := 0) rfl)) rfl (EL.val (fa_24_1 rfl) rfl (EL.val (ld_3 rfl (q2.at (j := 1) rfl)) rfl ?_)))))));refine EL.val (x_sub rfl rfl (by first | assumption | exact IntWalk.i64_in _ ⟨by omega, by omega⟩)) rfl ?_
 refine EL.val (mm_max rfl rfl rfl) rfl (EL.val (fa_24_1 rfl) rfl (EL.val (ld_3 rfl (q1.at (j := 1) rfl)) rfl (EL.val (fa_24_0 rfl) rfl (EL.val (ld_3 rfl (q2.at (j := 0) rfl)) rfl ?_))));refine EL.val (x_sub rfl rfl (by first | assumption | exact IntWalk.i64_in _ ⟨by omega, by omega⟩)) rfl ?_
 refine EL.val (mm_max rfl rfl rfl) rfl (EL.val (bd_24_0_1 rfl rfl) rfl (EL.store rfl rfl q3 sz_24 rfl rfl rfl rfl ?_));intro w4 hq4 hg4;replace q1 := q1.gr hg4 n1_3;replace q2 := q2.gr hg4 n2_3;replace hbw := below_store hbw hg4 bhbw_3;replace q3 := hq4;clear hg4 hq4;refine EL.nil (EX.seq (EC.ret ?_))
 exact EX.done (resc1 rfl rfl (lv_24 (q3.at (j := 0) rfl) (q3.at (j := 1) rfl))) ⟨rfl, hbw⟩
theorem bds_cells (l : List Bd) (k : Nat) (hk : k < l.length) (w : World) (B : Nat) (A : Option Addr) (n c : Nat) (hr : Rd w B 2 (.slice A n c) n (bdsC l)) :
  ∃ b off, A = some ⟨b, off, none⟩ ∧ b < B ∧ w.cell? ⟨b, off + k * 2, none⟩ = some (.int .i64 (l.getD k bd0).lo) ∧ w.cell? ⟨b, off + k * 2 + 1, none⟩ = some (.int .i64 (l.getD k bd0).hi) := by
 have hl : n * 2 = l.length * 2 := by rw [← hr.len, bdsC_len]
 obtain ⟨b, off, rfl, hb, hc⟩ := hr.at_ (by omega)
 have e : l.getD k bd0 = l[k] := by simp [hk]
 rw [e];have g := fun j hj => flat_get bdC_len l k hk j hj
 exact ⟨b, off, rfl, hb, hc (k * 2) _ (g 0 (by omega)), hc (k * 2 + 1) _ (g 1 (by omega))⟩
theorem own_bx {w w' : World} {base e size n g : Nat} {v : Value} {xs : List Value} (h : w.ownsRow base e size v n xs) (hn : ∀ k, v.ownBlock = some k → k ≠ g) (hg : w.grownBy w' (some g)) : w'.ownsRow base e size v n xs :=
 h.kept hg (by
  cases e0 : v.ownBlock with
  | none => exact .inl rfl
  | some k => exact .inr fun e1 => hn k e0 (Option.some.inj e1))
theorem map_bd {f : Nat → Bd} {i : Nat} : bdsC ((List.range (i + 1)).map f) = bdsC ((List.range i).map f) ++ [.int .i64 (f i).lo, .int .i64 (f i).hi] := by
 unfold bdsC
 rw [List.range_succ, List.map_append, List.flatMap_append]
 rfl
theorem map_int {f : Nat → Int} {i : Nat} : ints ((List.range (i + 1)).map f) = ints ((List.range i).map f) ++ [.int .i64 (f i)] := by
 unfold ints
 rw [List.range_succ, List.map_append, List.map_append]
 rfl
theorem ev_one {ru : Rules} {x : Ev} (h : evB ru x = true) : (x.kind = 2 ∧ ∃ k : Nat, x.number = ((k : Nat) : Int) ∧ k < ru.kinds.length) ∨ (x.kind = 1 ∧ ∃ k : Nat, x.number = ((k : Nat) : Int) ∧ k < ru.levels.length) := ev_at (l := [x]) (by simp [h]) (x := 0) (by simp)
/-- a tank of the document, within its bounds -/
structure RtOk (n k : Nat) (t : RT) : Prop where
 rl : t.res.length = n
 al : t.aft.length = n
 bd : ∀ i, (0 ≤ (t.res.getD i bd0).lo ∧ (t.res.getD i bd0).lo ≤ 1000000) ∧ 0 ≤ (t.res.getD i bd0).hi ∧ (t.res.getD i bd0).hi ≤ 1000000
 af : ∀ i, -1 ≤ t.aft.getD i 0 ∧ t.aft.getD i 0 ≤ k
set_option maxHeartbeats 2000000 in
theorem Step_any {ru : Rules} {ua up : List Value} {vl va vp vk : Value} {w : World} {B : Nat} (hr : RdRules w B vl va vp vk ru ua up) (hB : B ≤ w.heap.size) (hro : RulesOk ru) {t : RT} {kk : Nat} (ht : RtOk ru.levels.length kk t) (hkk : kk ≤ 1000000) {T1 T2 : Option Addr} {cT1 cT2 C : Nat} (h1 : Rd w C 2 (.slice T1 ru.levels.length cT1) ru.levels.length (bdsC t.res)) (h2 : Rd w C 1 (.slice T2 ru.levels.length cT2) ru.levels.length (ints t.aft)) (hC : C ≤ w.heap.size) {x : Ev} (hx : evB ru x = true) :
  Calls Try.prog 58 #[rulesV vl va vp vk ru, .agg #[.slice T1 ru.levels.length cT1, .slice T2 ru.levels.length cT2], .agg #[.int .i64 x.kind, .int .i64 x.number]] w fun e w' => (∃ A1 c1 A2 c2, e = .returned (.agg #[.slice A1 ru.levels.length c1, .slice A2 ru.levels.length c2]) ∧ w'.ownsRow w.heap.size 24 2 (.slice A1 ru.levels.length c1) ru.levels.length (bdsC (stepR ru t x).res) ∧ w'.ownsRow w.heap.size 3 1 (.slice A2 ru.levels.length c2) ru.levels.length (ints (stepR ru t x).aft)) ∧ Below w.heap.size w w' := by
 obtain ⟨Al, cl, rfl, _⟩ := hr.levels.shape;obtain ⟨Aa, ca, rfl, _⟩ := hr.allow.rd.shape;obtain ⟨Ap, cp, rfl, _⟩ := hr.apart.rd.shape;obtain ⟨Ak, ck, rfl, _⟩ := hr.kinds.shape;have hn8 := hro.n8;have hbw := Below.refl w.heap.size w
 unfold rulesV
 refine EC.enter 77 Try.func58 rfl rfl rfl (EC.seq (EC.region (EL.newP (bx_28 rfl) rfl ?_)));intro g1 w1 q1 hb1 hg1 hl1;have bhbw_1 := Nat.le_trans hbw.size hg1;replace hbw := bo_ hbw hb1;clear hb1 hg1 hl1;refine EL.newP (bx_62 rfl) rfl ?_;intro g2 w2 q2 hb2 hg2 hl2;have n1_2 := q1.na hg2;have bhbw_2 := Nat.le_trans hbw.size hg2;replace q1 := q1.bl hb2;replace hbw := bo_ hbw hb2;clear hb2 hg2 hl2;refine EL.newP (bx_50 rfl) rfl ?_;intro g3 w3 q3 hb3 hg3 hl3;have n1_3 := q1.na hg3;have n2_3 := q2.na hg3;have bhbw_3 := Nat.le_trans hbw.size hg3;replace q1 := q1.bl hb3;replace q2 := q2.bl hb3;replace hbw := bo_ hbw hb3;clear hb3 hg3 hl3;refine EL.newP al_62 rfl ?_;intro g4 w4 q4 hb4 hg4 hl4;have n1_4 := q1.na hg4;have n2_4 := q2.na hg4;have n3_4 := q3.na hg4;have bhbw_4 := Nat.le_trans hbw.size hg4;replace q1 := q1.bl hb4;replace q2 := q2.bl hb4;replace q3 := q3.bl hb4;replace hbw := bo_ hbw hb4;clear hb4 hg4 hl4;refine EL.nil (EX.seq (EC.seq (EC.region (EL.val (bd_62_) rfl (EL.newP al_62 rfl ?_)))));intro g5 w5 q5 hb5 hg5 hl5;have n1_5 := q1.na hg5;have n2_5 := q2.na hg5;have n3_5 := q3.na hg5;have n4_5 := q4.na hg5;have bhbw_5 := Nat.le_trans hbw.size hg5;replace q1 := q1.bl hb5;replace q2 := q2.bl hb5;replace q3 := q3.bl hb5;replace q4 := q4.bl hb5;replace hbw := bo_ hbw hb5;clear hb5 hg5 hl5;refine EL.store rfl rfl q5 sz_62 rfl rfl rfl rfl ?_;intro w6 hq6 hg6;replace q1 := q1.gr hg6 n1_5;replace q2 := q2.gr hg6 n2_5;replace q3 := q3.gr hg6 n3_5;replace q4 := q4.gr hg6 n4_5;replace hbw := below_store hbw hg6 bhbw_5;replace q5 := hq6;clear hg6 hq6;refine EL.nil (EX.seq (EC.seq (EC.seq (EC.region (EL.as rfl rfl (EL.nil (EX.seq (EC.block ?_))))))));refine EC.loopD [8, 9, 10, 12, 13, 14, 15, 16, 17, 18, 19, 20, 21, 22, 23, 24, 25, 26, 27, 28, 29, 30, 31, 32, 33, 34, 35, 36, 37, 38, 39, 40, 41, 42, 43, 44, 45, 46, 47, 48, 49, 50, 51, 52, 53, 54, 55, 56, 57, 58, 59, 60, 61, 62, 63, 64, 65, 66, 67, 68, 69, 70, 71, 72, 73, 74, 75] (fun y : Nat × Option Addr × Nat × Option Addr × Nat => [(8, .int .i64 (y.1 : Nat))]) (fun y W => y.1 ≤ ru.levels.length ∧ Blk W g1 28 #[.slice Al ru.levels.length cl, .int .i64 ru.fade.lo, .int .i64 ru.fade.hi, .slice Aa ru.allow.length ca, .slice Ap ru.apart.length cp, .slice Ak ru.kinds.length ck] ∧ Blk W g2 62 #[.slice T1 ru.levels.length cT1, .slice T2 ru.levels.length cT2] ∧ Blk W g3 50 #[.int .i64 x.kind, .int .i64 x.number] ∧ Blk W g4 62 #[.slice none 0 0, .slice none 0 0] ∧ Blk W g5 62 #[.slice y.2.1 y.1 y.2.2.1, .slice y.2.2.2.1 y.1 y.2.2.2.2] ∧ W.ownsRow w.heap.size 24 2 (.slice y.2.1 y.1 y.2.2.1) y.1 (bdsC ((List.range y.1).map (resR ru t x))) ∧ W.ownsRow w.heap.size 3 1 (.slice y.2.2.2.1 y.1 y.2.2.2.2) y.1 (ints ((List.range y.1).map (aftR t x))) ∧ Below w.heap.size w W) (fun y => ru.levels.length - y.1) (0, none, 0, none, 0) ⟨Nat.zero_le _, q1, q2, q3, q4, q5, World.ownsRow_nil _ _ _ _, World.ownsRow_nil _ _ _ _, hbw⟩ ⟨rfl, trivial⟩ ?_
 clear q1 q2 q3 q4 q5 hbw
 rintro ⟨i, A1, c1, A2, c2⟩ wx ⟨hi, q1, q2, q3, q4, q5, ho1, ho2, hbw⟩
 dsimp only at hi ho1 ho2 q5
 by_cases hlt : i < ru.levels.length
 ·
  obtain ⟨tb, to, eT1, _, d0, d1⟩ := bds_cells t.res i (by rw [ht.rl]; exact hlt) wx C _ _ _ (h1.below (hbw.mono hC))
  obtain ⟨ub, uo, eT2, _, d2⟩ := ints_cells t.aft i (by rw [ht.al]; exact hlt) wx C _ _ _ (h2.below (hbw.mono hC))
  obtain ⟨hbb1, hbb2⟩ := ht.bd i;obtain ⟨haf1, haf2⟩ := ht.af i;have hlo : ∀ k, (Value.slice A1 i c1).ownBlock = some k → k < wx.heap.size := fun k hk => (ho1.lt k hk).2
  refine EC.seq (EC.seq (EC.region (EL.mv rfl rfl (EL.val (fa_62_0 rfl) rfl (EL.val (ld_60 rfl (q2.at (j := 0) rfl)) rfl (EL.val (ln_60 rfl) rfl ?_))))));refine EL.val (x_lss rfl rfl (decide_eq_true (show (((i : Nat) : Int) < ((ru.levels.length : Nat) : Int)) by omega))) rfl ?_
  refine EL.nil (EX.seq (EC.yes rfl (EC.skip (EX.seq (EC.seq (EC.block (EC.seq ?_)))))));have lt_1 := q1.lt;have lt_2 := q2.lt;have lt_3 := q3.lt;have lt_4 := q4.lt;have lt_5 := q5.lt;refine EC.regionS [[], [0], [], [0, 1, 2], [0, 1, 2, 3], [], [5], [], [5, 6, 7], [5, 6, 7, 8], [], [0, 1, 2, 3, 4, 10], [0, 1, 2, 3, 4, 5, 6, 7, 8, 9, 10, 11]] 12 [10] [11] (fun _ w_ => Below wx.heap.size wx w_) (phiS (fun i_ r => match i_ with | 0 => r 0 = .pointer (some ⟨g2, 0, none⟩) | 1 => r 1 = .slice T1 ru.levels.length cT1 | 2 => r 2 = .int .i64 (i : Nat) | 3 => r 3 = .pointer (some ⟨tb, to + i * 2, none⟩) | 4 => r 4 = .agg #[.int .i64 (t.res.getD i bd0).lo, .int .i64 (t.res.getD i bd0).hi] | 5 => r 5 = .pointer (some ⟨g2, 1, none⟩) | 6 => r 6 = .slice T2 ru.levels.length cT2 | 7 => r 7 = .int .i64 (i : Nat) | 8 => r 8 = .pointer (some ⟨ub, uo + i, none⟩) | 9 => r 9 = .int .i64 (t.aft.getD i 0) | _ => True) [(10, fun fl r w_ => ∃ g_, r 10 = .pointer (some ⟨g_, 0, none⟩) ∧ wx.heap.size ≤ g_ ∧ (fl 11 = false → Blk w_ g_ 24 #[.int .i64 0, .int .i64 0])), (11, fun _ r w_ => ∃ g_, r 10 = .pointer (some ⟨g_, 0, none⟩) ∧ Blk w_ g_ 24 #[.int .i64 (t.res.getD i bd0).lo, .int .i64 (t.res.getD i bd0).hi])]) (by kernel_rfl) rfl rfl (by intro i hi; simp at hi; first | (subst hi; exact ⟨by simp, by omega⟩) | (rcases hi with rfl | rfl | rfl <;> exact ⟨by simp, by omega⟩) | (rcases hi with rfl | rfl <;> exact ⟨by simp, by omega⟩)) (base_below wx) (phiS_cons monoS_alloc (phiS_cons monoS_store (phiS_nil))) (fun i_ hi_ hs_ => ?_) (fun i_ hi_ => ?_) ?_
  ·match i_, hi_ with
   | 0, _ =>
    intro val fl w1 a hb ha hd hfl;have ha := ha.s0 (d := 4) rfl
    exact ss_val ha rfl rfl (fa_62_0 rfl) rfl rfl
   | 1, _ =>
    intro val fl w1 a hb ha hd hfl;have e0 : val 0 = .pointer (some ⟨g2, 0, none⟩) := hd 0 (memB_mem.1 rfl);have ha := ha.s1 (d := 19) rfl e0
    exact ss_val ha rfl rfl (ld_60 rfl ((q2.below hb q2.lt).at (j := 0) rfl)) rfl rfl
   | 2, _ =>
    intro val fl w1 a hb ha hd hfl;have ha := ha.s0 (d := 8) rfl
    exact ss_val ha rfl rfl (x_move rfl) rfl rfl
   | 3, _ =>
    intro val fl w1 a hb ha hd hfl;have e1 : val 1 = .slice T1 ru.levels.length cT1 := hd 1 (memB_mem.1 rfl);have e2 : val 2 = .int .i64 (i : Nat) := hd 2 (memB_mem.1 rfl);have ha := ha.s2 (d := 21) (e := 20) rfl e2 rfl e1
    exact ss_val ha rfl rfl (ix_60 (by show some (Value.slice T1 _ _) = _; rw [eT1]) rfl hlt) rfl rfl
   | 4, _ =>
    intro val fl w1 a hb ha hd hfl;have e3 : val 3 = .pointer (some ⟨tb, to + i * 2, none⟩) := hd 3 (memB_mem.1 rfl);have ha := ha.s1 (d := 22) rfl e3
    exact ss_val ha rfl rfl (ld_24 rfl (below_load hb d0) (below_load hb d1)) rfl rfl
   | 5, _ =>
    intro val fl w1 a hb ha hd hfl;have ha := ha.s0 (d := 4) rfl
    exact ss_val ha rfl rfl (fa_62_1 rfl) rfl rfl
   | 6, _ =>
    intro val fl w1 a hb ha hd hfl;have e5 : val 5 = .pointer (some ⟨g2, 1, none⟩) := hd 5 (memB_mem.1 rfl);have ha := ha.s1 (d := 24) rfl e5
    exact ss_val ha rfl rfl (ld_22 rfl ((q2.below hb q2.lt).at (j := 1) rfl)) rfl rfl
   | 7, _ =>
    intro val fl w1 a hb ha hd hfl;have ha := ha.s0 (d := 8) rfl
    exact ss_val ha rfl rfl (x_move rfl) rfl rfl
   | 8, _ =>
    intro val fl w1 a hb ha hd hfl;have e6 : val 6 = .slice T2 ru.levels.length cT2 := hd 6 (memB_mem.1 rfl);have e7 : val 7 = .int .i64 (i : Nat) := hd 7 (memB_mem.1 rfl);have ha := ha.s2 (d := 26) (e := 25) rfl e7 rfl e6
    exact ss_val ha rfl rfl (ix_22 (by show some (Value.slice T2 _ _) = _; rw [eT2]) rfl hlt) rfl rfl
   | 9, _ =>
    intro val fl w1 a hb ha hd hfl;have e8 : val 8 = .pointer (some ⟨ub, uo + i, none⟩) := hd 8 (memB_mem.1 rfl);have ha := ha.s1 (d := 27) rfl e8
    exact ss_val ha rfl rfl (ld_3 rfl (below_load hb d2)) rfl rfl
   | 10, _ =>
    intro val fl w1 a hb ha hd hfl;have ha := ha.sub (Sub.nil _)
    exact ss_newP ha rfl rfl al_24 (fun g w' hq _ hge => ⟨g, rfl, Nat.le_trans hb.size hge, fun _ => hq⟩)
   | 11, _ =>
    exact absurd (by simp) hs_
   | k + 12, h => exact absurd h (by omega)
  ·simp only [List.mem_singleton] at hi_; subst hi_
   intro val fl w1 a hb hfi ha hd hfl;obtain ⟨g10_, e10, hg10_, q10_⟩ := hd 10 (memB_mem.1 rfl);change val 10 = _ at e10;have e4 : val 4 = .agg #[.int .i64 (t.res.getD i bd0).lo, .int .i64 (t.res.getD i bd0).hi] := hd 4 (memB_mem.1 rfl);have ha := ha.s2 (d := 23) (e := 9) rfl e4 rfl e10;refine ts_store ha rfl rfl rfl (q10_ hfi) sz_24 rfl rfl rfl rfl ?_;intro w' hq hgr;refine ⟨undef, rfl, hgr.size, below_store hb hgr hg10_, ⟨g10_, e10, hq⟩, fun j _ hj hn hA => ?_⟩
   exact phiS_cons_st (C := fun j => j ≠ 11 ∧ 11 ∉ clsAt [[], [0], [], [0, 1, 2], [0, 1, 2, 3], [], [5], [], [5, 6, 7], [5, 6, 7, 8], [], [0, 1, 2, 3, 4, 10], [0, 1, 2, 3, 4, 5, 6, 7, 8, 9, 10, 11]] j ∧ ∀ p ∈ [10], (p = j ∨ p ∈ clsAt [[], [0], [], [0, 1, 2], [0, 1, 2, 3], [], [5], [], [5, 6, 7], [5, 6, 7, 8], [], [0, 1, 2, 3, 4, 10], [0, 1, 2, 3, 4, 5, 6, 7, 8, 9, 10, 11]] j) → ∀ q ∈ [10], (q = 11 ∨ q ∈ clsAt [[], [0], [], [0, 1, 2], [0, 1, 2, 3], [], [5], [], [5, 6, 7], [5, 6, 7, 8], [], [0, 1, 2, 3, 4, 10], [0, 1, 2, 3, 4, 5, 6, 7, 8, 9, 10, 11]] 11) → p ≠ q → val p ≠ val q) (fun _ ⟨g, h1, h2, _⟩ => ⟨g, h1, h2, fun h => by rw [fset_eq] at h; cases h⟩) (phiS_cons_st (C := fun j => j ≠ 11 ∧ 11 ∉ clsAt [[], [0], [], [0, 1, 2], [0, 1, 2, 3], [], [5], [], [5, 6, 7], [5, 6, 7, 8], [], [0, 1, 2, 3, 4, 10], [0, 1, 2, 3, 4, 5, 6, 7, 8, 9, 10, 11]] j ∧ ∀ p ∈ [10], (p = j ∨ p ∈ clsAt [[], [0], [], [0, 1, 2], [0, 1, 2, 3], [], [5], [], [5, 6, 7], [5, 6, 7, 8], [], [0, 1, 2, 3, 4, 10], [0, 1, 2, 3, 4, 5, 6, 7, 8, 9, 10, 11]] j) → ∀ q ∈ [10], (q = 11 ∨ q ∈ clsAt [[], [0], [], [0, 1, 2], [0, 1, 2, 3], [], [5], [], [5, 6, 7], [5, 6, 7, 8], [], [0, 1, 2, 3, 4, 10], [0, 1, 2, 3, 4, 5, 6, 7, 8, 9, 10, 11]] 11) → p ≠ q → val p ≠ val q) (fun hc => absurd rfl hc.1) (fun _ _ h => h)) j ⟨hj, hn, hA⟩
  ·intro val fl wR5 hfl hb halc hd
   have e0 : val 0 = .pointer (some ⟨g2, 0, none⟩) := hd 0 (by omega)
   have e1 : val 1 = .slice T1 ru.levels.length cT1 := hd 1 (by omega)
   have e2 : val 2 = .int .i64 (i : Nat) := hd 2 (by omega)
   have e3 : val 3 = .pointer (some ⟨tb, to + i * 2, none⟩) := hd 3 (by omega)
   have e4 : val 4 = .agg #[.int .i64 (t.res.getD i bd0).lo, .int .i64 (t.res.getD i bd0).hi] := hd 4 (by omega)
   have e5 : val 5 = .pointer (some ⟨g2, 1, none⟩) := hd 5 (by omega)
   have e6 : val 6 = .slice T2 ru.levels.length cT2 := hd 6 (by omega)
   have e7 : val 7 = .int .i64 (i : Nat) := hd 7 (by omega)
   have e8 : val 8 = .pointer (some ⟨ub, uo + i, none⟩) := hd 8 (by omega)
   have e9 : val 9 = .int .i64 (t.aft.getD i 0) := hd 9 (by omega)
   obtain ⟨ga10_5, e10, qa10_5⟩ := hd 11 (by omega)
   change val 10 = _ at e10;refine EL.ends (cs := [.pointer (some ⟨g2, 0, none⟩), .slice T1 ru.levels.length cT1, .int .i64 (i : Nat), .pointer (some ⟨tb, to + i * 2, none⟩), .agg #[.int .i64 (t.res.getD i bd0).lo, .int .i64 (t.res.getD i bd0).hi], .pointer (some ⟨g2, 1, none⟩), .slice T2 ru.levels.length cT2, .int .i64 (i : Nat), .pointer (some ⟨ub, uo + i, none⟩), .int .i64 (t.aft.getD i 0), .pointer (some ⟨ga10_5, 0, none⟩), val 11]) ⟨e0, e1, e2, e3, e4, e5, e6, e7, e8, e9, e10, rfl, trivial⟩ rfl ?_;replace q1 := q1.bl hb;replace q2 := q2.bl hb;replace q3 := q3.bl hb;replace q4 := q4.bl hb;replace q5 := q5.bl hb;replace ho1 := own_below ho1 hb (Nat.le_refl _);replace ho2 := own_below ho2 hb (Nat.le_refl _);have bge7 := alc_ge halc (i := 10) rfl rfl e10;have n1_7 : g1 ≠ ga10_5 := Nat.ne_of_lt (Nat.lt_of_lt_of_le lt_1 bge7);have n2_7 : g2 ≠ ga10_5 := Nat.ne_of_lt (Nat.lt_of_lt_of_le lt_2 bge7);have n3_7 : g3 ≠ ga10_5 := Nat.ne_of_lt (Nat.lt_of_lt_of_le lt_3 bge7);have n4_7 : g4 ≠ ga10_5 := Nat.ne_of_lt (Nat.lt_of_lt_of_le lt_4 bge7);have n5_7 : g5 ≠ ga10_5 := Nat.ne_of_lt (Nat.lt_of_lt_of_le lt_5 bge7);have bhbw_7 := Nat.le_trans hbw.size bge7;replace hbw := bo_ hbw hb;refine EL.as rfl rfl (EL.nil (EX.seq (EC.seq (EC.seq (EC.region (EL.val (fa_50_0 rfl) rfl (EL.val (ld_48 rfl (q3.at (j := 0) rfl)) rfl ?_)))))))
   rcases ev_one hx with ⟨hk2, k, ek, hk⟩ | ⟨hk1, k, ek, hk⟩
   ·
    obtain ⟨bk, ok, eAk, _, hkd⟩ := kds_cells ru.kinds k hk wR5 B _ _ _ (hr.below (hbw.mono hB)).kinds;refine EL.val (x_eql (r := true) rfl rfl (decide_eq_true hk2)) rfl (EL.nil (EX.seq (EC.yes rfl ?_)));have lt_1 := q1.lt;have lt_2 := q2.lt;have lt_3 := q3.lt;have lt_4 := q4.lt;have lt_5 := q5.lt;have lt_7 := qa10_5.lt;refine EC.regionP [[], [], [1], [], [3], [1, 2, 3, 4], [1, 2, 3, 4, 5], [1, 2, 3, 4, 5, 6], [0, 1, 2, 3, 4, 5, 6, 7], [0, 1, 2, 3, 4, 5, 6, 7, 8]] 9 [] (phi (fun i_ r => match i_ with | 0 => r 0 = .agg #[.int .i64 (t.res.getD i bd0).lo, .int .i64 (t.res.getD i bd0).hi] | 1 => r 1 = .pointer (some ⟨g1, 5, none⟩) | 2 => r 2 = .slice Ak ru.kinds.length ck | 3 => r 3 = .pointer (some ⟨g3, 1, none⟩) | 4 => r 4 = .int .i64 x.number | 5 => r 5 = .pointer (some ⟨bk, ok + k * 5, none⟩) | 6 => r 6 = .pointer (some ⟨bk, ok + k * 5, none⟩) | 7 => r 7 = .agg #[.int .i64 (ru.kinds.getD k kd0).power.lo, .int .i64 (ru.kinds.getD k kd0).power.hi] | 8 => r 8 = .agg #[.int .i64 (lessR (t.res.getD i bd0) (ru.kinds.getD k kd0).power).lo, .int .i64 (lessR (t.res.getD i bd0) (ru.kinds.getD k kd0).power).hi] | _ => True) []) (by kernel_rfl) rfl rfl (phi_nil) (fun i_ hi_ => ?_) ?_
    ·match i_, hi_ with
     | 0, _ =>
      intro val w1 a hb ha hd;have ha := ha.s0 (d := 9) rfl
      exact hs_val ha rfl rfl (ld_24 rfl ((qa10_5.below hb qa10_5.lt).at (j := 0) rfl) ((qa10_5.below hb qa10_5.lt).at (j := 1) rfl)) rfl rfl
     | 1, _ =>
      intro val w1 a hb ha hd;have ha := ha.s0 (d := 3) rfl
      exact hs_val ha rfl rfl (fa_28_4 rfl) rfl rfl
     | 2, _ =>
      intro val w1 a hb ha hd;have e1 : val 1 = .pointer (some ⟨g1, 5, none⟩) := hd 1 (memB_mem.1 rfl);have ha := ha.s1 (d := 33) rfl e1
      exact hs_val ha rfl rfl (ld_26 rfl ((q1.below hb q1.lt).at (j := 5) rfl)) rfl rfl
     | 3, _ =>
      intro val w1 a hb ha hd;have ha := ha.s0 (d := 5) rfl
      exact hs_val ha rfl rfl (fa_50_1 rfl) rfl rfl
     | 4, _ =>
      intro val w1 a hb ha hd;have e3 : val 3 = .pointer (some ⟨g3, 1, none⟩) := hd 3 (memB_mem.1 rfl);have ha := ha.s1 (d := 35) rfl e3
      exact hs_val ha rfl rfl (ld_3 rfl ((q3.below hb q3.lt).at (j := 1) rfl)) rfl rfl
     | 5, _ =>
      intro val w1 a hb ha hd;have e2 : val 2 = .slice Ak ru.kinds.length ck := hd 2 (memB_mem.1 rfl);have e4 : val 4 = .int .i64 x.number := hd 4 (memB_mem.1 rfl);have ha := ha.s2 (d := 36) (e := 34) rfl e4 rfl e2
      exact hs_val ha rfl rfl (ix_26 (by show some (Value.slice Ak _ _) = _; rw [eAk]) (by show some (Value.int .i64 x.number) = _; rw [ek]) hk) rfl rfl
     | 6, _ =>
      intro val w1 a hb ha hd;have e5 : val 5 = .pointer (some ⟨bk, ok + k * 5, none⟩) := hd 5 (memB_mem.1 rfl);have ha := ha.s1 (d := 37) rfl e5
      exact hs_val ha rfl rfl (fa_52_0 rfl) rfl rfl
     | 7, _ =>
      intro val w1 a hb ha hd;have e6 : val 6 = .pointer (some ⟨bk, ok + k * 5, none⟩) := hd 6 (memB_mem.1 rfl);have ha := ha.s1 (d := 38) rfl e6
      exact hs_val ha rfl rfl (ld_24 rfl (below_load hb hkd.c0) (below_load hb hkd.c1)) rfl rfl
     | 8, _ =>
      intro val w1 a hb ha hd;have e0 : val 0 = .agg #[.int .i64 (t.res.getD i bd0).lo, .int .i64 (t.res.getD i bd0).hi] := hd 0 (memB_mem.1 rfl);have e7 : val 7 = .agg #[.int .i64 (ru.kinds.getD k kd0).power.lo, .int .i64 (ru.kinds.getD k kd0).power.hi] := hd 7 (memB_mem.1 rfl);have ha := ha.s2 (d := 39) (e := 32) rfl e7 rfl e0;refine hs_call ha rfl rfl (cl_81 rfl rfl) (less_any ⟨hbb1, hbb2⟩ (by have := kd_pow hro k; omega) _) rfl ?_
      rintro e w' ⟨rfl, hb'⟩
      exact ⟨_, rfl, hb', rfl⟩
     | k + 9, h => exact absurd h (by omega)
    ·intro val wR7 hb halc hd
     have e0 : val 0 = .agg #[.int .i64 (t.res.getD i bd0).lo, .int .i64 (t.res.getD i bd0).hi] := hd 0 (by omega)
     have e1 : val 1 = .pointer (some ⟨g1, 5, none⟩) := hd 1 (by omega)
     have e2 : val 2 = .slice Ak ru.kinds.length ck := hd 2 (by omega)
     have e3 : val 3 = .pointer (some ⟨g3, 1, none⟩) := hd 3 (by omega)
     have e4 : val 4 = .int .i64 x.number := hd 4 (by omega)
     have e5 : val 5 = .pointer (some ⟨bk, ok + k * 5, none⟩) := hd 5 (by omega)
     have e6 : val 6 = .pointer (some ⟨bk, ok + k * 5, none⟩) := hd 6 (by omega)
     have e7 : val 7 = .agg #[.int .i64 (ru.kinds.getD k kd0).power.lo, .int .i64 (ru.kinds.getD k kd0).power.hi] := hd 7 (by omega)
     have e8 : val 8 = .agg #[.int .i64 (lessR (t.res.getD i bd0) (ru.kinds.getD k kd0).power).lo, .int .i64 (lessR (t.res.getD i bd0) (ru.kinds.getD k kd0).power).hi] := hd 8 (by omega)
     refine EL.ends (cs := [.agg #[.int .i64 (t.res.getD i bd0).lo, .int .i64 (t.res.getD i bd0).hi], .pointer (some ⟨g1, 5, none⟩), .slice Ak ru.kinds.length ck, .pointer (some ⟨g3, 1, none⟩), .int .i64 x.number, .pointer (some ⟨bk, ok + k * 5, none⟩), .pointer (some ⟨bk, ok + k * 5, none⟩), .agg #[.int .i64 (ru.kinds.getD k kd0).power.lo, .int .i64 (ru.kinds.getD k kd0).power.hi], .agg #[.int .i64 (lessR (t.res.getD i bd0) (ru.kinds.getD k kd0).power).lo, .int .i64 (lessR (t.res.getD i bd0) (ru.kinds.getD k kd0).power).hi]]) ⟨e0, e1, e2, e3, e4, e5, e6, e7, e8, trivial⟩ rfl ?_;replace q1 := q1.bl hb;replace q2 := q2.bl hb;replace q3 := q3.bl hb;replace q4 := q4.bl hb;replace q5 := q5.bl hb;replace qa10_5 := qa10_5.bl hb;replace ho1 := own_below ho1 hb (Nat.le_refl _);replace ho2 := own_below ho2 hb (Nat.le_refl _);replace hbw := bo_ hbw hb;clear hb;refine EL.store rfl rfl qa10_5 sz_24 rfl rfl rfl rfl ?_;intro w8 hq8 hg8;replace q1 := q1.gr hg8 n1_7;replace q2 := q2.gr hg8 n2_7;replace q3 := q3.gr hg8 n3_7;replace q4 := q4.gr hg8 n4_7;replace q5 := q5.gr hg8 n5_7;replace ho1 := own_bx ho1 (fun k hk => Nat.ne_of_lt (Nat.lt_of_lt_of_le (hlo k hk) bge7)) hg8
     replace ho2 := own_type ho2 qa10_5 rfl hg8;replace hbw := below_store hbw hg8 bhbw_7;replace qa10_5 := hq8;clear hg8 hq8;refine EL.nil (EX.seq ?_);have hCW := hbw.size;have hres : resR ru t x i = (lessR (t.res.getD i bd0) (ru.kinds.getD k kd0).power) := by unfold resR; rw [if_pos hk2, ek, Int.toNat_natCast]
     have haft : aftR t x i = (t.aft.getD i 0) := by unfold aftR; rw [if_pos hk2]
     refine EC.regionS [[], [0], [], [2], [0, 1, 2, 3], [], [5], [], [7], [0, 1, 2, 3, 4, 5, 6, 7, 8], [0, 1, 2, 3, 4, 5, 6], [0, 1, 2, 3, 4, 5, 6, 7, 8, 9, 10], [0, 1, 2, 3, 4, 5, 6, 7, 8, 9, 10, 11], [0, 1, 2, 3, 4, 5, 6, 7, 8, 9, 10, 11, 12]] 11 [] [4, 9] (fun fl w_ => Kp w.heap.size [24, 3] w8 w_ ∧ (fl 4 = false → w_.ownsRow w.heap.size 24 2 (.slice A1 i c1) i (bdsC ((List.range i).map (resR ru t x))) ∧ Blk w_ ga10_5 24 #[.int .i64 (lessR (t.res.getD i bd0) (ru.kinds.getD k kd0).power).lo, .int .i64 (lessR (t.res.getD i bd0) (ru.kinds.getD k kd0).power).hi]) ∧ (fl 9 = false → w_.ownsRow w.heap.size 3 1 (.slice A2 i c2) i (ints ((List.range i).map (aftR t x))))) (phiS (fun i_ r => match i_ with | 0 => r 0 = .pointer (some ⟨g5, 0, none⟩) | 1 => r 1 = .slice A1 i c1 | 2 => r 2 = .agg #[.int .i64 (lessR (t.res.getD i bd0) (ru.kinds.getD k kd0).power).lo, .int .i64 (lessR (t.res.getD i bd0) (ru.kinds.getD k kd0).power).hi] | 5 => r 5 = .pointer (some ⟨g5, 1, none⟩) | 6 => r 6 = .slice A2 i c2 | 7 => r 7 = .int .i64 (t.aft.getD i 0) | 10 => r 10 = .pointer (some ⟨g5, 0, none⟩) | _ => True) [(3, fun fl r w_ => fl 4 = false → (∃ g_, r 3 = .slice (some ⟨g_, 0, none⟩) 1 1 ∧ Blk w_ g_ 24 #[.int .i64 (lessR (t.res.getD i bd0) (ru.kinds.getD k kd0).power).lo, .int .i64 (lessR (t.res.getD i bd0) (ru.kinds.getD k kd0).power).hi] ∧ w8.heap.size ≤ g_)), (4, fun _ r w_ => ∃ A c, r 4 = .slice A (i + 1) c ∧ w_.ownsRow w.heap.size 24 2 (.slice A (i + 1) c) (i + 1) ((bdsC ((List.range i).map (resR ru t x))) ++ [.int .i64 (lessR (t.res.getD i bd0) (ru.kinds.getD k kd0).power).lo, .int .i64 (lessR (t.res.getD i bd0) (ru.kinds.getD k kd0).power).hi])), (8, fun fl r w_ => fl 9 = false → (∃ g_, r 8 = .slice (some ⟨g_, 0, none⟩) 1 1 ∧ Blk w_ g_ 3 #[.int .i64 (t.aft.getD i 0)] ∧ w8.heap.size ≤ g_)), (9, fun _ r w_ => ∃ A c, r 9 = .slice A (i + 1) c ∧ w_.ownsRow w.heap.size 3 1 (.slice A (i + 1) c) (i + 1) ((ints ((List.range i).map (aftR t x))) ++ [.int .i64 (t.aft.getD i 0)]))]) (by kernel_rfl) rfl rfl (by intro i hi; simp at hi; rcases hi with rfl | rfl <;> exact ⟨by simp, by omega⟩) ⟨fun _ _ => ⟨⟨rfl, rfl, rfl, Nat.le_refl _, fun _ _ => rfl, fun _ _ _ h _ => h⟩, fun _ => ⟨ho1, qa10_5⟩, fun _ => ho2⟩, fun _ _ _ ⟨hK, h1, h2⟩ hb => ⟨hK.trans (Kp.of_below hb (Nat.le_trans hCW hK.size)), fun h => ⟨own_below (h1 h).1 hb (Nat.le_refl _), (h1 h).2.below hb (h1 h).2.lt⟩, fun h => own_below (h2 h) hb (Nat.le_refl _)⟩, fun _ _ h => h.1.size⟩ (phiS_cons (monoS_till mono_bs) (phiS_cons (monoS_cp (f := fun A c => .slice A (i + 1) c)) (phiS_cons (monoS_till mono_bs) (phiS_cons (monoS_cp (f := fun A c => .slice A (i + 1) c)) (phiS_nil))))) (fun i_ hi_ hs_ => ?_) (fun i_ hi_ => ?_) ?_
     ·match i_, hi_ with
      | 0, _ =>
       intro val fl w1 a hb ha hd hfl;obtain ⟨hK, h1, h2⟩ := hb;have ha := ha.s0 (d := 7) rfl
       exact ss_val ha rfl rfl (fa_62_0 rfl) rfl rfl
      | 1, _ =>
       intro val fl w1 a hb ha hd hfl;obtain ⟨hK, h1, h2⟩ := hb;have e0 : val 0 = .pointer (some ⟨g5, 0, none⟩) := hd 0 (memB_mem.1 rfl);have ha := ha.s1 (d := 64) rfl e0
       exact ss_val ha rfl rfl (ld_60 rfl ((hK.blk _ _ _ q5 rfl).at (j := 0) rfl)) rfl rfl
      | 2, _ =>
       intro val fl w1 a hb ha hd hfl;obtain ⟨hK, h1, h2⟩ := hb;have ha := ha.s0 (d := 9) rfl
       exact ss_val ha rfl rfl (ld_24 rfl ((h1 (hfl 4 (by simp) (memB_mem.1 rfl))).2.at (j := 0) rfl) ((h1 (hfl 4 (by simp) (memB_mem.1 rfl))).2.at (j := 1) rfl)) rfl rfl
      | 3, _ =>
       intro val fl w1 a hb ha hd hfl;obtain ⟨hK, h1, h2⟩ := hb;have e2 : val 2 = .agg #[.int .i64 (lessR (t.res.getD i bd0) (ru.kinds.getD k kd0).power).lo, .int .i64 (lessR (t.res.getD i bd0) (ru.kinds.getD k kd0).power).hi] := hd 2 (memB_mem.1 rfl);have ha := ha.s1 (d := 66) rfl e2
       exact ss_newS ha rfl rfl (bs_60_1 rfl) rfl (fun g w' hq _ hge => fun _ => ⟨g, rfl, hq, Nat.le_trans hK.size hge⟩)
      | 4, _ =>
       exact absurd (by simp) hs_
      | 5, _ =>
       intro val fl w1 a hb ha hd hfl;obtain ⟨hK, h1, h2⟩ := hb;have ha := ha.s0 (d := 7) rfl
       exact ss_val ha rfl rfl (fa_62_1 rfl) rfl rfl
      | 6, _ =>
       intro val fl w1 a hb ha hd hfl;obtain ⟨hK, h1, h2⟩ := hb;have e5 : val 5 = .pointer (some ⟨g5, 1, none⟩) := hd 5 (memB_mem.1 rfl);have ha := ha.s1 (d := 69) rfl e5
       exact ss_val ha rfl rfl (ld_22 rfl ((hK.blk _ _ _ q5 rfl).at (j := 1) rfl)) rfl rfl
      | 7, _ =>
       intro val fl w1 a hb ha hd hfl;obtain ⟨hK, h1, h2⟩ := hb;have ha := ha.s0 (d := 10) rfl
       exact ss_val ha rfl rfl (x_move rfl) rfl rfl
      | 8, _ =>
       intro val fl w1 a hb ha hd hfl;obtain ⟨hK, h1, h2⟩ := hb;have e7 : val 7 = .int .i64 (t.aft.getD i 0) := hd 7 (memB_mem.1 rfl);have ha := ha.s1 (d := 71) rfl e7
       exact ss_newS ha rfl rfl (bs_22_1 rfl) rfl (fun g w' hq _ hge => fun _ => ⟨g, rfl, hq, Nat.le_trans hK.size hge⟩)
      | 9, _ =>
       exact absurd (by simp) hs_
      | 10, _ =>
       intro val fl w1 a hb ha hd hfl;obtain ⟨hK, h1, h2⟩ := hb;have ha := ha.s0 (d := 7) rfl
       exact ss_val ha rfl rfl (fa_62_0 rfl) rfl rfl
      | k + 11, h => exact absurd h (by omega)
     ·simp only [List.mem_cons, List.not_mem_nil, or_false] at hi_; rcases hi_ with rfl | rfl
      ·
       intro val fl w1 a hb hfi ha hd hfl;obtain ⟨hK, h1, h2⟩ := hb;have e1 : val 1 = .slice A1 i c1 := hd 1 (memB_mem.1 rfl);obtain ⟨g3_, e3, q3_, h3_⟩ := hd 3 (memB_mem.1 rfl) hfi;change val 3 = _ at e3;have ha := ha.s2 (d := 67) (e := 65) rfl e3 rfl e1;refine ts_push bdR_elem ha rfl rfl rfl (h1 hfi).1 (rd_one (l := [.int .i64 (lessR (t.res.getD i bd0) (ru.kinds.getD k kd0).power).lo, .int .i64 (lessR (t.res.getD i bd0) (ru.kinds.getD k kd0).power).hi]) q3_ rfl) (by intro u hu; simp only [List.mem_cons, List.not_mem_nil, or_false] at hu; rcases hu with rfl | rfl <;> rfl) (by omega) rfl (Nat.le_trans hCW hK.size) ?_
       intro v' w' ho' hgr hat;obtain ⟨A', c', rfl, _⟩ := (Rd.of_own ho').shape;refine ⟨_, rfl, hgr.size, ⟨hK.trans (Kp.own (h1 hfi).1 rfl (Nat.le_refl _) (Nat.le_trans hCW hK.size) hgr), (fun h => by rw [fset_eq] at h; cases h), fun h => own_grown (h2 (by rwa [fset_ne rfl] at h)) (h1 hfi).1 rfl hgr⟩, ⟨A', c', rfl, ho'⟩, fun j _ hj hn hA => ?_⟩
       exact phiS_cons_st (C := fun j => j ≠ 4 ∧ 4 ∉ clsAt [[], [0], [], [2], [0, 1, 2, 3], [], [5], [], [7], [0, 1, 2, 3, 4, 5, 6, 7, 8], [0, 1, 2, 3, 4, 5, 6], [0, 1, 2, 3, 4, 5, 6, 7, 8, 9, 10], [0, 1, 2, 3, 4, 5, 6, 7, 8, 9, 10, 11], [0, 1, 2, 3, 4, 5, 6, 7, 8, 9, 10, 11, 12]] j) (fun _ _ h => by rw [fset_eq] at h; cases h) (phiS_cons_st (C := fun j => j ≠ 4 ∧ 4 ∉ clsAt [[], [0], [], [2], [0, 1, 2, 3], [], [5], [], [7], [0, 1, 2, 3, 4, 5, 6, 7, 8], [0, 1, 2, 3, 4, 5, 6], [0, 1, 2, 3, 4, 5, 6, 7, 8, 9, 10], [0, 1, 2, 3, 4, 5, 6, 7, 8, 9, 10, 11], [0, 1, 2, 3, 4, 5, 6, 7, 8, 9, 10, 11, 12]] j) (fun hc => absurd rfl hc.1) (phiS_cons_st (C := fun j => j ≠ 4 ∧ 4 ∉ clsAt [[], [0], [], [2], [0, 1, 2, 3], [], [5], [], [7], [0, 1, 2, 3, 4, 5, 6, 7, 8], [0, 1, 2, 3, 4, 5, 6], [0, 1, 2, 3, 4, 5, 6, 7, 8, 9, 10], [0, 1, 2, 3, 4, 5, 6, 7, 8, 9, 10, 11], [0, 1, 2, 3, 4, 5, 6, 7, 8, 9, 10, 11, 12]] j) (fun _ hh h => let ⟨g, a1, a2, a3⟩ := hh (by rwa [fset_ne rfl] at h); ⟨g, a1, blk_grown a2 (h1 hfi).1 rfl hgr, a3⟩) (phiS_cons_st (C := fun j => j ≠ 4 ∧ 4 ∉ clsAt [[], [0], [], [2], [0, 1, 2, 3], [], [5], [], [7], [0, 1, 2, 3, 4, 5, 6, 7, 8], [0, 1, 2, 3, 4, 5, 6], [0, 1, 2, 3, 4, 5, 6, 7, 8, 9, 10], [0, 1, 2, 3, 4, 5, 6, 7, 8, 9, 10, 11], [0, 1, 2, 3, 4, 5, 6, 7, 8, 9, 10, 11, 12]] j) (fun hc => absurd (memB_mem.1 rfl) hc.2) (fun _ _ h => h)))) j ⟨hj, hn⟩
      ·
       intro val fl w1 a hb hfi ha hd hfl;obtain ⟨hK, h1, h2⟩ := hb;have e6 : val 6 = .slice A2 i c2 := hd 6 (memB_mem.1 rfl);obtain ⟨g8_, e8, q8_, h8_⟩ := hd 8 (memB_mem.1 rfl) hfi;change val 8 = _ at e8;have ha := ha.s2 (d := 72) (e := 70) rfl e8 rfl e6;refine ts_push ir_elem ha rfl rfl rfl (h2 hfi) (rd_one (l := [.int .i64 (t.aft.getD i 0)]) q8_ rfl) (by intro u hu; simp only [List.mem_cons, List.not_mem_nil, or_false] at hu; rcases hu with rfl <;> rfl) (by omega) rfl (Nat.le_trans hCW hK.size) ?_
       intro v' w' ho' hgr hat;obtain ⟨A', c', rfl, _⟩ := (Rd.of_own ho').shape;refine ⟨_, rfl, hgr.size, ⟨hK.trans (Kp.own (h2 hfi) rfl (Nat.le_refl _) (Nat.le_trans hCW hK.size) hgr), (fun h => ⟨own_grown (h1 (by rwa [fset_ne rfl] at h)).1 (h2 hfi) rfl hgr, blk_grown (h1 (by rwa [fset_ne rfl] at h)).2 (h2 hfi) rfl hgr⟩), (fun h => by rw [fset_eq] at h; cases h)⟩, ⟨A', c', rfl, ho'⟩, fun j _ hj hn hA => ?_⟩
       exact phiS_cons_st (C := fun j => j ≠ 9 ∧ 9 ∉ clsAt [[], [0], [], [2], [0, 1, 2, 3], [], [5], [], [7], [0, 1, 2, 3, 4, 5, 6, 7, 8], [0, 1, 2, 3, 4, 5, 6], [0, 1, 2, 3, 4, 5, 6, 7, 8, 9, 10], [0, 1, 2, 3, 4, 5, 6, 7, 8, 9, 10, 11], [0, 1, 2, 3, 4, 5, 6, 7, 8, 9, 10, 11, 12]] j) (fun _ hh h => let ⟨g, a1, a2, a3⟩ := hh (by rwa [fset_ne rfl] at h); ⟨g, a1, blk_grown a2 (h2 hfi) rfl hgr, a3⟩) (phiS_cons_st (C := fun j => j ≠ 9 ∧ 9 ∉ clsAt [[], [0], [], [2], [0, 1, 2, 3], [], [5], [], [7], [0, 1, 2, 3, 4, 5, 6, 7, 8], [0, 1, 2, 3, 4, 5, 6], [0, 1, 2, 3, 4, 5, 6, 7, 8, 9, 10], [0, 1, 2, 3, 4, 5, 6, 7, 8, 9, 10, 11], [0, 1, 2, 3, 4, 5, 6, 7, 8, 9, 10, 11, 12]] j) (fun _ ⟨A, c, a1, a2⟩ => ⟨A, c, a1, own_grown a2 (h2 hfi) rfl hgr⟩) (phiS_cons_st (C := fun j => j ≠ 9 ∧ 9 ∉ clsAt [[], [0], [], [2], [0, 1, 2, 3], [], [5], [], [7], [0, 1, 2, 3, 4, 5, 6, 7, 8], [0, 1, 2, 3, 4, 5, 6], [0, 1, 2, 3, 4, 5, 6, 7, 8, 9, 10], [0, 1, 2, 3, 4, 5, 6, 7, 8, 9, 10, 11], [0, 1, 2, 3, 4, 5, 6, 7, 8, 9, 10, 11, 12]] j) (fun _ _ h => by rw [fset_eq] at h; cases h) (phiS_cons_st (C := fun j => j ≠ 9 ∧ 9 ∉ clsAt [[], [0], [], [2], [0, 1, 2, 3], [], [5], [], [7], [0, 1, 2, 3, 4, 5, 6, 7, 8], [0, 1, 2, 3, 4, 5, 6], [0, 1, 2, 3, 4, 5, 6, 7, 8, 9, 10], [0, 1, 2, 3, 4, 5, 6, 7, 8, 9, 10, 11], [0, 1, 2, 3, 4, 5, 6, 7, 8, 9, 10, 11, 12]] j) (fun hc => absurd rfl hc.1) (fun _ _ h => h)))) j ⟨hj, hn⟩
     ·intro val fl wR13 hfl hb halc hd
      obtain ⟨hK, _, _⟩ := hb;have e0 : val 0 = .pointer (some ⟨g5, 0, none⟩) := hd 0 (by omega)
      have e1 : val 1 = .slice A1 i c1 := hd 1 (by omega)
      have e2 : val 2 = .agg #[.int .i64 (lessR (t.res.getD i bd0) (ru.kinds.getD k kd0).power).lo, .int .i64 (lessR (t.res.getD i bd0) (ru.kinds.getD k kd0).power).hi] := hd 2 (by omega)
      obtain ⟨B1, d1, e4, hn1⟩ := hd 4 (by omega)
      have e5 : val 5 = .pointer (some ⟨g5, 1, none⟩) := hd 5 (by omega)
      have e6 : val 6 = .slice A2 i c2 := hd 6 (by omega)
      have e7 : val 7 = .int .i64 (t.aft.getD i 0) := hd 7 (by omega)
      obtain ⟨B2, d2, e9, hn2⟩ := hd 9 (by omega)
      have e10 : val 10 = .pointer (some ⟨g5, 0, none⟩) := hd 10 (by omega)
      refine EL.ends (cs := [.pointer (some ⟨g5, 0, none⟩), .slice A1 i c1, .agg #[.int .i64 (lessR (t.res.getD i bd0) (ru.kinds.getD k kd0).power).lo, .int .i64 (lessR (t.res.getD i bd0) (ru.kinds.getD k kd0).power).hi], val 3, .slice B1 (i + 1) d1, .pointer (some ⟨g5, 1, none⟩), .slice A2 i c2, .int .i64 (t.aft.getD i 0), val 8, .slice B2 (i + 1) d2, .pointer (some ⟨g5, 0, none⟩)]) ⟨e0, e1, e2, rfl, e4, e5, e6, e7, rfl, e9, e10, trivial⟩ rfl ?_;replace q1 := hK.blk _ _ _ q1 rfl;replace q2 := hK.blk _ _ _ q2 rfl;replace q3 := hK.blk _ _ _ q3 rfl;replace q4 := hK.blk _ _ _ q4 rfl;replace q5 := hK.blk _ _ _ q5 rfl;clear ho1 ho2;have ho1 : wR13.ownsRow w.heap.size 24 2 (.slice B1 (i + 1) d1) (i + 1) ((bdsC ((List.range i).map (resR ru t x))) ++ [.int .i64 (lessR (t.res.getD i bd0) (ru.kinds.getD k kd0).power).lo, .int .i64 (lessR (t.res.getD i bd0) (ru.kinds.getD k kd0).power).hi]) := hn1;have ho2 : wR13.ownsRow w.heap.size 3 1 (.slice B2 (i + 1) d2) (i + 1) ((ints ((List.range i).map (aftR t x))) ++ [.int .i64 (t.aft.getD i 0)]) := hn2;clear hn1 hn2;replace hbw := hbw.trans hK.below;clear hK;refine EL.store rfl rfl q5 sz_60 rfl rfl rfl rfl ?_;intro w9 hq9 hg9;replace q1 := q1.gr hg9 n1_5;replace q2 := q2.gr hg9 n2_5;replace q3 := q3.gr hg9 n3_5;replace q4 := q4.gr hg9 n4_5;replace ho1 := own_type ho1 q5 rfl hg9;replace ho2 := own_type ho2 q5 rfl hg9;replace hbw := below_store hbw hg9 bhbw_5;replace q5 := hq9;clear hg9 hq9;refine EL.val (fa_62_1 rfl) rfl (EL.store rfl rfl q5 sz_22 rfl rfl rfl rfl ?_);intro w10 hq10 hg10;replace q1 := q1.gr hg10 n1_5;replace q2 := q2.gr hg10 n2_5;replace q3 := q3.gr hg10 n3_5;replace q4 := q4.gr hg10 n4_5;replace ho1 := own_type ho1 q5 rfl hg10;replace ho2 := own_type ho2 q5 rfl hg10;replace hbw := below_store hbw hg10 bhbw_5;replace q5 := hq10;clear hg10 hq10;refine EL.nil (EX.blk (EX.seq (EC.region (EL.mv rfl rfl ?_))));refine EL.val (x_add rfl rfl (c := ((i + 1 : Nat) : Int)) ((IntWalk.i64_in _ ⟨by first | omega | (simp only; omega), by first | omega | (simp only; omega)⟩).trans (by first | omega | (simp only; omega)))) rfl ?_
      refine EL.as rfl rfl (EL.nil ?_);refine EX.roundD (i + 1, B1, d1, B2, d2) ⟨rfl, trivial⟩ (by repeat first | with_reducible exact Sub.refl _ | refine sub_past rfl ?_ | exact Sub.refl _ | refine sub_del rfl ?_ | refine sub_insL_nil ?_) ⟨hlt, q1, q2, q3, q4, q5, own_cast ho1 rfl (by rw [map_bd, hres]), own_cast ho2 rfl (by rw [map_int, haft]), hbw⟩ (by simp only; omega)
   ·
    have hk2 : ¬x.kind = 2 := by omega
    refine EL.val (x_eql (r := false) rfl rfl (decide_eq_false hk2)) rfl (EL.nil (EX.seq (EC.no rfl (EC.seq (EC.region (EL.mv rfl rfl (EL.val (fa_50_1 rfl) rfl (EL.val (ld_3 rfl (q3.at (j := 1) rfl)) rfl ?_))))))))
    by_cases hic : ((i : Nat) : Int) = x.number
    ·
     obtain ⟨bl, ol, eAl, _, hlv⟩ := ints_cells ru.levels i hlt wR5 B _ _ _ (hr.below (hbw.mono hB)).levels;refine EL.val (x_eql (r := true) rfl rfl (decide_eq_true hic)) rfl (EL.nil (EX.seq (EC.yes rfl ?_)));have lt_1 := q1.lt;have lt_2 := q2.lt;have lt_3 := q3.lt;have lt_4 := q4.lt;have lt_5 := q5.lt;have lt_7 := qa10_5.lt;refine EC.regionP [[], [0], [], [0, 1, 2], [0, 1, 2, 3], [], [5], [], [5, 6, 7], [5, 6, 7, 8], [0, 1, 2, 3, 4, 5, 6, 7, 8, 9], [0, 1, 2, 3, 4, 5, 6, 7, 8, 9, 10], [0, 1, 2, 3, 4, 5, 6, 7, 8, 9, 10, 11]] 11 [] (phi (fun i_ r => match i_ with | 0 => r 0 = .pointer (some ⟨g1, 0, none⟩) | 1 => r 1 = .slice Al ru.levels.length cl | 2 => r 2 = .int .i64 (i : Nat) | 3 => r 3 = .pointer (some ⟨bl, ol + i, none⟩) | 4 => r 4 = .int .i64 (ru.levels.getD i 0) | 5 => r 5 = .pointer (some ⟨g1, 0, none⟩) | 6 => r 6 = .slice Al ru.levels.length cl | 7 => r 7 = .int .i64 (i : Nat) | 8 => r 8 = .pointer (some ⟨bl, ol + i, none⟩) | 9 => r 9 = .int .i64 (ru.levels.getD i 0) | 10 => r 10 = .agg #[.int .i64 (ru.levels.getD i 0), .int .i64 (ru.levels.getD i 0)] | _ => True) []) (by kernel_rfl) rfl rfl (phi_nil) (fun i_ hi_ => ?_) ?_
     ·match i_, hi_ with
      | 0, _ =>
       intro val w1 a hb ha hd;have ha := ha.s0 (d := 3) rfl
       exact hs_val ha rfl rfl (fa_28_0 rfl) rfl rfl
      | 1, _ =>
       intro val w1 a hb ha hd;have e0 : val 0 = .pointer (some ⟨g1, 0, none⟩) := hd 0 (memB_mem.1 rfl);have ha := ha.s1 (d := 45) rfl e0
       exact hs_val ha rfl rfl (ld_22 rfl ((q1.below hb q1.lt).at (j := 0) rfl)) rfl rfl
      | 2, _ =>
       intro val w1 a hb ha hd;have ha := ha.s0 (d := 8) rfl
       exact hs_val ha rfl rfl (x_move rfl) rfl rfl
      | 3, _ =>
       intro val w1 a hb ha hd;have e1 : val 1 = .slice Al ru.levels.length cl := hd 1 (memB_mem.1 rfl);have e2 : val 2 = .int .i64 (i : Nat) := hd 2 (memB_mem.1 rfl);have ha := ha.s2 (d := 47) (e := 46) rfl e2 rfl e1
       exact hs_val ha rfl rfl (ix_22 (by show some (Value.slice Al _ _) = _; rw [eAl]) rfl hlt) rfl rfl
      | 4, _ =>
       intro val w1 a hb ha hd;have e3 : val 3 = .pointer (some ⟨bl, ol + i, none⟩) := hd 3 (memB_mem.1 rfl);have ha := ha.s1 (d := 48) rfl e3
       exact hs_val ha rfl rfl (ld_3 rfl (below_load hb hlv)) rfl rfl
      | 5, _ =>
       intro val w1 a hb ha hd;have ha := ha.s0 (d := 3) rfl
       exact hs_val ha rfl rfl (fa_28_0 rfl) rfl rfl
      | 6, _ =>
       intro val w1 a hb ha hd;have e5 : val 5 = .pointer (some ⟨g1, 0, none⟩) := hd 5 (memB_mem.1 rfl);have ha := ha.s1 (d := 50) rfl e5
       exact hs_val ha rfl rfl (ld_22 rfl ((q1.below hb q1.lt).at (j := 0) rfl)) rfl rfl
      | 7, _ =>
       intro val w1 a hb ha hd;have ha := ha.s0 (d := 8) rfl
       exact hs_val ha rfl rfl (x_move rfl) rfl rfl
      | 8, _ =>
       intro val w1 a hb ha hd;have e6 : val 6 = .slice Al ru.levels.length cl := hd 6 (memB_mem.1 rfl);have e7 : val 7 = .int .i64 (i : Nat) := hd 7 (memB_mem.1 rfl);have ha := ha.s2 (d := 52) (e := 51) rfl e7 rfl e6
       exact hs_val ha rfl rfl (ix_22 (by show some (Value.slice Al _ _) = _; rw [eAl]) rfl hlt) rfl rfl
      | 9, _ =>
       intro val w1 a hb ha hd;have e8 : val 8 = .pointer (some ⟨bl, ol + i, none⟩) := hd 8 (memB_mem.1 rfl);have ha := ha.s1 (d := 53) rfl e8
       exact hs_val ha rfl rfl (ld_3 rfl (below_load hb hlv)) rfl rfl
      | 10, _ =>
       intro val w1 a hb ha hd;have e4 : val 4 = .int .i64 (ru.levels.getD i 0) := hd 4 (memB_mem.1 rfl);have e9 : val 9 = .int .i64 (ru.levels.getD i 0) := hd 9 (memB_mem.1 rfl);have ha := ha.s2 (d := 54) (e := 49) rfl e9 rfl e4
       exact hs_val ha rfl rfl (bd_24_0_1 rfl rfl) rfl rfl
      | k + 11, h => exact absurd h (by omega)
     ·intro val wR9 hb halc hd
      have e0 : val 0 = .pointer (some ⟨g1, 0, none⟩) := hd 0 (by omega)
      have e1 : val 1 = .slice Al ru.levels.length cl := hd 1 (by omega)
      have e2 : val 2 = .int .i64 (i : Nat) := hd 2 (by omega)
      have e3 : val 3 = .pointer (some ⟨bl, ol + i, none⟩) := hd 3 (by omega)
      have e4 : val 4 = .int .i64 (ru.levels.getD i 0) := hd 4 (by omega)
      have e5 : val 5 = .pointer (some ⟨g1, 0, none⟩) := hd 5 (by omega)
      have e6 : val 6 = .slice Al ru.levels.length cl := hd 6 (by omega)
      have e7 : val 7 = .int .i64 (i : Nat) := hd 7 (by omega)
      have e8 : val 8 = .pointer (some ⟨bl, ol + i, none⟩) := hd 8 (by omega)
      have e9 : val 9 = .int .i64 (ru.levels.getD i 0) := hd 9 (by omega)
      have e10 : val 10 = .agg #[.int .i64 (ru.levels.getD i 0), .int .i64 (ru.levels.getD i 0)] := hd 10 (by omega)
      refine EL.ends (cs := [.pointer (some ⟨g1, 0, none⟩), .slice Al ru.levels.length cl, .int .i64 (i : Nat), .pointer (some ⟨bl, ol + i, none⟩), .int .i64 (ru.levels.getD i 0), .pointer (some ⟨g1, 0, none⟩), .slice Al ru.levels.length cl, .int .i64 (i : Nat), .pointer (some ⟨bl, ol + i, none⟩), .int .i64 (ru.levels.getD i 0), .agg #[.int .i64 (ru.levels.getD i 0), .int .i64 (ru.levels.getD i 0)]]) ⟨e0, e1, e2, e3, e4, e5, e6, e7, e8, e9, e10, trivial⟩ rfl ?_;replace q1 := q1.bl hb;replace q2 := q2.bl hb;replace q3 := q3.bl hb;replace q4 := q4.bl hb;replace q5 := q5.bl hb;replace qa10_5 := qa10_5.bl hb;replace ho1 := own_below ho1 hb (Nat.le_refl _);replace ho2 := own_below ho2 hb (Nat.le_refl _);replace hbw := bo_ hbw hb;clear hb;refine EL.store rfl rfl qa10_5 sz_24 rfl rfl rfl rfl ?_;intro w11 hq11 hg11;replace q1 := q1.gr hg11 n1_7;replace q2 := q2.gr hg11 n2_7;replace q3 := q3.gr hg11 n3_7;replace q4 := q4.gr hg11 n4_7;replace q5 := q5.gr hg11 n5_7;replace ho1 := own_bx ho1 (fun k hk => Nat.ne_of_lt (Nat.lt_of_lt_of_le (hlo k hk) bge7)) hg11
      replace ho2 := own_type ho2 qa10_5 rfl hg11;replace hbw := below_store hbw hg11 bhbw_7;replace qa10_5 := hq11;clear hg11 hq11;refine EL.as rfl rfl (EL.nil (EX.seq ?_));have hCW := hbw.size;have hres : resR ru t x i = ⟨ru.levels.getD i 0, ru.levels.getD i 0⟩ := by unfold resR; rw [if_neg hk2, if_pos hic]
      have haft : aftR t x i = 0 := by unfold aftR; rw [if_neg hk2, if_pos hic]
      refine EC.regionS [[], [0], [], [2], [0, 1, 2, 3], [], [5], [], [7], [0, 1, 2, 3, 4, 5, 6, 7, 8], [0, 1, 2, 3, 4, 5, 6], [0, 1, 2, 3, 4, 5, 6, 7, 8, 9, 10], [0, 1, 2, 3, 4, 5, 6, 7, 8, 9, 10, 11], [0, 1, 2, 3, 4, 5, 6, 7, 8, 9, 10, 11, 12]] 11 [] [4, 9] (fun fl w_ => Kp w.heap.size [24, 3] w11 w_ ∧ (fl 4 = false → w_.ownsRow w.heap.size 24 2 (.slice A1 i c1) i (bdsC ((List.range i).map (resR ru t x))) ∧ Blk w_ ga10_5 24 #[.int .i64 (ru.levels.getD i 0), .int .i64 (ru.levels.getD i 0)]) ∧ (fl 9 = false → w_.ownsRow w.heap.size 3 1 (.slice A2 i c2) i (ints ((List.range i).map (aftR t x))))) (phiS (fun i_ r => match i_ with | 0 => r 0 = .pointer (some ⟨g5, 0, none⟩) | 1 => r 1 = .slice A1 i c1 | 2 => r 2 = .agg #[.int .i64 (ru.levels.getD i 0), .int .i64 (ru.levels.getD i 0)] | 5 => r 5 = .pointer (some ⟨g5, 1, none⟩) | 6 => r 6 = .slice A2 i c2 | 7 => r 7 = .int .i64 0 | 10 => r 10 = .pointer (some ⟨g5, 0, none⟩) | _ => True) [(3, fun fl r w_ => fl 4 = false → (∃ g_, r 3 = .slice (some ⟨g_, 0, none⟩) 1 1 ∧ Blk w_ g_ 24 #[.int .i64 (ru.levels.getD i 0), .int .i64 (ru.levels.getD i 0)] ∧ w11.heap.size ≤ g_)), (4, fun _ r w_ => ∃ A c, r 4 = .slice A (i + 1) c ∧ w_.ownsRow w.heap.size 24 2 (.slice A (i + 1) c) (i + 1) ((bdsC ((List.range i).map (resR ru t x))) ++ [.int .i64 (ru.levels.getD i 0), .int .i64 (ru.levels.getD i 0)])), (8, fun fl r w_ => fl 9 = false → (∃ g_, r 8 = .slice (some ⟨g_, 0, none⟩) 1 1 ∧ Blk w_ g_ 3 #[.int .i64 0] ∧ w11.heap.size ≤ g_)), (9, fun _ r w_ => ∃ A c, r 9 = .slice A (i + 1) c ∧ w_.ownsRow w.heap.size 3 1 (.slice A (i + 1) c) (i + 1) ((ints ((List.range i).map (aftR t x))) ++ [.int .i64 0]))]) (by kernel_rfl) rfl rfl (by intro i hi; simp at hi; rcases hi with rfl | rfl <;> exact ⟨by simp, by omega⟩) ⟨fun _ _ => ⟨⟨rfl, rfl, rfl, Nat.le_refl _, fun _ _ => rfl, fun _ _ _ h _ => h⟩, fun _ => ⟨ho1, qa10_5⟩, fun _ => ho2⟩, fun _ _ _ ⟨hK, h1, h2⟩ hb => ⟨hK.trans (Kp.of_below hb (Nat.le_trans hCW hK.size)), fun h => ⟨own_below (h1 h).1 hb (Nat.le_refl _), (h1 h).2.below hb (h1 h).2.lt⟩, fun h => own_below (h2 h) hb (Nat.le_refl _)⟩, fun _ _ h => h.1.size⟩ (phiS_cons (monoS_till mono_bs) (phiS_cons (monoS_cp (f := fun A c => .slice A (i + 1) c)) (phiS_cons (monoS_till mono_bs) (phiS_cons (monoS_cp (f := fun A c => .slice A (i + 1) c)) (phiS_nil))))) (fun i_ hi_ hs_ => ?_) (fun i_ hi_ => ?_) ?_
      ·match i_, hi_ with
       | 0, _ =>
        intro val fl w1 a hb ha hd hfl;obtain ⟨hK, h1, h2⟩ := hb;have ha := ha.s0 (d := 7) rfl
        exact ss_val ha rfl rfl (fa_62_0 rfl) rfl rfl
       | 1, _ =>
        intro val fl w1 a hb ha hd hfl;obtain ⟨hK, h1, h2⟩ := hb;have e0 : val 0 = .pointer (some ⟨g5, 0, none⟩) := hd 0 (memB_mem.1 rfl);have ha := ha.s1 (d := 64) rfl e0
        exact ss_val ha rfl rfl (ld_60 rfl ((hK.blk _ _ _ q5 rfl).at (j := 0) rfl)) rfl rfl
       | 2, _ =>
        intro val fl w1 a hb ha hd hfl;obtain ⟨hK, h1, h2⟩ := hb;have ha := ha.s0 (d := 9) rfl
        exact ss_val ha rfl rfl (ld_24 rfl ((h1 (hfl 4 (by simp) (memB_mem.1 rfl))).2.at (j := 0) rfl) ((h1 (hfl 4 (by simp) (memB_mem.1 rfl))).2.at (j := 1) rfl)) rfl rfl
       | 3, _ =>
        intro val fl w1 a hb ha hd hfl;obtain ⟨hK, h1, h2⟩ := hb;have e2 : val 2 = .agg #[.int .i64 (ru.levels.getD i 0), .int .i64 (ru.levels.getD i 0)] := hd 2 (memB_mem.1 rfl);have ha := ha.s1 (d := 66) rfl e2
        exact ss_newS ha rfl rfl (bs_60_1 rfl) rfl (fun g w' hq _ hge => fun _ => ⟨g, rfl, hq, Nat.le_trans hK.size hge⟩)
       | 4, _ =>
        exact absurd (by simp) hs_
       | 5, _ =>
        intro val fl w1 a hb ha hd hfl;obtain ⟨hK, h1, h2⟩ := hb;have ha := ha.s0 (d := 7) rfl
        exact ss_val ha rfl rfl (fa_62_1 rfl) rfl rfl
       | 6, _ =>
        intro val fl w1 a hb ha hd hfl;obtain ⟨hK, h1, h2⟩ := hb;have e5 : val 5 = .pointer (some ⟨g5, 1, none⟩) := hd 5 (memB_mem.1 rfl);have ha := ha.s1 (d := 69) rfl e5
        exact ss_val ha rfl rfl (ld_22 rfl ((hK.blk _ _ _ q5 rfl).at (j := 1) rfl)) rfl rfl
       | 7, _ =>
        intro val fl w1 a hb ha hd hfl;obtain ⟨hK, h1, h2⟩ := hb;have ha := ha.s0 (d := 10) rfl
        exact ss_val ha rfl rfl (x_move rfl) rfl rfl
       | 8, _ =>
        intro val fl w1 a hb ha hd hfl;obtain ⟨hK, h1, h2⟩ := hb;have e7 : val 7 = .int .i64 0 := hd 7 (memB_mem.1 rfl);have ha := ha.s1 (d := 71) rfl e7
        exact ss_newS ha rfl rfl (bs_22_1 rfl) rfl (fun g w' hq _ hge => fun _ => ⟨g, rfl, hq, Nat.le_trans hK.size hge⟩)
       | 9, _ =>
        exact absurd (by simp) hs_
       | 10, _ =>
        intro val fl w1 a hb ha hd hfl;obtain ⟨hK, h1, h2⟩ := hb;have ha := ha.s0 (d := 7) rfl
        exact ss_val ha rfl rfl (fa_62_0 rfl) rfl rfl
       | k + 11, h => exact absurd h (by omega)
      ·simp only [List.mem_cons, List.not_mem_nil, or_false] at hi_; rcases hi_ with rfl | rfl
       ·
        intro val fl w1 a hb hfi ha hd hfl;obtain ⟨hK, h1, h2⟩ := hb;have e1 : val 1 = .slice A1 i c1 := hd 1 (memB_mem.1 rfl);obtain ⟨g3_, e3, q3_, h3_⟩ := hd 3 (memB_mem.1 rfl) hfi;change val 3 = _ at e3;have ha := ha.s2 (d := 67) (e := 65) rfl e3 rfl e1;refine ts_push bdR_elem ha rfl rfl rfl (h1 hfi).1 (rd_one (l := [.int .i64 (ru.levels.getD i 0), .int .i64 (ru.levels.getD i 0)]) q3_ rfl) (by intro u hu; simp only [List.mem_cons, List.not_mem_nil, or_false] at hu; rcases hu with rfl | rfl <;> rfl) (by omega) rfl (Nat.le_trans hCW hK.size) ?_
        intro v' w' ho' hgr hat;obtain ⟨A', c', rfl, _⟩ := (Rd.of_own ho').shape;refine ⟨_, rfl, hgr.size, ⟨hK.trans (Kp.own (h1 hfi).1 rfl (Nat.le_refl _) (Nat.le_trans hCW hK.size) hgr), (fun h => by rw [fset_eq] at h; cases h), fun h => own_grown (h2 (by rwa [fset_ne rfl] at h)) (h1 hfi).1 rfl hgr⟩, ⟨A', c', rfl, ho'⟩, fun j _ hj hn hA => ?_⟩
        exact phiS_cons_st (C := fun j => j ≠ 4 ∧ 4 ∉ clsAt [[], [0], [], [2], [0, 1, 2, 3], [], [5], [], [7], [0, 1, 2, 3, 4, 5, 6, 7, 8], [0, 1, 2, 3, 4, 5, 6], [0, 1, 2, 3, 4, 5, 6, 7, 8, 9, 10], [0, 1, 2, 3, 4, 5, 6, 7, 8, 9, 10, 11], [0, 1, 2, 3, 4, 5, 6, 7, 8, 9, 10, 11, 12]] j) (fun _ _ h => by rw [fset_eq] at h; cases h) (phiS_cons_st (C := fun j => j ≠ 4 ∧ 4 ∉ clsAt [[], [0], [], [2], [0, 1, 2, 3], [], [5], [], [7], [0, 1, 2, 3, 4, 5, 6, 7, 8], [0, 1, 2, 3, 4, 5, 6], [0, 1, 2, 3, 4, 5, 6, 7, 8, 9, 10], [0, 1, 2, 3, 4, 5, 6, 7, 8, 9, 10, 11], [0, 1, 2, 3, 4, 5, 6, 7, 8, 9, 10, 11, 12]] j) (fun hc => absurd rfl hc.1) (phiS_cons_st (C := fun j => j ≠ 4 ∧ 4 ∉ clsAt [[], [0], [], [2], [0, 1, 2, 3], [], [5], [], [7], [0, 1, 2, 3, 4, 5, 6, 7, 8], [0, 1, 2, 3, 4, 5, 6], [0, 1, 2, 3, 4, 5, 6, 7, 8, 9, 10], [0, 1, 2, 3, 4, 5, 6, 7, 8, 9, 10, 11], [0, 1, 2, 3, 4, 5, 6, 7, 8, 9, 10, 11, 12]] j) (fun _ hh h => let ⟨g, a1, a2, a3⟩ := hh (by rwa [fset_ne rfl] at h); ⟨g, a1, blk_grown a2 (h1 hfi).1 rfl hgr, a3⟩) (phiS_cons_st (C := fun j => j ≠ 4 ∧ 4 ∉ clsAt [[], [0], [], [2], [0, 1, 2, 3], [], [5], [], [7], [0, 1, 2, 3, 4, 5, 6, 7, 8], [0, 1, 2, 3, 4, 5, 6], [0, 1, 2, 3, 4, 5, 6, 7, 8, 9, 10], [0, 1, 2, 3, 4, 5, 6, 7, 8, 9, 10, 11], [0, 1, 2, 3, 4, 5, 6, 7, 8, 9, 10, 11, 12]] j) (fun hc => absurd (memB_mem.1 rfl) hc.2) (fun _ _ h => h)))) j ⟨hj, hn⟩
       ·
        intro val fl w1 a hb hfi ha hd hfl;obtain ⟨hK, h1, h2⟩ := hb;have e6 : val 6 = .slice A2 i c2 := hd 6 (memB_mem.1 rfl);obtain ⟨g8_, e8, q8_, h8_⟩ := hd 8 (memB_mem.1 rfl) hfi;change val 8 = _ at e8;have ha := ha.s2 (d := 72) (e := 70) rfl e8 rfl e6;refine ts_push ir_elem ha rfl rfl rfl (h2 hfi) (rd_one (l := [.int .i64 0]) q8_ rfl) (by intro u hu; simp only [List.mem_cons, List.not_mem_nil, or_false] at hu; rcases hu with rfl <;> rfl) (by omega) rfl (Nat.le_trans hCW hK.size) ?_
        intro v' w' ho' hgr hat;obtain ⟨A', c', rfl, _⟩ := (Rd.of_own ho').shape;refine ⟨_, rfl, hgr.size, ⟨hK.trans (Kp.own (h2 hfi) rfl (Nat.le_refl _) (Nat.le_trans hCW hK.size) hgr), (fun h => ⟨own_grown (h1 (by rwa [fset_ne rfl] at h)).1 (h2 hfi) rfl hgr, blk_grown (h1 (by rwa [fset_ne rfl] at h)).2 (h2 hfi) rfl hgr⟩), (fun h => by rw [fset_eq] at h; cases h)⟩, ⟨A', c', rfl, ho'⟩, fun j _ hj hn hA => ?_⟩
        exact phiS_cons_st (C := fun j => j ≠ 9 ∧ 9 ∉ clsAt [[], [0], [], [2], [0, 1, 2, 3], [], [5], [], [7], [0, 1, 2, 3, 4, 5, 6, 7, 8], [0, 1, 2, 3, 4, 5, 6], [0, 1, 2, 3, 4, 5, 6, 7, 8, 9, 10], [0, 1, 2, 3, 4, 5, 6, 7, 8, 9, 10, 11], [0, 1, 2, 3, 4, 5, 6, 7, 8, 9, 10, 11, 12]] j) (fun _ hh h => let ⟨g, a1, a2, a3⟩ := hh (by rwa [fset_ne rfl] at h); ⟨g, a1, blk_grown a2 (h2 hfi) rfl hgr, a3⟩) (phiS_cons_st (C := fun j => j ≠ 9 ∧ 9 ∉ clsAt [[], [0], [], [2], [0, 1, 2, 3], [], [5], [], [7], [0, 1, 2, 3, 4, 5, 6, 7, 8], [0, 1, 2, 3, 4, 5, 6], [0, 1, 2, 3, 4, 5, 6, 7, 8, 9, 10], [0, 1, 2, 3, 4, 5, 6, 7, 8, 9, 10, 11], [0, 1, 2, 3, 4, 5, 6, 7, 8, 9, 10, 11, 12]] j) (fun _ ⟨A, c, a1, a2⟩ => ⟨A, c, a1, own_grown a2 (h2 hfi) rfl hgr⟩) (phiS_cons_st (C := fun j => j ≠ 9 ∧ 9 ∉ clsAt [[], [0], [], [2], [0, 1, 2, 3], [], [5], [], [7], [0, 1, 2, 3, 4, 5, 6, 7, 8], [0, 1, 2, 3, 4, 5, 6], [0, 1, 2, 3, 4, 5, 6, 7, 8, 9, 10], [0, 1, 2, 3, 4, 5, 6, 7, 8, 9, 10, 11], [0, 1, 2, 3, 4, 5, 6, 7, 8, 9, 10, 11, 12]] j) (fun _ _ h => by rw [fset_eq] at h; cases h) (phiS_cons_st (C := fun j => j ≠ 9 ∧ 9 ∉ clsAt [[], [0], [], [2], [0, 1, 2, 3], [], [5], [], [7], [0, 1, 2, 3, 4, 5, 6, 7, 8], [0, 1, 2, 3, 4, 5, 6], [0, 1, 2, 3, 4, 5, 6, 7, 8, 9, 10], [0, 1, 2, 3, 4, 5, 6, 7, 8, 9, 10, 11], [0, 1, 2, 3, 4, 5, 6, 7, 8, 9, 10, 11, 12]] j) (fun hc => absurd rfl hc.1) (fun _ _ h => h)))) j ⟨hj, hn⟩
      ·intro val fl wR13 hfl hb halc hd
       obtain ⟨hK, _, _⟩ := hb;have e0 : val 0 = .pointer (some ⟨g5, 0, none⟩) := hd 0 (by omega)
       have e1 : val 1 = .slice A1 i c1 := hd 1 (by omega)
       have e2 : val 2 = .agg #[.int .i64 (ru.levels.getD i 0), .int .i64 (ru.levels.getD i 0)] := hd 2 (by omega)
       obtain ⟨B1, d1, e4, hn1⟩ := hd 4 (by omega)
       have e5 : val 5 = .pointer (some ⟨g5, 1, none⟩) := hd 5 (by omega)
       have e6 : val 6 = .slice A2 i c2 := hd 6 (by omega)
       have e7 : val 7 = .int .i64 0 := hd 7 (by omega)
       obtain ⟨B2, d2, e9, hn2⟩ := hd 9 (by omega)
       have e10 : val 10 = .pointer (some ⟨g5, 0, none⟩) := hd 10 (by omega)
       refine EL.ends (cs := [.pointer (some ⟨g5, 0, none⟩), .slice A1 i c1, .agg #[.int .i64 (ru.levels.getD i 0), .int .i64 (ru.levels.getD i 0)], val 3, .slice B1 (i + 1) d1, .pointer (some ⟨g5, 1, none⟩), .slice A2 i c2, .int .i64 0, val 8, .slice B2 (i + 1) d2, .pointer (some ⟨g5, 0, none⟩)]) ⟨e0, e1, e2, rfl, e4, e5, e6, e7, rfl, e9, e10, trivial⟩ rfl ?_;replace q1 := hK.blk _ _ _ q1 rfl;replace q2 := hK.blk _ _ _ q2 rfl;replace q3 := hK.blk _ _ _ q3 rfl;replace q4 := hK.blk _ _ _ q4 rfl;replace q5 := hK.blk _ _ _ q5 rfl;clear ho1 ho2;have ho1 : wR13.ownsRow w.heap.size 24 2 (.slice B1 (i + 1) d1) (i + 1) ((bdsC ((List.range i).map (resR ru t x))) ++ [.int .i64 (ru.levels.getD i 0), .int .i64 (ru.levels.getD i 0)]) := hn1;have ho2 : wR13.ownsRow w.heap.size 3 1 (.slice B2 (i + 1) d2) (i + 1) ((ints ((List.range i).map (aftR t x))) ++ [.int .i64 0]) := hn2;clear hn1 hn2;replace hbw := hbw.trans hK.below;clear hK;refine EL.store rfl rfl q5 sz_60 rfl rfl rfl rfl ?_;intro w12 hq12 hg12;replace q1 := q1.gr hg12 n1_5;replace q2 := q2.gr hg12 n2_5;replace q3 := q3.gr hg12 n3_5;replace q4 := q4.gr hg12 n4_5;replace ho1 := own_type ho1 q5 rfl hg12;replace ho2 := own_type ho2 q5 rfl hg12;replace hbw := below_store hbw hg12 bhbw_5;replace q5 := hq12;clear hg12 hq12;refine EL.val (fa_62_1 rfl) rfl (EL.store rfl rfl q5 sz_22 rfl rfl rfl rfl ?_);intro w13 hq13 hg13;replace q1 := q1.gr hg13 n1_5;replace q2 := q2.gr hg13 n2_5;replace q3 := q3.gr hg13 n3_5;replace q4 := q4.gr hg13 n4_5;replace ho1 := own_type ho1 q5 rfl hg13;replace ho2 := own_type ho2 q5 rfl hg13;replace hbw := below_store hbw hg13 bhbw_5;replace q5 := hq13;clear hg13 hq13;refine EL.nil (EX.blk (EX.seq (EC.region (EL.mv rfl rfl ?_))));refine EL.val (x_add rfl rfl (c := ((i + 1 : Nat) : Int)) ((IntWalk.i64_in _ ⟨by first | omega | (simp only; omega), by first | omega | (simp only; omega)⟩).trans (by first | omega | (simp only; omega)))) rfl ?_
       refine EL.as rfl rfl (EL.nil ?_);refine EX.roundD (i + 1, B1, d1, B2, d2) ⟨rfl, trivial⟩ (by repeat first | with_reducible exact Sub.refl _ | refine sub_past rfl ?_ | exact Sub.refl _ | refine sub_del rfl ?_ | refine sub_insL_nil ?_) ⟨hlt, q1, q2, q3, q4, q5, own_cast ho1 rfl (by rw [map_bd, hres]), own_cast ho2 rfl (by rw [map_int, haft]), hbw⟩ (by simp only; omega)
    ·
     refine EL.val (x_eql (r := false) rfl rfl (decide_eq_false hic)) rfl (EL.nil (EX.seq (EC.no rfl (EC.seq (EC.region (EL.val (ld_24 rfl (qa10_5.at (j := 0) rfl) (qa10_5.at (j := 1) rfl)) rfl (EL.val (fa_28_1 rfl) rfl (EL.val (ld_24 rfl (q1.at (j := 1) rfl) (q1.at (j := 2) rfl)) rfl ?_))))))));refine EL.call (cl_81 rfl rfl) rfl (less_any ⟨hbb1, hbb2⟩ (by have := hro.fade; omega) _) ?_
     rintro e w14 ⟨rfl, hc14⟩
     refine ⟨_, rfl, ?_⟩;replace q1 := q1.bl hc14;replace q2 := q2.bl hc14;replace q3 := q3.bl hc14;replace q4 := q4.bl hc14;replace q5 := q5.bl hc14;replace qa10_5 := qa10_5.bl hc14;replace ho1 := own_below ho1 hc14 (Nat.le_refl _);replace ho2 := own_below ho2 hc14 (Nat.le_refl _);replace hbw := bo_ hbw hc14;clear hc14;refine EL.store rfl rfl qa10_5 sz_24 rfl rfl rfl rfl ?_;intro w15 hq15 hg15;replace q1 := q1.gr hg15 n1_7;replace q2 := q2.gr hg15 n2_7;replace q3 := q3.gr hg15 n3_7;replace q4 := q4.gr hg15 n4_7;replace q5 := q5.gr hg15 n5_7;replace ho1 := own_bx ho1 (fun k hk => Nat.ne_of_lt (Nat.lt_of_lt_of_le (hlo k hk) bge7)) hg15
     replace ho2 := own_type ho2 qa10_5 rfl hg15;replace hbw := below_store hbw hg15 bhbw_7;replace qa10_5 := hq15;clear hg15 hq15;refine EL.nil (EX.seq (EC.seq (EC.region (EL.mv rfl rfl ?_))))
     by_cases hag : 0 ≤ (t.aft.getD i 0)
     ·
      refine EL.val (x_geq (r := true) rfl rfl (decide_eq_true hag)) rfl (EL.nil (EX.seq (EC.yes rfl (EC.region (EL.mv rfl rfl ?_)))));refine EL.val (x_add rfl rfl (c := (t.aft.getD i 0) + 1) (IntWalk.i64_in _ ⟨by omega, by omega⟩)) rfl ?_
      refine EL.as rfl rfl (EL.nil (EX.seq ?_));have hCW := hbw.size;have hres : resR ru t x i = (lessR (t.res.getD i bd0) ru.fade) := by unfold resR; rw [if_neg hk2, if_neg hic]
      have haft : aftR t x i = ((t.aft.getD i 0) + 1) := by unfold aftR; rw [if_neg hk2, if_neg hic, if_pos hag]
      refine EC.regionS [[], [0], [], [2], [0, 1, 2, 3], [], [5], [], [7], [0, 1, 2, 3, 4, 5, 6, 7, 8], [0, 1, 2, 3, 4, 5, 6], [0, 1, 2, 3, 4, 5, 6, 7, 8, 9, 10], [0, 1, 2, 3, 4, 5, 6, 7, 8, 9, 10, 11], [0, 1, 2, 3, 4, 5, 6, 7, 8, 9, 10, 11, 12]] 11 [] [4, 9] (fun fl w_ => Kp w.heap.size [24, 3] w15 w_ ∧ (fl 4 = false → w_.ownsRow w.heap.size 24 2 (.slice A1 i c1) i (bdsC ((List.range i).map (resR ru t x))) ∧ Blk w_ ga10_5 24 #[.int .i64 (lessR (t.res.getD i bd0) ru.fade).lo, .int .i64 (lessR (t.res.getD i bd0) ru.fade).hi]) ∧ (fl 9 = false → w_.ownsRow w.heap.size 3 1 (.slice A2 i c2) i (ints ((List.range i).map (aftR t x))))) (phiS (fun i_ r => match i_ with | 0 => r 0 = .pointer (some ⟨g5, 0, none⟩) | 1 => r 1 = .slice A1 i c1 | 2 => r 2 = .agg #[.int .i64 (lessR (t.res.getD i bd0) ru.fade).lo, .int .i64 (lessR (t.res.getD i bd0) ru.fade).hi] | 5 => r 5 = .pointer (some ⟨g5, 1, none⟩) | 6 => r 6 = .slice A2 i c2 | 7 => r 7 = .int .i64 ((t.aft.getD i 0) + 1) | 10 => r 10 = .pointer (some ⟨g5, 0, none⟩) | _ => True) [(3, fun fl r w_ => fl 4 = false → (∃ g_, r 3 = .slice (some ⟨g_, 0, none⟩) 1 1 ∧ Blk w_ g_ 24 #[.int .i64 (lessR (t.res.getD i bd0) ru.fade).lo, .int .i64 (lessR (t.res.getD i bd0) ru.fade).hi] ∧ w15.heap.size ≤ g_)), (4, fun _ r w_ => ∃ A c, r 4 = .slice A (i + 1) c ∧ w_.ownsRow w.heap.size 24 2 (.slice A (i + 1) c) (i + 1) ((bdsC ((List.range i).map (resR ru t x))) ++ [.int .i64 (lessR (t.res.getD i bd0) ru.fade).lo, .int .i64 (lessR (t.res.getD i bd0) ru.fade).hi])), (8, fun fl r w_ => fl 9 = false → (∃ g_, r 8 = .slice (some ⟨g_, 0, none⟩) 1 1 ∧ Blk w_ g_ 3 #[.int .i64 ((t.aft.getD i 0) + 1)] ∧ w15.heap.size ≤ g_)), (9, fun _ r w_ => ∃ A c, r 9 = .slice A (i + 1) c ∧ w_.ownsRow w.heap.size 3 1 (.slice A (i + 1) c) (i + 1) ((ints ((List.range i).map (aftR t x))) ++ [.int .i64 ((t.aft.getD i 0) + 1)]))]) (by kernel_rfl) rfl rfl (by intro i hi; simp at hi; rcases hi with rfl | rfl <;> exact ⟨by simp, by omega⟩) ⟨fun _ _ => ⟨⟨rfl, rfl, rfl, Nat.le_refl _, fun _ _ => rfl, fun _ _ _ h _ => h⟩, fun _ => ⟨ho1, qa10_5⟩, fun _ => ho2⟩, fun _ _ _ ⟨hK, h1, h2⟩ hb => ⟨hK.trans (Kp.of_below hb (Nat.le_trans hCW hK.size)), fun h => ⟨own_below (h1 h).1 hb (Nat.le_refl _), (h1 h).2.below hb (h1 h).2.lt⟩, fun h => own_below (h2 h) hb (Nat.le_refl _)⟩, fun _ _ h => h.1.size⟩ (phiS_cons (monoS_till mono_bs) (phiS_cons (monoS_cp (f := fun A c => .slice A (i + 1) c)) (phiS_cons (monoS_till mono_bs) (phiS_cons (monoS_cp (f := fun A c => .slice A (i + 1) c)) (phiS_nil))))) (fun i_ hi_ hs_ => ?_) (fun i_ hi_ => ?_) ?_
      ·match i_, hi_ with
       | 0, _ =>
        intro val fl w1 a hb ha hd hfl;obtain ⟨hK, h1, h2⟩ := hb;have ha := ha.s0 (d := 7) rfl
        exact ss_val ha rfl rfl (fa_62_0 rfl) rfl rfl
       | 1, _ =>
        intro val fl w1 a hb ha hd hfl;obtain ⟨hK, h1, h2⟩ := hb;have e0 : val 0 = .pointer (some ⟨g5, 0, none⟩) := hd 0 (memB_mem.1 rfl);have ha := ha.s1 (d := 64) rfl e0
        exact ss_val ha rfl rfl (ld_60 rfl ((hK.blk _ _ _ q5 rfl).at (j := 0) rfl)) rfl rfl
       | 2, _ =>
        intro val fl w1 a hb ha hd hfl;obtain ⟨hK, h1, h2⟩ := hb;have ha := ha.s0 (d := 9) rfl
        exact ss_val ha rfl rfl (ld_24 rfl ((h1 (hfl 4 (by simp) (memB_mem.1 rfl))).2.at (j := 0) rfl) ((h1 (hfl 4 (by simp) (memB_mem.1 rfl))).2.at (j := 1) rfl)) rfl rfl
       | 3, _ =>
        intro val fl w1 a hb ha hd hfl;obtain ⟨hK, h1, h2⟩ := hb;have e2 : val 2 = .agg #[.int .i64 (lessR (t.res.getD i bd0) ru.fade).lo, .int .i64 (lessR (t.res.getD i bd0) ru.fade).hi] := hd 2 (memB_mem.1 rfl);have ha := ha.s1 (d := 66) rfl e2
        exact ss_newS ha rfl rfl (bs_60_1 rfl) rfl (fun g w' hq _ hge => fun _ => ⟨g, rfl, hq, Nat.le_trans hK.size hge⟩)
       | 4, _ =>
        exact absurd (by simp) hs_
       | 5, _ =>
        intro val fl w1 a hb ha hd hfl;obtain ⟨hK, h1, h2⟩ := hb;have ha := ha.s0 (d := 7) rfl
        exact ss_val ha rfl rfl (fa_62_1 rfl) rfl rfl
       | 6, _ =>
        intro val fl w1 a hb ha hd hfl;obtain ⟨hK, h1, h2⟩ := hb;have e5 : val 5 = .pointer (some ⟨g5, 1, none⟩) := hd 5 (memB_mem.1 rfl);have ha := ha.s1 (d := 69) rfl e5
        exact ss_val ha rfl rfl (ld_22 rfl ((hK.blk _ _ _ q5 rfl).at (j := 1) rfl)) rfl rfl
       | 7, _ =>
        intro val fl w1 a hb ha hd hfl;obtain ⟨hK, h1, h2⟩ := hb;have ha := ha.s0 (d := 10) rfl
        exact ss_val ha rfl rfl (x_move rfl) rfl rfl
       | 8, _ =>
        intro val fl w1 a hb ha hd hfl;obtain ⟨hK, h1, h2⟩ := hb;have e7 : val 7 = .int .i64 ((t.aft.getD i 0) + 1) := hd 7 (memB_mem.1 rfl);have ha := ha.s1 (d := 71) rfl e7
        exact ss_newS ha rfl rfl (bs_22_1 rfl) rfl (fun g w' hq _ hge => fun _ => ⟨g, rfl, hq, Nat.le_trans hK.size hge⟩)
       | 9, _ =>
        exact absurd (by simp) hs_
       | 10, _ =>
        intro val fl w1 a hb ha hd hfl;obtain ⟨hK, h1, h2⟩ := hb;have ha := ha.s0 (d := 7) rfl
        exact ss_val ha rfl rfl (fa_62_0 rfl) rfl rfl
       | k + 11, h => exact absurd h (by omega)
      ·simp only [List.mem_cons, List.not_mem_nil, or_false] at hi_; rcases hi_ with rfl | rfl
       ·
        intro val fl w1 a hb hfi ha hd hfl;obtain ⟨hK, h1, h2⟩ := hb;have e1 : val 1 = .slice A1 i c1 := hd 1 (memB_mem.1 rfl);obtain ⟨g3_, e3, q3_, h3_⟩ := hd 3 (memB_mem.1 rfl) hfi;change val 3 = _ at e3;have ha := ha.s2 (d := 67) (e := 65) rfl e3 rfl e1;refine ts_push bdR_elem ha rfl rfl rfl (h1 hfi).1 (rd_one (l := [.int .i64 (lessR (t.res.getD i bd0) ru.fade).lo, .int .i64 (lessR (t.res.getD i bd0) ru.fade).hi]) q3_ rfl) (by intro u hu; simp only [List.mem_cons, List.not_mem_nil, or_false] at hu; rcases hu with rfl | rfl <;> rfl) (by omega) rfl (Nat.le_trans hCW hK.size) ?_
        intro v' w' ho' hgr hat;obtain ⟨A', c', rfl, _⟩ := (Rd.of_own ho').shape;refine ⟨_, rfl, hgr.size, ⟨hK.trans (Kp.own (h1 hfi).1 rfl (Nat.le_refl _) (Nat.le_trans hCW hK.size) hgr), (fun h => by rw [fset_eq] at h; cases h), fun h => own_grown (h2 (by rwa [fset_ne rfl] at h)) (h1 hfi).1 rfl hgr⟩, ⟨A', c', rfl, ho'⟩, fun j _ hj hn hA => ?_⟩
        exact phiS_cons_st (C := fun j => j ≠ 4 ∧ 4 ∉ clsAt [[], [0], [], [2], [0, 1, 2, 3], [], [5], [], [7], [0, 1, 2, 3, 4, 5, 6, 7, 8], [0, 1, 2, 3, 4, 5, 6], [0, 1, 2, 3, 4, 5, 6, 7, 8, 9, 10], [0, 1, 2, 3, 4, 5, 6, 7, 8, 9, 10, 11], [0, 1, 2, 3, 4, 5, 6, 7, 8, 9, 10, 11, 12]] j) (fun _ _ h => by rw [fset_eq] at h; cases h) (phiS_cons_st (C := fun j => j ≠ 4 ∧ 4 ∉ clsAt [[], [0], [], [2], [0, 1, 2, 3], [], [5], [], [7], [0, 1, 2, 3, 4, 5, 6, 7, 8], [0, 1, 2, 3, 4, 5, 6], [0, 1, 2, 3, 4, 5, 6, 7, 8, 9, 10], [0, 1, 2, 3, 4, 5, 6, 7, 8, 9, 10, 11], [0, 1, 2, 3, 4, 5, 6, 7, 8, 9, 10, 11, 12]] j) (fun hc => absurd rfl hc.1) (phiS_cons_st (C := fun j => j ≠ 4 ∧ 4 ∉ clsAt [[], [0], [], [2], [0, 1, 2, 3], [], [5], [], [7], [0, 1, 2, 3, 4, 5, 6, 7, 8], [0, 1, 2, 3, 4, 5, 6], [0, 1, 2, 3, 4, 5, 6, 7, 8, 9, 10], [0, 1, 2, 3, 4, 5, 6, 7, 8, 9, 10, 11], [0, 1, 2, 3, 4, 5, 6, 7, 8, 9, 10, 11, 12]] j) (fun _ hh h => let ⟨g, a1, a2, a3⟩ := hh (by rwa [fset_ne rfl] at h); ⟨g, a1, blk_grown a2 (h1 hfi).1 rfl hgr, a3⟩) (phiS_cons_st (C := fun j => j ≠ 4 ∧ 4 ∉ clsAt [[], [0], [], [2], [0, 1, 2, 3], [], [5], [], [7], [0, 1, 2, 3, 4, 5, 6, 7, 8], [0, 1, 2, 3, 4, 5, 6], [0, 1, 2, 3, 4, 5, 6, 7, 8, 9, 10], [0, 1, 2, 3, 4, 5, 6, 7, 8, 9, 10, 11], [0, 1, 2, 3, 4, 5, 6, 7, 8, 9, 10, 11, 12]] j) (fun hc => absurd (memB_mem.1 rfl) hc.2) (fun _ _ h => h)))) j ⟨hj, hn⟩
       ·
        intro val fl w1 a hb hfi ha hd hfl;obtain ⟨hK, h1, h2⟩ := hb;have e6 : val 6 = .slice A2 i c2 := hd 6 (memB_mem.1 rfl);obtain ⟨g8_, e8, q8_, h8_⟩ := hd 8 (memB_mem.1 rfl) hfi;change val 8 = _ at e8;have ha := ha.s2 (d := 72) (e := 70) rfl e8 rfl e6;refine ts_push ir_elem ha rfl rfl rfl (h2 hfi) (rd_one (l := [.int .i64 ((t.aft.getD i 0) + 1)]) q8_ rfl) (by intro u hu; simp only [List.mem_cons, List.not_mem_nil, or_false] at hu; rcases hu with rfl <;> rfl) (by omega) rfl (Nat.le_trans hCW hK.size) ?_
        intro v' w' ho' hgr hat;obtain ⟨A', c', rfl, _⟩ := (Rd.of_own ho').shape;refine ⟨_, rfl, hgr.size, ⟨hK.trans (Kp.own (h2 hfi) rfl (Nat.le_refl _) (Nat.le_trans hCW hK.size) hgr), (fun h => ⟨own_grown (h1 (by rwa [fset_ne rfl] at h)).1 (h2 hfi) rfl hgr, blk_grown (h1 (by rwa [fset_ne rfl] at h)).2 (h2 hfi) rfl hgr⟩), (fun h => by rw [fset_eq] at h; cases h)⟩, ⟨A', c', rfl, ho'⟩, fun j _ hj hn hA => ?_⟩
        exact phiS_cons_st (C := fun j => j ≠ 9 ∧ 9 ∉ clsAt [[], [0], [], [2], [0, 1, 2, 3], [], [5], [], [7], [0, 1, 2, 3, 4, 5, 6, 7, 8], [0, 1, 2, 3, 4, 5, 6], [0, 1, 2, 3, 4, 5, 6, 7, 8, 9, 10], [0, 1, 2, 3, 4, 5, 6, 7, 8, 9, 10, 11], [0, 1, 2, 3, 4, 5, 6, 7, 8, 9, 10, 11, 12]] j) (fun _ hh h => let ⟨g, a1, a2, a3⟩ := hh (by rwa [fset_ne rfl] at h); ⟨g, a1, blk_grown a2 (h2 hfi) rfl hgr, a3⟩) (phiS_cons_st (C := fun j => j ≠ 9 ∧ 9 ∉ clsAt [[], [0], [], [2], [0, 1, 2, 3], [], [5], [], [7], [0, 1, 2, 3, 4, 5, 6, 7, 8], [0, 1, 2, 3, 4, 5, 6], [0, 1, 2, 3, 4, 5, 6, 7, 8, 9, 10], [0, 1, 2, 3, 4, 5, 6, 7, 8, 9, 10, 11], [0, 1, 2, 3, 4, 5, 6, 7, 8, 9, 10, 11, 12]] j) (fun _ ⟨A, c, a1, a2⟩ => ⟨A, c, a1, own_grown a2 (h2 hfi) rfl hgr⟩) (phiS_cons_st (C := fun j => j ≠ 9 ∧ 9 ∉ clsAt [[], [0], [], [2], [0, 1, 2, 3], [], [5], [], [7], [0, 1, 2, 3, 4, 5, 6, 7, 8], [0, 1, 2, 3, 4, 5, 6], [0, 1, 2, 3, 4, 5, 6, 7, 8, 9, 10], [0, 1, 2, 3, 4, 5, 6, 7, 8, 9, 10, 11], [0, 1, 2, 3, 4, 5, 6, 7, 8, 9, 10, 11, 12]] j) (fun _ _ h => by rw [fset_eq] at h; cases h) (phiS_cons_st (C := fun j => j ≠ 9 ∧ 9 ∉ clsAt [[], [0], [], [2], [0, 1, 2, 3], [], [5], [], [7], [0, 1, 2, 3, 4, 5, 6, 7, 8], [0, 1, 2, 3, 4, 5, 6], [0, 1, 2, 3, 4, 5, 6, 7, 8, 9, 10], [0, 1, 2, 3, 4, 5, 6, 7, 8, 9, 10, 11], [0, 1, 2, 3, 4, 5, 6, 7, 8, 9, 10, 11, 12]] j) (fun hc => absurd rfl hc.1) (fun _ _ h => h)))) j ⟨hj, hn⟩
      ·intro val fl wR13 hfl hb halc hd
       obtain ⟨hK, _, _⟩ := hb;have e0 : val 0 = .pointer (some ⟨g5, 0, none⟩) := hd 0 (by omega)
       have e1 : val 1 = .slice A1 i c1 := hd 1 (by omega)
       have e2 : val 2 = .agg #[.int .i64 (lessR (t.res.getD i bd0) ru.fade).lo, .int .i64 (lessR (t.res.getD i bd0) ru.fade).hi] := hd 2 (by omega)
       obtain ⟨B1, d1, e4, hn1⟩ := hd 4 (by omega)
       have e5 : val 5 = .pointer (some ⟨g5, 1, none⟩) := hd 5 (by omega)
       have e6 : val 6 = .slice A2 i c2 := hd 6 (by omega)
       have e7 : val 7 = .int .i64 ((t.aft.getD i 0) + 1) := hd 7 (by omega)
       obtain ⟨B2, d2, e9, hn2⟩ := hd 9 (by omega)
       have e10 : val 10 = .pointer (some ⟨g5, 0, none⟩) := hd 10 (by omega)
       refine EL.ends (cs := [.pointer (some ⟨g5, 0, none⟩), .slice A1 i c1, .agg #[.int .i64 (lessR (t.res.getD i bd0) ru.fade).lo, .int .i64 (lessR (t.res.getD i bd0) ru.fade).hi], val 3, .slice B1 (i + 1) d1, .pointer (some ⟨g5, 1, none⟩), .slice A2 i c2, .int .i64 ((t.aft.getD i 0) + 1), val 8, .slice B2 (i + 1) d2, .pointer (some ⟨g5, 0, none⟩)]) ⟨e0, e1, e2, rfl, e4, e5, e6, e7, rfl, e9, e10, trivial⟩ rfl ?_;replace q1 := hK.blk _ _ _ q1 rfl;replace q2 := hK.blk _ _ _ q2 rfl;replace q3 := hK.blk _ _ _ q3 rfl;replace q4 := hK.blk _ _ _ q4 rfl;replace q5 := hK.blk _ _ _ q5 rfl;clear ho1 ho2;have ho1 : wR13.ownsRow w.heap.size 24 2 (.slice B1 (i + 1) d1) (i + 1) ((bdsC ((List.range i).map (resR ru t x))) ++ [.int .i64 (lessR (t.res.getD i bd0) ru.fade).lo, .int .i64 (lessR (t.res.getD i bd0) ru.fade).hi]) := hn1;have ho2 : wR13.ownsRow w.heap.size 3 1 (.slice B2 (i + 1) d2) (i + 1) ((ints ((List.range i).map (aftR t x))) ++ [.int .i64 ((t.aft.getD i 0) + 1)]) := hn2;clear hn1 hn2;replace hbw := hbw.trans hK.below;clear hK;refine EL.store rfl rfl q5 sz_60 rfl rfl rfl rfl ?_;intro w16 hq16 hg16;replace q1 := q1.gr hg16 n1_5;replace q2 := q2.gr hg16 n2_5;replace q3 := q3.gr hg16 n3_5;replace q4 := q4.gr hg16 n4_5;replace ho1 := own_type ho1 q5 rfl hg16;replace ho2 := own_type ho2 q5 rfl hg16;replace hbw := below_store hbw hg16 bhbw_5;replace q5 := hq16;clear hg16 hq16;refine EL.val (fa_62_1 rfl) rfl (EL.store rfl rfl q5 sz_22 rfl rfl rfl rfl ?_);intro w17 hq17 hg17;replace q1 := q1.gr hg17 n1_5;replace q2 := q2.gr hg17 n2_5;replace q3 := q3.gr hg17 n3_5;replace q4 := q4.gr hg17 n4_5;replace ho1 := own_type ho1 q5 rfl hg17;replace ho2 := own_type ho2 q5 rfl hg17;replace hbw := below_store hbw hg17 bhbw_5;replace q5 := hq17;clear hg17 hq17;refine EL.nil (EX.blk (EX.seq (EC.region (EL.mv rfl rfl ?_))));refine EL.val (x_add rfl rfl (c := ((i + 1 : Nat) : Int)) ((IntWalk.i64_in _ ⟨by first | omega | (simp only; omega), by first | omega | (simp only; omega)⟩).trans (by first | omega | (simp only; omega)))) rfl ?_
       refine EL.as rfl rfl (EL.nil ?_);refine EX.roundD (i + 1, B1, d1, B2, d2) ⟨rfl, trivial⟩ (by repeat first | with_reducible exact Sub.refl _ | refine sub_past rfl ?_ | exact Sub.refl _ | refine sub_del rfl ?_ | refine sub_insL_nil ?_) ⟨hlt, q1, q2, q3, q4, q5, own_cast ho1 rfl (by rw [map_bd, hres]), own_cast ho2 rfl (by rw [map_int, haft]), hbw⟩ (by simp only; omega)
     ·
      refine EL.val (x_geq (r := false) rfl rfl (decide_eq_false hag)) rfl (EL.nil (EX.seq (EC.no rfl (EC.skip (EX.seq ?_)))));have hCW := hbw.size;have hres : resR ru t x i = (lessR (t.res.getD i bd0) ru.fade) := by unfold resR; rw [if_neg hk2, if_neg hic]
      have haft : aftR t x i = (t.aft.getD i 0) := by unfold aftR; rw [if_neg hk2, if_neg hic, if_neg hag]
      refine EC.regionS [[], [0], [], [2], [0, 1, 2, 3], [], [5], [], [7], [0, 1, 2, 3, 4, 5, 6, 7, 8], [0, 1, 2, 3, 4, 5, 6], [0, 1, 2, 3, 4, 5, 6, 7, 8, 9, 10], [0, 1, 2, 3, 4, 5, 6, 7, 8, 9, 10, 11], [0, 1, 2, 3, 4, 5, 6, 7, 8, 9, 10, 11, 12]] 11 [] [4, 9] (fun fl w_ => Kp w.heap.size [24, 3] w15 w_ ∧ (fl 4 = false → w_.ownsRow w.heap.size 24 2 (.slice A1 i c1) i (bdsC ((List.range i).map (resR ru t x))) ∧ Blk w_ ga10_5 24 #[.int .i64 (lessR (t.res.getD i bd0) ru.fade).lo, .int .i64 (lessR (t.res.getD i bd0) ru.fade).hi]) ∧ (fl 9 = false → w_.ownsRow w.heap.size 3 1 (.slice A2 i c2) i (ints ((List.range i).map (aftR t x))))) (phiS (fun i_ r => match i_ with | 0 => r 0 = .pointer (some ⟨g5, 0, none⟩) | 1 => r 1 = .slice A1 i c1 | 2 => r 2 = .agg #[.int .i64 (lessR (t.res.getD i bd0) ru.fade).lo, .int .i64 (lessR (t.res.getD i bd0) ru.fade).hi] | 5 => r 5 = .pointer (some ⟨g5, 1, none⟩) | 6 => r 6 = .slice A2 i c2 | 7 => r 7 = .int .i64 (t.aft.getD i 0) | 10 => r 10 = .pointer (some ⟨g5, 0, none⟩) | _ => True) [(3, fun fl r w_ => fl 4 = false → (∃ g_, r 3 = .slice (some ⟨g_, 0, none⟩) 1 1 ∧ Blk w_ g_ 24 #[.int .i64 (lessR (t.res.getD i bd0) ru.fade).lo, .int .i64 (lessR (t.res.getD i bd0) ru.fade).hi] ∧ w15.heap.size ≤ g_)), (4, fun _ r w_ => ∃ A c, r 4 = .slice A (i + 1) c ∧ w_.ownsRow w.heap.size 24 2 (.slice A (i + 1) c) (i + 1) ((bdsC ((List.range i).map (resR ru t x))) ++ [.int .i64 (lessR (t.res.getD i bd0) ru.fade).lo, .int .i64 (lessR (t.res.getD i bd0) ru.fade).hi])), (8, fun fl r w_ => fl 9 = false → (∃ g_, r 8 = .slice (some ⟨g_, 0, none⟩) 1 1 ∧ Blk w_ g_ 3 #[.int .i64 (t.aft.getD i 0)] ∧ w15.heap.size ≤ g_)), (9, fun _ r w_ => ∃ A c, r 9 = .slice A (i + 1) c ∧ w_.ownsRow w.heap.size 3 1 (.slice A (i + 1) c) (i + 1) ((ints ((List.range i).map (aftR t x))) ++ [.int .i64 (t.aft.getD i 0)]))]) (by kernel_rfl) rfl rfl (by intro i hi; simp at hi; rcases hi with rfl | rfl <;> exact ⟨by simp, by omega⟩) ⟨fun _ _ => ⟨⟨rfl, rfl, rfl, Nat.le_refl _, fun _ _ => rfl, fun _ _ _ h _ => h⟩, fun _ => ⟨ho1, qa10_5⟩, fun _ => ho2⟩, fun _ _ _ ⟨hK, h1, h2⟩ hb => ⟨hK.trans (Kp.of_below hb (Nat.le_trans hCW hK.size)), fun h => ⟨own_below (h1 h).1 hb (Nat.le_refl _), (h1 h).2.below hb (h1 h).2.lt⟩, fun h => own_below (h2 h) hb (Nat.le_refl _)⟩, fun _ _ h => h.1.size⟩ (phiS_cons (monoS_till mono_bs) (phiS_cons (monoS_cp (f := fun A c => .slice A (i + 1) c)) (phiS_cons (monoS_till mono_bs) (phiS_cons (monoS_cp (f := fun A c => .slice A (i + 1) c)) (phiS_nil))))) (fun i_ hi_ hs_ => ?_) (fun i_ hi_ => ?_) ?_
      ·match i_, hi_ with
       | 0, _ =>
        intro val fl w1 a hb ha hd hfl;obtain ⟨hK, h1, h2⟩ := hb;have ha := ha.s0 (d := 7) rfl
        exact ss_val ha rfl rfl (fa_62_0 rfl) rfl rfl
       | 1, _ =>
        intro val fl w1 a hb ha hd hfl;obtain ⟨hK, h1, h2⟩ := hb;have e0 : val 0 = .pointer (some ⟨g5, 0, none⟩) := hd 0 (memB_mem.1 rfl);have ha := ha.s1 (d := 64) rfl e0
        exact ss_val ha rfl rfl (ld_60 rfl ((hK.blk _ _ _ q5 rfl).at (j := 0) rfl)) rfl rfl
       | 2, _ =>
        intro val fl w1 a hb ha hd hfl;obtain ⟨hK, h1, h2⟩ := hb;have ha := ha.s0 (d := 9) rfl
        exact ss_val ha rfl rfl (ld_24 rfl ((h1 (hfl 4 (by simp) (memB_mem.1 rfl))).2.at (j := 0) rfl) ((h1 (hfl 4 (by simp) (memB_mem.1 rfl))).2.at (j := 1) rfl)) rfl rfl
       | 3, _ =>
        intro val fl w1 a hb ha hd hfl;obtain ⟨hK, h1, h2⟩ := hb;have e2 : val 2 = .agg #[.int .i64 (lessR (t.res.getD i bd0) ru.fade).lo, .int .i64 (lessR (t.res.getD i bd0) ru.fade).hi] := hd 2 (memB_mem.1 rfl);have ha := ha.s1 (d := 66) rfl e2
        exact ss_newS ha rfl rfl (bs_60_1 rfl) rfl (fun g w' hq _ hge => fun _ => ⟨g, rfl, hq, Nat.le_trans hK.size hge⟩)
       | 4, _ =>
        exact absurd (by simp) hs_
       | 5, _ =>
        intro val fl w1 a hb ha hd hfl;obtain ⟨hK, h1, h2⟩ := hb;have ha := ha.s0 (d := 7) rfl
        exact ss_val ha rfl rfl (fa_62_1 rfl) rfl rfl
       | 6, _ =>
        intro val fl w1 a hb ha hd hfl;obtain ⟨hK, h1, h2⟩ := hb;have e5 : val 5 = .pointer (some ⟨g5, 1, none⟩) := hd 5 (memB_mem.1 rfl);have ha := ha.s1 (d := 69) rfl e5
        exact ss_val ha rfl rfl (ld_22 rfl ((hK.blk _ _ _ q5 rfl).at (j := 1) rfl)) rfl rfl
       | 7, _ =>
        intro val fl w1 a hb ha hd hfl;obtain ⟨hK, h1, h2⟩ := hb;have ha := ha.s0 (d := 10) rfl
        exact ss_val ha rfl rfl (x_move rfl) rfl rfl
       | 8, _ =>
        intro val fl w1 a hb ha hd hfl;obtain ⟨hK, h1, h2⟩ := hb;have e7 : val 7 = .int .i64 (t.aft.getD i 0) := hd 7 (memB_mem.1 rfl);have ha := ha.s1 (d := 71) rfl e7
        exact ss_newS ha rfl rfl (bs_22_1 rfl) rfl (fun g w' hq _ hge => fun _ => ⟨g, rfl, hq, Nat.le_trans hK.size hge⟩)
       | 9, _ =>
        exact absurd (by simp) hs_
       | 10, _ =>
        intro val fl w1 a hb ha hd hfl;obtain ⟨hK, h1, h2⟩ := hb;have ha := ha.s0 (d := 7) rfl
        exact ss_val ha rfl rfl (fa_62_0 rfl) rfl rfl
       | k + 11, h => exact absurd h (by omega)
      ·simp only [List.mem_cons, List.not_mem_nil, or_false] at hi_; rcases hi_ with rfl | rfl
       ·
        intro val fl w1 a hb hfi ha hd hfl;obtain ⟨hK, h1, h2⟩ := hb;have e1 : val 1 = .slice A1 i c1 := hd 1 (memB_mem.1 rfl);obtain ⟨g3_, e3, q3_, h3_⟩ := hd 3 (memB_mem.1 rfl) hfi;change val 3 = _ at e3;have ha := ha.s2 (d := 67) (e := 65) rfl e3 rfl e1;refine ts_push bdR_elem ha rfl rfl rfl (h1 hfi).1 (rd_one (l := [.int .i64 (lessR (t.res.getD i bd0) ru.fade).lo, .int .i64 (lessR (t.res.getD i bd0) ru.fade).hi]) q3_ rfl) (by intro u hu; simp only [List.mem_cons, List.not_mem_nil, or_false] at hu; rcases hu with rfl | rfl <;> rfl) (by omega) rfl (Nat.le_trans hCW hK.size) ?_
        intro v' w' ho' hgr hat;obtain ⟨A', c', rfl, _⟩ := (Rd.of_own ho').shape;refine ⟨_, rfl, hgr.size, ⟨hK.trans (Kp.own (h1 hfi).1 rfl (Nat.le_refl _) (Nat.le_trans hCW hK.size) hgr), (fun h => by rw [fset_eq] at h; cases h), fun h => own_grown (h2 (by rwa [fset_ne rfl] at h)) (h1 hfi).1 rfl hgr⟩, ⟨A', c', rfl, ho'⟩, fun j _ hj hn hA => ?_⟩
        exact phiS_cons_st (C := fun j => j ≠ 4 ∧ 4 ∉ clsAt [[], [0], [], [2], [0, 1, 2, 3], [], [5], [], [7], [0, 1, 2, 3, 4, 5, 6, 7, 8], [0, 1, 2, 3, 4, 5, 6], [0, 1, 2, 3, 4, 5, 6, 7, 8, 9, 10], [0, 1, 2, 3, 4, 5, 6, 7, 8, 9, 10, 11], [0, 1, 2, 3, 4, 5, 6, 7, 8, 9, 10, 11, 12]] j) (fun _ _ h => by rw [fset_eq] at h; cases h) (phiS_cons_st (C := fun j => j ≠ 4 ∧ 4 ∉ clsAt [[], [0], [], [2], [0, 1, 2, 3], [], [5], [], [7], [0, 1, 2, 3, 4, 5, 6, 7, 8], [0, 1, 2, 3, 4, 5, 6], [0, 1, 2, 3, 4, 5, 6, 7, 8, 9, 10], [0, 1, 2, 3, 4, 5, 6, 7, 8, 9, 10, 11], [0, 1, 2, 3, 4, 5, 6, 7, 8, 9, 10, 11, 12]] j) (fun hc => absurd rfl hc.1) (phiS_cons_st (C := fun j => j ≠ 4 ∧ 4 ∉ clsAt [[], [0], [], [2], [0, 1, 2, 3], [], [5], [], [7], [0, 1, 2, 3, 4, 5, 6, 7, 8], [0, 1, 2, 3, 4, 5, 6], [0, 1, 2, 3, 4, 5, 6, 7, 8, 9, 10], [0, 1, 2, 3, 4, 5, 6, 7, 8, 9, 10, 11], [0, 1, 2, 3, 4, 5, 6, 7, 8, 9, 10, 11, 12]] j) (fun _ hh h => let ⟨g, a1, a2, a3⟩ := hh (by rwa [fset_ne rfl] at h); ⟨g, a1, blk_grown a2 (h1 hfi).1 rfl hgr, a3⟩) (phiS_cons_st (C := fun j => j ≠ 4 ∧ 4 ∉ clsAt [[], [0], [], [2], [0, 1, 2, 3], [], [5], [], [7], [0, 1, 2, 3, 4, 5, 6, 7, 8], [0, 1, 2, 3, 4, 5, 6], [0, 1, 2, 3, 4, 5, 6, 7, 8, 9, 10], [0, 1, 2, 3, 4, 5, 6, 7, 8, 9, 10, 11], [0, 1, 2, 3, 4, 5, 6, 7, 8, 9, 10, 11, 12]] j) (fun hc => absurd (memB_mem.1 rfl) hc.2) (fun _ _ h => h)))) j ⟨hj, hn⟩
       ·
        intro val fl w1 a hb hfi ha hd hfl;obtain ⟨hK, h1, h2⟩ := hb;have e6 : val 6 = .slice A2 i c2 := hd 6 (memB_mem.1 rfl);obtain ⟨g8_, e8, q8_, h8_⟩ := hd 8 (memB_mem.1 rfl) hfi;change val 8 = _ at e8;have ha := ha.s2 (d := 72) (e := 70) rfl e8 rfl e6;refine ts_push ir_elem ha rfl rfl rfl (h2 hfi) (rd_one (l := [.int .i64 (t.aft.getD i 0)]) q8_ rfl) (by intro u hu; simp only [List.mem_cons, List.not_mem_nil, or_false] at hu; rcases hu with rfl <;> rfl) (by omega) rfl (Nat.le_trans hCW hK.size) ?_
        intro v' w' ho' hgr hat;obtain ⟨A', c', rfl, _⟩ := (Rd.of_own ho').shape;refine ⟨_, rfl, hgr.size, ⟨hK.trans (Kp.own (h2 hfi) rfl (Nat.le_refl _) (Nat.le_trans hCW hK.size) hgr), (fun h => ⟨own_grown (h1 (by rwa [fset_ne rfl] at h)).1 (h2 hfi) rfl hgr, blk_grown (h1 (by rwa [fset_ne rfl] at h)).2 (h2 hfi) rfl hgr⟩), (fun h => by rw [fset_eq] at h; cases h)⟩, ⟨A', c', rfl, ho'⟩, fun j _ hj hn hA => ?_⟩
        exact phiS_cons_st (C := fun j => j ≠ 9 ∧ 9 ∉ clsAt [[], [0], [], [2], [0, 1, 2, 3], [], [5], [], [7], [0, 1, 2, 3, 4, 5, 6, 7, 8], [0, 1, 2, 3, 4, 5, 6], [0, 1, 2, 3, 4, 5, 6, 7, 8, 9, 10], [0, 1, 2, 3, 4, 5, 6, 7, 8, 9, 10, 11], [0, 1, 2, 3, 4, 5, 6, 7, 8, 9, 10, 11, 12]] j) (fun _ hh h => let ⟨g, a1, a2, a3⟩ := hh (by rwa [fset_ne rfl] at h); ⟨g, a1, blk_grown a2 (h2 hfi) rfl hgr, a3⟩) (phiS_cons_st (C := fun j => j ≠ 9 ∧ 9 ∉ clsAt [[], [0], [], [2], [0, 1, 2, 3], [], [5], [], [7], [0, 1, 2, 3, 4, 5, 6, 7, 8], [0, 1, 2, 3, 4, 5, 6], [0, 1, 2, 3, 4, 5, 6, 7, 8, 9, 10], [0, 1, 2, 3, 4, 5, 6, 7, 8, 9, 10, 11], [0, 1, 2, 3, 4, 5, 6, 7, 8, 9, 10, 11, 12]] j) (fun _ ⟨A, c, a1, a2⟩ => ⟨A, c, a1, own_grown a2 (h2 hfi) rfl hgr⟩) (phiS_cons_st (C := fun j => j ≠ 9 ∧ 9 ∉ clsAt [[], [0], [], [2], [0, 1, 2, 3], [], [5], [], [7], [0, 1, 2, 3, 4, 5, 6, 7, 8], [0, 1, 2, 3, 4, 5, 6], [0, 1, 2, 3, 4, 5, 6, 7, 8, 9, 10], [0, 1, 2, 3, 4, 5, 6, 7, 8, 9, 10, 11], [0, 1, 2, 3, 4, 5, 6, 7, 8, 9, 10, 11, 12]] j) (fun _ _ h => by rw [fset_eq] at h; cases h) (phiS_cons_st (C := fun j => j ≠ 9 ∧ 9 ∉ clsAt [[], [0], [], [2], [0, 1, 2, 3], [], [5], [], [7], [0, 1, 2, 3, 4, 5, 6, 7, 8], [0, 1, 2, 3, 4, 5, 6], [0, 1, 2, 3, 4, 5, 6, 7, 8, 9, 10], [0, 1, 2, 3, 4, 5, 6, 7, 8, 9, 10, 11], [0, 1, 2, 3, 4, 5, 6, 7, 8, 9, 10, 11, 12]] j) (fun hc => absurd rfl hc.1) (fun _ _ h => h)))) j ⟨hj, hn⟩
      ·intro val fl wR13 hfl hb halc hd
       obtain ⟨hK, _, _⟩ := hb;have e0 : val 0 = .pointer (some ⟨g5, 0, none⟩) := hd 0 (by omega)
       have e1 : val 1 = .slice A1 i c1 := hd 1 (by omega)
       have e2 : val 2 = .agg #[.int .i64 (lessR (t.res.getD i bd0) ru.fade).lo, .int .i64 (lessR (t.res.getD i bd0) ru.fade).hi] := hd 2 (by omega)
       obtain ⟨B1, d1, e4, hn1⟩ := hd 4 (by omega)
       have e5 : val 5 = .pointer (some ⟨g5, 1, none⟩) := hd 5 (by omega)
       have e6 : val 6 = .slice A2 i c2 := hd 6 (by omega)
       have e7 : val 7 = .int .i64 (t.aft.getD i 0) := hd 7 (by omega)
       obtain ⟨B2, d2, e9, hn2⟩ := hd 9 (by omega)
       have e10 : val 10 = .pointer (some ⟨g5, 0, none⟩) := hd 10 (by omega)
       refine EL.ends (cs := [.pointer (some ⟨g5, 0, none⟩), .slice A1 i c1, .agg #[.int .i64 (lessR (t.res.getD i bd0) ru.fade).lo, .int .i64 (lessR (t.res.getD i bd0) ru.fade).hi], val 3, .slice B1 (i + 1) d1, .pointer (some ⟨g5, 1, none⟩), .slice A2 i c2, .int .i64 (t.aft.getD i 0), val 8, .slice B2 (i + 1) d2, .pointer (some ⟨g5, 0, none⟩)]) ⟨e0, e1, e2, rfl, e4, e5, e6, e7, rfl, e9, e10, trivial⟩ rfl ?_;replace q1 := hK.blk _ _ _ q1 rfl;replace q2 := hK.blk _ _ _ q2 rfl;replace q3 := hK.blk _ _ _ q3 rfl;replace q4 := hK.blk _ _ _ q4 rfl;replace q5 := hK.blk _ _ _ q5 rfl;clear ho1 ho2;have ho1 : wR13.ownsRow w.heap.size 24 2 (.slice B1 (i + 1) d1) (i + 1) ((bdsC ((List.range i).map (resR ru t x))) ++ [.int .i64 (lessR (t.res.getD i bd0) ru.fade).lo, .int .i64 (lessR (t.res.getD i bd0) ru.fade).hi]) := hn1;have ho2 : wR13.ownsRow w.heap.size 3 1 (.slice B2 (i + 1) d2) (i + 1) ((ints ((List.range i).map (aftR t x))) ++ [.int .i64 (t.aft.getD i 0)]) := hn2;clear hn1 hn2;replace hbw := hbw.trans hK.below;clear hK;refine EL.store rfl rfl q5 sz_60 rfl rfl rfl rfl ?_;intro w18 hq18 hg18;replace q1 := q1.gr hg18 n1_5;replace q2 := q2.gr hg18 n2_5;replace q3 := q3.gr hg18 n3_5;replace q4 := q4.gr hg18 n4_5;replace ho1 := own_type ho1 q5 rfl hg18;replace ho2 := own_type ho2 q5 rfl hg18;replace hbw := below_store hbw hg18 bhbw_5;replace q5 := hq18;clear hg18 hq18;refine EL.val (fa_62_1 rfl) rfl (EL.store rfl rfl q5 sz_22 rfl rfl rfl rfl ?_);intro w19 hq19 hg19;replace q1 := q1.gr hg19 n1_5;replace q2 := q2.gr hg19 n2_5;replace q3 := q3.gr hg19 n3_5;replace q4 := q4.gr hg19 n4_5;replace ho1 := own_type ho1 q5 rfl hg19;replace ho2 := own_type ho2 q5 rfl hg19;replace hbw := below_store hbw hg19 bhbw_5;replace q5 := hq19;clear hg19 hq19;refine EL.nil (EX.blk (EX.seq (EC.region (EL.mv rfl rfl ?_))));refine EL.val (x_add rfl rfl (c := ((i + 1 : Nat) : Int)) ((IntWalk.i64_in _ ⟨by first | omega | (simp only; omega), by first | omega | (simp only; omega)⟩).trans (by first | omega | (simp only; omega)))) rfl ?_
       refine EL.as rfl rfl (EL.nil ?_);refine EX.roundD (i + 1, B1, d1, B2, d2) ⟨rfl, trivial⟩ (by repeat first | with_reducible exact Sub.refl _ | refine sub_past rfl ?_ | exact Sub.refl _ | refine sub_del rfl ?_ | refine sub_insL_nil ?_) ⟨hlt, q1, q2, q3, q4, q5, own_cast ho1 rfl (by rw [map_bd, hres]), own_cast ho2 rfl (by rw [map_int, haft]), hbw⟩ (by simp only; omega)
 ·
  have hxe : i = ru.levels.length := by omega
  refine EC.seq (EC.seq (EC.region (EL.mv rfl rfl (EL.val (fa_62_0 rfl) rfl (EL.val (ld_60 rfl (q2.at (j := 0) rfl)) rfl (EL.val (ln_60 rfl) rfl ?_))))));refine EL.val (x_lss rfl rfl (decide_eq_false (show ¬(((i : Nat) : Int) < ((ru.levels.length : Nat) : Int)) by omega))) rfl ?_
  refine EL.nil (EX.seq (EC.no rfl (EC.exit (EX.seq_exit (EX.seq_exit (EX.blk_here (EX.seq (EC.seq (EC.region ?_)))))))));refine EL.val (ld_62 rfl (q5.at (j := 0) rfl) (q5.at (j := 1) rfl)) rfl (EL.store rfl rfl q4 sz_62 rfl rfl rfl rfl ?_);intro w20 hq20 hg20;replace q1 := q1.gr hg20 n1_4;replace q2 := q2.gr hg20 n2_4;replace q3 := q3.gr hg20 n3_4;replace q5 := q5.gr hg20 n4_5.symm;replace ho1 := own_type ho1 q4 rfl hg20;replace ho2 := own_type ho2 q4 rfl hg20;replace hbw := below_store hbw hg20 bhbw_4;replace q4 := hq20;clear hg20 hq20;refine EL.nil (EX.seq (EC.ret ?_))
  exact EX.done (resc1 rfl rfl (lv_62 (q4.at (j := 0) rfl) (q4.at (j := 1) rfl))) ⟨⟨A1, c1, A2, c2, by rw [hxe], own_cast' ho1 hxe (by rw [hxe, ← ht.rl]; rfl), own_cast' ho2 hxe (by rw [hxe, ← ht.rl]; rfl)⟩, hbw⟩
theorem mono_rt {j C n : Nat} {xs ys : List Value} : Mono fun r w => ∃ A1 c1 A2 c2, r j = .agg #[.slice A1 n c1, .slice A2 n c2] ∧ w.ownsRow C 24 2 (.slice A1 n c1) n xs ∧ w.ownsRow C 3 1 (.slice A2 n c2) n ys := fun _ _ _ hb ⟨A1, c1, A2, c2, h1, h2, h3⟩ => ⟨A1, c1, A2, c2, h1, own_below h2 hb (Nat.le_refl _), own_below h3 hb (Nat.le_refl _)⟩
theorem afterR_succ {ru : Rules} {l : List Ev} {i : Nat} (h : i < l.length) : afterR ru (l.take (i + 1)) = stepR ru (afterR ru (l.take i)) (l.getD i ev0) := by
 unfold afterR
 rw [List.take_succ_eq_append_getElem h, List.foldl_append, getD_in h]
 rfl
theorem rm_getD {α : Type} {f : Nat → α} {n i : Nat} {d : α} : ((List.range n).map f).getD i d = if i < n then f i else d := by
 split
 ·rename_i h
  rw [List.getD_eq_getElem?_getD, List.getElem?_map, List.getElem?_range h]
  rfl
 ·rename_i h
  rw [List.getD_eq_getElem?_getD, List.getElem?_eq_none (by simp; omega)]
  rfl
theorem clean_ok {n : Nat} : RtOk n 0 (cleanR n) := by
 refine ⟨by simp [cleanR], by simp [cleanR], fun i => ?_, fun i => ?_⟩
 ·have : (cleanR n).res.getD i bd0 = bd0 := by
   unfold cleanR
   rw [List.getD_eq_getElem?_getD, List.getElem?_replicate]
   split <;> rfl
  rw [this]
  decide
 ·have : (cleanR n).aft.getD i 0 = -1 ∨ (cleanR n).aft.getD i 0 = 0 := by
   unfold cleanR
   rw [List.getD_eq_getElem?_getD, List.getElem?_replicate]
   split
   ·exact .inl rfl
   ·exact .inr rfl
  omega
theorem less_ok {x y : Bd} (hx : (0 ≤ x.lo ∧ x.lo ≤ 1000000) ∧ 0 ≤ x.hi ∧ x.hi ≤ 1000000) (hy : 0 ≤ y.lo ∧ y.lo ≤ y.hi) : (0 ≤ (lessR x y).lo ∧ (lessR x y).lo ≤ 1000000) ∧ 0 ≤ (lessR x y).hi ∧ (lessR x y).hi ≤ 1000000 := by
 unfold lessR
 dsimp only
 omega
theorem lev_bd {ru : Rules} (hro : RulesOk ru) (i : Nat) : 0 ≤ ru.levels.getD i 0 ∧ ru.levels.getD i 0 ≤ 1000000 := hro.lev i
theorem step_ok {ru : Rules} (hro : RulesOk ru) {t : RT} {k : Nat} (h : RtOk ru.levels.length k t) {x : Ev} (hx : evB ru x = true) : RtOk ru.levels.length (k + 1) (stepR ru t x) := by
 have hf := hro.fade;refine ⟨by simp [stepR, h.rl], by simp [stepR, h.rl], fun i => ?_, fun i => ?_⟩
 ·unfold stepR
  dsimp only
  rw [rm_getD]
  split
  ·unfold resR
   split
   ·have hp := kd_pow hro x.number.toNat
    exact less_ok (h.bd i) ⟨hp.1, hp.2.1⟩
   ·split
    ·have := lev_bd hro i
     exact ⟨this, this⟩
    ·exact less_ok (h.bd i) ⟨hf.1, hf.2.1⟩
  ·decide
 ·unfold stepR
  dsimp only
  rw [rm_getD];have ha := h.af i
  split
  ·unfold aftR
   split
   ·omega
   ·split
    ·omega
    ·split <;> omega
  ·omega
set_option maxHeartbeats 2000000 in
theorem After_any {ru : Rules} {ua up : List Value} {vl va vp vk : Value} {w : World} {B : Nat} (hr : RdRules w B vl va vp vk ru ua up) (hB : B ≤ w.heap.size) (hro : RulesOk ru) {l : List Ev} {v : Value} (hl : Rd w B 2 v l.length (evsC l)) (hv : l.all (evB ru) = true) (hn : l.length ≤ 1000) :
  Calls Try.prog 27 #[rulesV vl va vp vk ru, v] w fun e w' => (∃ A1 c1 A2 c2, e = .returned (.agg #[.slice A1 ru.levels.length c1, .slice A2 ru.levels.length c2]) ∧ w'.ownsRow w.heap.size 24 2 (.slice A1 ru.levels.length c1) ru.levels.length (bdsC (afterR ru l).res) ∧ w'.ownsRow w.heap.size 3 1 (.slice A2 ru.levels.length c2) ru.levels.length (ints (afterR ru l).aft) ∧ RtOk ru.levels.length l.length (afterR ru l)) ∧ Below w.heap.size w w' := by
 obtain ⟨Al, cl, rfl, _⟩ := hr.levels.shape;obtain ⟨Aa, ca, rfl, _⟩ := hr.allow.rd.shape;obtain ⟨Ap, cp, rfl, _⟩ := hr.apart.rd.shape;obtain ⟨Ak, ck, rfl, _⟩ := hr.kinds.shape;obtain ⟨Ae, ce, rfl, _⟩ := hl.shape;have hn8 := hro.n8;have hbw := Below.refl w.heap.size w
 unfold rulesV
 refine EC.enter 23 Try.func27 rfl rfl rfl (EC.seq (EC.region (EL.newP (bx_28 rfl) rfl ?_)));intro g1 w1 q1 hb1 hg1 hl1;have bhbw_1 := Nat.le_trans hbw.size hg1;replace hbw := bo_ hbw hb1;clear hb1 hg1 hl1;refine EL.newP al_62 rfl ?_;intro g2 w2 q2 hb2 hg2 hl2;have n1_2 := q1.na hg2;have bhbw_2 := Nat.le_trans hbw.size hg2;replace q1 := q1.bl hb2;replace hbw := bo_ hbw hb2;clear hb2 hg2 hl2;refine EL.nil (EX.seq (EC.seq (EC.region (EL.val (ld_28 rfl (q1.at (j := 0) rfl) (q1.at (j := 1) rfl) (q1.at (j := 2) rfl) (q1.at (j := 3) rfl) (q1.at (j := 4) rfl) (q1.at (j := 5) rfl)) rfl (EL.call (cl_57 rfl) rfl (Clean_any (hr.below (hbw.mono hB)) (Nat.le_trans hB hbw.size) hro) ?_)))))
 rintro e w3 ⟨⟨A1, c1, A2, c2, rfl, ho1, ho2⟩, hc3⟩
 refine ⟨_, rfl, ?_⟩;replace ho1 := own_less ho1 hbw.size;replace ho2 := own_less ho2 hbw.size;replace q1 := q1.bl hc3;replace q2 := q2.bl hc3;replace hbw := bo_ hbw hc3;clear hc3;refine EL.newP al_62 rfl ?_;intro g4 w4 q4 hb4 hg4 hl4;have n1_4 := q1.na hg4;have n2_4 := q2.na hg4;have bhbw_4 := Nat.le_trans hbw.size hg4;replace q1 := q1.bl hb4;replace q2 := q2.bl hb4;replace ho1 := own_below ho1 hb4 (Nat.le_refl _);replace ho2 := own_below ho2 hb4 (Nat.le_refl _);replace hbw := bo_ hbw hb4;clear hb4 hg4 hl4;refine EL.store rfl rfl q4 sz_62 rfl rfl rfl rfl ?_;intro w5 hq5 hg5;replace q1 := q1.gr hg5 n1_4;replace q2 := q2.gr hg5 n2_4;replace ho1 := own_type ho1 q4 rfl hg5;replace ho2 := own_type ho2 q4 rfl hg5;replace hbw := below_store hbw hg5 bhbw_4;replace q4 := hq5;clear hg5 hq5;refine EL.nil (EX.seq (EC.seq (EC.seq (EC.region (EL.as rfl rfl (EL.nil (EX.seq (EC.block ?_))))))));refine EC.loopD [6, 9, 10, 11, 12, 13, 14, 15, 16, 17, 18, 19, 20, 21] (fun y : Nat × Option Addr × Nat × Option Addr × Nat => [(6, .int .i64 (y.1 : Nat))]) (fun y W => y.1 ≤ l.length ∧ RtOk ru.levels.length y.1 (afterR ru (l.take y.1)) ∧ Blk W g1 28 #[.slice Al ru.levels.length cl, .int .i64 ru.fade.lo, .int .i64 ru.fade.hi, .slice Aa ru.allow.length ca, .slice Ap ru.apart.length cp, .slice Ak ru.kinds.length ck] ∧ Blk W g2 62 #[.slice none 0 0, .slice none 0 0] ∧ Blk W g4 62 #[.slice y.2.1 ru.levels.length y.2.2.1, .slice y.2.2.2.1 ru.levels.length y.2.2.2.2] ∧ W.ownsRow w.heap.size 24 2 (.slice y.2.1 ru.levels.length y.2.2.1) ru.levels.length (bdsC (afterR ru (l.take y.1)).res) ∧ W.ownsRow w.heap.size 3 1 (.slice y.2.2.2.1 ru.levels.length y.2.2.2.2) ru.levels.length (ints (afterR ru (l.take y.1)).aft) ∧ Below w.heap.size w W) (fun y => l.length - y.1) (0, A1, c1, A2, c2) ⟨Nat.zero_le _, clean_ok, q1, q2, q4, ho1, ho2, hbw⟩ ⟨rfl, trivial⟩ ?_
 clear q1 q2 q4 hbw ho1 ho2
 rintro ⟨i, A1, c1, A2, c2⟩ wx ⟨hi, hrt, q1, q2, q4, ho1, ho2, hbw⟩
 dsimp only at hi hrt ho1 ho2 q4
 by_cases hlt : i < l.length
 ·
  obtain ⟨be, oe, eAe, _, c0_, c1_⟩ := evs_cells l i hlt wx B _ _ _ (hl.below (hbw.mono hB));have hev : evB ru (l.getD i ev0) = true := by rw [getD_in hlt]; exact List.all_eq_true.1 hv _ (List.getElem_mem _)
  refine EC.seq (EC.seq (EC.region (EL.mv rfl rfl (EL.mv rfl rfl (EL.val (ln_29 rfl) rfl ?_)))));refine EL.val (x_lss rfl rfl (decide_eq_true (show (((i : Nat) : Int) < ((l.length : Nat) : Int)) by omega))) rfl ?_
  refine EL.nil (EX.seq (EC.yes rfl (EC.skip (EX.seq (EC.seq (EC.block ?_))))));have lt_1 := q1.lt;have lt_2 := q2.lt;have lt_4 := q4.lt;refine EC.regionP [[], [], [], [], [2, 3], [2, 3, 4], [0, 1, 2, 3, 4, 5], [0, 1, 2, 3, 4, 5, 6]] 7 [] (phi (fun i_ r => match i_ with | 0 => r 0 = .agg #[.slice Al ru.levels.length cl, .int .i64 ru.fade.lo, .int .i64 ru.fade.hi, .slice Aa ru.allow.length ca, .slice Ap ru.apart.length cp, .slice Ak ru.kinds.length ck] | 1 => r 1 = .agg #[.slice A1 ru.levels.length c1, .slice A2 ru.levels.length c2] | 2 => r 2 = .slice Ae l.length ce | 3 => r 3 = .int .i64 (i : Nat) | 4 => r 4 = .pointer (some ⟨be, oe + i * 2, none⟩) | 5 => r 5 = .agg #[.int .i64 (l.getD i ev0).kind, .int .i64 (l.getD i ev0).number] | _ => True) [(6, fun r w_ => ∃ A1 c1 A2 c2, r 6 = .agg #[.slice A1 ru.levels.length c1, .slice A2 ru.levels.length c2] ∧ w_.ownsRow w.heap.size 24 2 (.slice A1 ru.levels.length c1) ru.levels.length (bdsC (stepR ru (afterR ru (l.take i)) (l.getD i ev0)).res) ∧ w_.ownsRow w.heap.size 3 1 (.slice A2 ru.levels.length c2) ru.levels.length (ints (stepR ru (afterR ru (l.take i)) (l.getD i ev0)).aft))]) (by kernel_rfl) rfl rfl (phi_cons mono_rt (phi_nil)) (fun i_ hi_ => ?_) ?_
  ·match i_, hi_ with
   | 0, _ =>
    intro val w1 a hb ha hd;have ha := ha.s0 (d := 2) rfl
    exact hs_val ha rfl rfl (ld_28 rfl ((q1.below hb q1.lt).at (j := 0) rfl) ((q1.below hb q1.lt).at (j := 1) rfl) ((q1.below hb q1.lt).at (j := 2) rfl) ((q1.below hb q1.lt).at (j := 3) rfl) ((q1.below hb q1.lt).at (j := 4) rfl) ((q1.below hb q1.lt).at (j := 5) rfl)) rfl rfl
   | 1, _ =>
    intro val w1 a hb ha hd;have ha := ha.s0 (d := 5) rfl
    exact hs_val ha rfl rfl (ld_62 rfl ((q4.below hb q4.lt).at (j := 0) rfl) ((q4.below hb q4.lt).at (j := 1) rfl)) rfl rfl
   | 2, _ =>
    intro val w1 a hb ha hd;have ha := ha.s0 (d := 1) rfl
    exact hs_val ha rfl rfl (x_move rfl) rfl rfl
   | 3, _ =>
    intro val w1 a hb ha hd;have ha := ha.s0 (d := 6) rfl
    exact hs_val ha rfl rfl (x_move rfl) rfl rfl
   | 4, _ =>
    intro val w1 a hb ha hd;have e2 : val 2 = .slice Ae l.length ce := hd 2 (memB_mem.1 rfl);have e3 : val 3 = .int .i64 (i : Nat) := hd 3 (memB_mem.1 rfl);have ha := ha.s2 (d := 18) (e := 17) rfl e3 rfl e2
    exact hs_val ha rfl rfl (ix_29 (by show some (Value.slice Ae _ _) = _; rw [eAe]) rfl hlt) rfl rfl
   | 5, _ =>
    intro val w1 a hb ha hd;have e4 : val 4 = .pointer (some ⟨be, oe + i * 2, none⟩) := hd 4 (memB_mem.1 rfl);have ha := ha.s1 (d := 19) rfl e4
    exact hs_val ha rfl rfl (ld_50 rfl (below_load hb c0_) (below_load hb c1_)) rfl rfl
   | 6, _ =>
    intro val w1 a hb ha hd;have e0 : val 0 = .agg #[.slice Al ru.levels.length cl, .int .i64 ru.fade.lo, .int .i64 ru.fade.hi, .slice Aa ru.allow.length ca, .slice Ap ru.apart.length cp, .slice Ak ru.kinds.length ck] := hd 0 (memB_mem.1 rfl);have e1 : val 1 = .agg #[.slice A1 ru.levels.length c1, .slice A2 ru.levels.length c2] := hd 1 (memB_mem.1 rfl);have e5 : val 5 = .agg #[.int .i64 (l.getD i ev0).kind, .int .i64 (l.getD i ev0).number] := hd 5 (memB_mem.1 rfl);have ha := ha.sub (Sub.ins (d := 20) (Sub.ins (d := 16) (Sub.ins (d := 15) (Sub.nil _) (dep_get rfl e0)) (dep_get rfl e1)) (dep_get rfl e5));refine hs_call ha rfl rfl (cl_58 rfl rfl rfl) (Step_any (hr.below ((hbw.trans (hb.mono hbw.size)).mono hB)) (Nat.le_trans hB (Nat.le_trans hbw.size hb.size)) hro hrt (by omega) (Rd.of_own (own_below ho1 hb (Nat.le_refl _))) (Rd.of_own (own_below ho2 hb (Nat.le_refl _))) (Nat.le_refl _) hev) rfl ?_
    rintro e w' ⟨⟨B1, d1, B2, d2, rfl, p1, p2⟩, hb'⟩
    exact ⟨_, rfl, hb', ⟨B1, d1, B2, d2, rfl, own_less p1 (Nat.le_trans hbw.size hb.size), own_less p2 (Nat.le_trans hbw.size hb.size)⟩⟩
   | k + 7, h => exact absurd h (by omega)
  ·intro val wR5 hb halc hd
   have e0 : val 0 = .agg #[.slice Al ru.levels.length cl, .int .i64 ru.fade.lo, .int .i64 ru.fade.hi, .slice Aa ru.allow.length ca, .slice Ap ru.apart.length cp, .slice Ak ru.kinds.length ck] := hd 0 (by omega)
   have e1 : val 1 = .agg #[.slice A1 ru.levels.length c1, .slice A2 ru.levels.length c2] := hd 1 (by omega)
   have e2 : val 2 = .slice Ae l.length ce := hd 2 (by omega)
   have e3 : val 3 = .int .i64 (i : Nat) := hd 3 (by omega)
   have e4 : val 4 = .pointer (some ⟨be, oe + i * 2, none⟩) := hd 4 (by omega)
   have e5 : val 5 = .agg #[.int .i64 (l.getD i ev0).kind, .int .i64 (l.getD i ev0).number] := hd 5 (by omega)
   obtain ⟨B1, d1, B2, d2, e6, p1, p2⟩ := hd 6 (by omega)
   refine EL.ends (cs := [.agg #[.slice Al ru.levels.length cl, .int .i64 ru.fade.lo, .int .i64 ru.fade.hi, .slice Aa ru.allow.length ca, .slice Ap ru.apart.length cp, .slice Ak ru.kinds.length ck], .agg #[.slice A1 ru.levels.length c1, .slice A2 ru.levels.length c2], .slice Ae l.length ce, .int .i64 (i : Nat), .pointer (some ⟨be, oe + i * 2, none⟩), .agg #[.int .i64 (l.getD i ev0).kind, .int .i64 (l.getD i ev0).number], .agg #[.slice B1 ru.levels.length d1, .slice B2 ru.levels.length d2]]) ⟨e0, e1, e2, e3, e4, e5, e6, trivial⟩ rfl ?_;replace q1 := q1.bl hb;replace q2 := q2.bl hb;replace q4 := q4.bl hb;replace ho1 := own_below ho1 hb (Nat.le_refl _);replace ho2 := own_below ho2 hb (Nat.le_refl _);replace hbw := bo_ hbw hb;clear hb;clear ho1 ho2;have ho1 := p1;have ho2 := p2;clear p1 p2;refine EL.store rfl rfl q4 sz_62 rfl rfl rfl rfl ?_;intro w6 hq6 hg6;replace q1 := q1.gr hg6 n1_4;replace q2 := q2.gr hg6 n2_4;replace ho1 := own_type ho1 q4 rfl hg6;replace ho2 := own_type ho2 q4 rfl hg6;replace hbw := below_store hbw hg6 bhbw_4;replace q4 := hq6;clear hg6 hq6;refine EL.nil (EX.blk (EX.seq (EC.region (EL.mv rfl rfl ?_))));refine EL.val (x_add rfl rfl (c := ((i + 1 : Nat) : Int)) ((IntWalk.i64_in _ ⟨by first | omega | (simp only; omega), by first | omega | (simp only; omega)⟩).trans (by first | omega | (simp only; omega)))) rfl ?_
   refine EL.as rfl rfl (EL.nil ?_);refine EX.roundD (i + 1, B1, d1, B2, d2) ⟨rfl, trivial⟩ (by repeat first | with_reducible exact Sub.refl _ | refine sub_past rfl ?_ | exact Sub.refl _ | refine sub_del rfl ?_ | refine sub_insL_nil ?_) ⟨hlt, by rw [afterR_succ hlt]; exact step_ok hro hrt hev, q1, q2, q4, by simp only; rw [afterR_succ hlt]; exact ho1, by simp only; rw [afterR_succ hlt]; exact ho2, hbw⟩ (by simp only; omega)
 ·
  have hxe : i = l.length := by omega
  refine EC.seq (EC.seq (EC.region (EL.mv rfl rfl (EL.mv rfl rfl (EL.val (ln_29 rfl) rfl ?_)))));refine EL.val (x_lss rfl rfl (decide_eq_false (show ¬(((i : Nat) : Int) < ((l.length : Nat) : Int)) by omega))) rfl ?_
  refine EL.nil (EX.seq (EC.no rfl (EC.exit (EX.seq_exit (EX.seq_exit (EX.blk_here (EX.seq (EC.seq (EC.region ?_)))))))));refine EL.val (ld_62 rfl (q4.at (j := 0) rfl) (q4.at (j := 1) rfl)) rfl (EL.store rfl rfl q2 sz_62 rfl rfl rfl rfl ?_);intro w7 hq7 hg7;replace q1 := q1.gr hg7 n1_2;replace q4 := q4.gr hg7 n2_4.symm;replace ho1 := own_type ho1 q2 rfl hg7;replace ho2 := own_type ho2 q2 rfl hg7;replace hbw := below_store hbw hg7 bhbw_2;replace q2 := hq7;clear hg7 hq7;refine EL.nil (EX.seq (EC.ret ?_));rw [hxe, List.take_length] at ho1 ho2 hrt
  exact EX.done (resc1 rfl rfl (lv_62 (q2.at (j := 0) rfl) (q2.at (j := 1) rfl))) ⟨⟨A1, c1, A2, c2, rfl, ho1, ho2, hrt⟩, hbw⟩
section
variable {n : Nat} {σ : Sg} {w : World} {dst : Option Tmp} {ty : TypeId} {pos : String} {af : Array Edge} {g : Option (Nat × Bool)} {x y z : Operand} {at' : Array TypeId}
theorem cl_54 {x0 x1 x2 x3 : Operand} {v0 v1 v2 v3 : Value} (h0 : evS σ x0 = some v0) (h1 : evS σ x1 = some v1) (h2 : evS σ x2 = some v2) (h3 : evS σ x3 = some v3) (a : Act) (ha : Env n σ a) : (execOp a.eval ⟨dst, .call { callee := .value (.func 54), args := #[x0, x1, x2, x3], argTypes := at' }, ty, pos, af, g⟩).run Try.prog w = .ok (.enter 54 #[v0, v1, v2, v3]) w := by
 simp only [execOp, resolve, List.map_toArray, List.map_cons, List.map_nil, ha.eval h0, ha.eval h1, ha.eval h2, ha.eval h3]
 simp [go_sem, Act.eval]
end
set_option maxHeartbeats 1000000 in
theorem Forbids_any {ru : Rules} {ua up : List Value} {vl va vp vk : Value} {w : World} {B : Nat} (hr : RdRules w B vl va vp vk ru ua up) (hB : B ≤ w.heap.size) (hro : RulesOk ru) {t : RT} {kk : Nat} (ht : RtOk ru.levels.length kk t) {T1 T2 : Option Addr} {cT1 cT2 C : Nat} (h1 : Rd w C 2 (.slice T1 ru.levels.length cT1) ru.levels.length (bdsC t.res)) (h2 : Rd w C 1 (.slice T2 ru.levels.length cT2) ru.levels.length (ints t.aft)) (hC : C ≤ w.heap.size) {b c : Nat} (hb_ : b < ru.levels.length) (hc_ : c < ru.levels.length) :
  Calls Try.prog 54 #[rulesV vl va vp vk ru, .agg #[.slice T1 ru.levels.length cT1, .slice T2 ru.levels.length cT2], .int .i64 (b : Nat), .int .i64 (c : Nat)] w fun e w' => e = .returned (.tuple #[.bool (forbR ru t b c).1, .bool (forbR ru t b c).2]) ∧ Below w.heap.size w w' := by
 obtain ⟨Al, cl, rfl, _⟩ := hr.levels.shape;obtain ⟨Aa, ca, rfl, _⟩ := hr.allow.rd.shape;obtain ⟨Ap, cp, rfl, _⟩ := hr.apart.rd.shape;obtain ⟨Ak, ck, rfl, _⟩ := hr.kinds.shape;have hba : b < ru.allow.length := by rw [hro.al]; exact hb_
 have hbp : b < ru.apart.length := by rw [hro.pl]; exact hb_
 have hca : c < (ru.allow.getD b []).length := by rw [hro.ar b hb_]; exact hc_
 have hcp : c < (ru.apart.getD b []).length := by rw [hro.pr b hb_]; exact hc_
 obtain ⟨bo, oo, br, orr, cr, eAp, hp1, hp2⟩ := sq_cells hr.apart hbp hcp;obtain ⟨bo2, oo2, br2, orr2, cr2, eAa, ha1, ha2⟩ := sq_cells hr.allow hba hca;obtain ⟨tb, to, eT1, _, d0, d1⟩ := bds_cells t.res b (by rw [ht.rl]; exact hb_) w C _ _ _ h1
 obtain ⟨ub, uo, eT2, _, d2⟩ := ints_cells t.aft b (by rw [ht.al]; exact hb_) w C _ _ _ h2
 have hbw := Below.refl w.heap.size w
 unfold rulesV
 refine EC.enter 67 Try.func54 rfl rfl rfl (EC.seq (EC.region (EL.newP (bx_28 rfl) rfl ?_)));intro g1 w1 q1 hb1 hg1 hl1;have bhbw_1 := Nat.le_trans hbw.size hg1;replace hbw := bo_ hbw hb1;clear hb1 hg1 hl1;refine EL.newP (bx_62 rfl) rfl ?_;intro g2 w2 q2 hb2 hg2 hl2;have n1_2 := q1.na hg2;have bhbw_2 := Nat.le_trans hbw.size hg2;replace q1 := q1.bl hb2;replace hbw := bo_ hbw hb2;clear hb2 hg2 hl2;refine EL.as rfl rfl (EL.as rfl rfl (EL.nil (EX.seq (EC.seq (EC.seq (EC.region (EL.val (fa_62_1 rfl) rfl (EL.val (ld_22 rfl (q2.at (j := 1) rfl)) rfl (EL.mv rfl rfl ?_)))))))));refine EL.val (ix_22 (by show some (Value.slice T2 _ _) = _; rw [eT2]) rfl hb_) rfl ?_
 refine EL.val (ld_3 rfl (below_load hbw d2)) rfl ?_
 by_cases ha_ : (t.aft.getD b 0) < 0
 ·
  refine EL.val (x_lss (r := true) rfl rfl (decide_eq_true ha_)) rfl (EL.nil (EX.seq (EC.yes rfl (EC.seq (EC.region (EL.as rfl rfl (EL.as rfl rfl (EL.nil (EX.seq ?_)))))))));refine EC.ret (EX.seq_ret ?_);have hres : forbR ru t b c = (false, false) := by unfold forbR; rw [if_pos ha_]; try rfl
  exact EX.done (res2 rfl rfl rfl) ⟨by rw [hres], hbw⟩
 ·
  refine EL.val (x_lss (r := false) rfl rfl (decide_eq_false ha_)) rfl (EL.nil (EX.seq (EC.no rfl (EC.skip (EX.seq (EC.seq ?_))))))
  by_cases hsn : (t.aft.getD b 0) < apartAt ru b c
  ·
   refine EC.regionQ (by kernel_rfl) (by kernel_rfl) ?_
   refine EQ.val (fun _ hw => (fa_62_1 rfl)) rfl ?_
   refine EQ.val (fun _ hw => (ld_22 rfl (below_load hw (q2.at (j := 1) rfl)))) rfl ?_
   refine EQ.val (fun _ hw => (x_move rfl)) rfl ?_
   refine EQ.val (fun _ hw => (ix_22 (by show some (Value.slice T2 _ _) = _; rw [eT2]) rfl hb_)) rfl ?_
   refine EQ.val (fun _ hw => (ld_3 rfl (below_load hw (below_load hbw d2)))) rfl ?_
   refine EQ.val (fun _ hw => (fa_28_3 rfl)) rfl ?_
   refine EQ.val (fun _ hw => (ld_25 rfl (below_load hw (q1.at (j := 4) rfl)))) rfl ?_
   refine EQ.val (fun _ hw => (x_move rfl)) rfl ?_
   refine EQ.val (fun _ hw => (ix_25 (by show some (Value.slice Ap _ _) = _; rw [eAp]) rfl hbp)) rfl ?_
   refine EQ.val (fun _ hw => (ld_22 rfl (below_load hw (below_load hbw hp1)))) rfl ?_
   refine EQ.val (fun _ hw => (x_move rfl)) rfl ?_
   refine EQ.val (fun _ hw => (ix_22 rfl rfl hcp)) rfl ?_
   refine EQ.val (fun _ hw => (ld_3 rfl (below_load hw (below_load hbw hp2)))) rfl ?_
   refine EQ.val (fun _ hw => (x_lss (r := true) rfl rfl (decide_eq_true hsn))) rfl ?_
   refine EQ.val (fun _ hw => (x_assign rfl)) rfl ?_
   refine EQ.fin (fun w3 hw_ => ?_)
   replace q1 := q1.bl hw_;replace q2 := q2.bl hw_;replace hbw := bo_ hbw hw_;clear hw_;refine EX.seq (EC.seq ?_);refine EC.regionQ (by kernel_rfl) (by kernel_rfl) ?_
   refine EQ.val (fun _ hw => (x_move rfl)) rfl ?_
   refine EQ.val (fun _ hw => (x_move rfl)) rfl ?_
   refine EQ.skip rfl rfl rfl rfl (EQ.skip rfl rfl rfl rfl (EQ.skip rfl rfl rfl rfl (EQ.skip rfl rfl rfl rfl (EQ.skip rfl rfl rfl rfl (EQ.skip rfl rfl rfl rfl (EQ.skip rfl rfl rfl rfl (EQ.skip rfl rfl rfl rfl (EQ.skip rfl rfl rfl rfl (EQ.skip rfl rfl rfl rfl ?_)))))))));refine EQ.skip rfl rfl rfl rfl (EQ.skip rfl rfl rfl rfl (EQ.skip rfl rfl rfl rfl (EQ.skip rfl rfl rfl rfl (EQ.skip rfl rfl rfl rfl ?_))));refine EQ.val (fun _ hw => (x_pick_t rfl rfl)) rfl ?_
   refine EQ.val (fun _ hw => (x_move rfl)) rfl ?_
   refine EQ.val (fun _ hw => (x_move rfl)) rfl ?_
   refine EQ.skip rfl rfl rfl rfl (EQ.skip rfl rfl rfl rfl (EQ.skip rfl rfl rfl rfl (EQ.skip rfl rfl rfl rfl (EQ.skip rfl rfl rfl rfl (EQ.skip rfl rfl rfl rfl (EQ.skip rfl rfl rfl rfl (EQ.skip rfl rfl rfl rfl (EQ.skip rfl rfl rfl rfl (EQ.skip rfl rfl rfl rfl ?_)))))))));refine EQ.skip rfl rfl rfl rfl (EQ.skip rfl rfl rfl rfl (EQ.skip rfl rfl rfl rfl (EQ.skip rfl rfl rfl rfl (EQ.skip rfl rfl rfl rfl ?_))));refine EQ.val (fun _ hw => (x_pick_t rfl rfl)) rfl ?_
   refine EQ.val (fun _ hw => (x_assign rfl)) rfl ?_
   refine EQ.val (fun _ hw => (x_assign rfl)) rfl ?_
   refine EQ.fin (fun w4 hw_ => ?_)
   replace q1 := q1.bl hw_;replace q2 := q2.bl hw_;replace hbw := bo_ hbw hw_;clear hw_;refine EX.seq (EC.ret ?_);have hres : forbR ru t b c = (true, true) := by unfold forbR; rw [if_neg ha_, decide_eq_true hsn]; try rfl
   exact EX.done (res2 rfl rfl rfl) ⟨by rw [hres], hbw⟩
  ·
   refine EC.regionQ (by kernel_rfl) (by kernel_rfl) ?_
   refine EQ.val (fun _ hw => (fa_62_1 rfl)) rfl ?_
   refine EQ.val (fun _ hw => (ld_22 rfl (below_load hw (q2.at (j := 1) rfl)))) rfl ?_
   refine EQ.val (fun _ hw => (x_move rfl)) rfl ?_
   refine EQ.val (fun _ hw => (ix_22 (by show some (Value.slice T2 _ _) = _; rw [eT2]) rfl hb_)) rfl ?_
   refine EQ.val (fun _ hw => (ld_3 rfl (below_load hw (below_load hbw d2)))) rfl ?_
   refine EQ.val (fun _ hw => (fa_28_3 rfl)) rfl ?_
   refine EQ.val (fun _ hw => (ld_25 rfl (below_load hw (q1.at (j := 4) rfl)))) rfl ?_
   refine EQ.val (fun _ hw => (x_move rfl)) rfl ?_
   refine EQ.val (fun _ hw => (ix_25 (by show some (Value.slice Ap _ _) = _; rw [eAp]) rfl hbp)) rfl ?_
   refine EQ.val (fun _ hw => (ld_22 rfl (below_load hw (below_load hbw hp1)))) rfl ?_
   refine EQ.val (fun _ hw => (x_move rfl)) rfl ?_
   refine EQ.val (fun _ hw => (ix_22 rfl rfl hcp)) rfl ?_
   refine EQ.val (fun _ hw => (ld_3 rfl (below_load hw (below_load hbw hp2)))) rfl ?_
   refine EQ.val (fun _ hw => (x_lss (r := false) rfl rfl (decide_eq_false hsn))) rfl ?_
   refine EQ.val (fun _ hw => (x_assign rfl)) rfl ?_
   refine EQ.fin (fun w5 hw_ => ?_)
   replace q1 := q1.bl hw_;replace q2 := q2.bl hw_;replace hbw := bo_ hbw hw_;clear hw_;refine EX.seq (EC.seq ?_)
   by_cases hhi : allowAt ru b c < (t.res.getD b bd0).hi <;> by_cases hlo : allowAt ru b c < (t.res.getD b bd0).lo
   ·
    refine EC.regionQ (by kernel_rfl) (by kernel_rfl) ?_
    refine EQ.val (fun _ hw => (x_move rfl)) rfl ?_
    refine EQ.val (fun _ hw => (x_move rfl)) rfl ?_
    refine EQ.valg rfl rfl (fun _ hw => (fa_62_0 rfl)) rfl ?_
    refine EQ.valg rfl rfl (fun _ hw => (ld_60 rfl (below_load hw (q2.at (j := 0) rfl)))) rfl ?_
    refine EQ.valg rfl rfl (fun _ hw => (x_move rfl)) rfl ?_
    refine EQ.valg rfl rfl (fun _ hw => (ix_60 (by show some (Value.slice T1 _ _) = _; rw [eT1]) rfl hb_)) rfl ?_
    refine EQ.valg rfl rfl (fun _ hw => (fa_24_1 rfl)) rfl ?_
    refine EQ.valg rfl rfl (fun _ hw => (ld_3 rfl (below_load hw (below_load hbw d1)))) rfl ?_
    refine EQ.valg rfl rfl (fun _ hw => (fa_28_2 rfl)) rfl ?_
    refine EQ.valg rfl rfl (fun _ hw => (ld_25 rfl (below_load hw (q1.at (j := 3) rfl)))) rfl ?_
    refine EQ.valg rfl rfl (fun _ hw => (x_move rfl)) rfl ?_
    refine EQ.valg rfl rfl (fun _ hw => (ix_25 (by show some (Value.slice Aa _ _) = _; rw [eAa]) rfl hba)) rfl ?_
    refine EQ.valg rfl rfl (fun _ hw => (ld_22 rfl (below_load hw (below_load hbw ha1)))) rfl ?_
    refine EQ.valg rfl rfl (fun _ hw => (x_move rfl)) rfl ?_
    refine EQ.valg rfl rfl (fun _ hw => (ix_22 rfl rfl hca)) rfl ?_
    refine EQ.valg rfl rfl (fun _ hw => (ld_3 rfl (below_load hw (below_load hbw ha2)))) rfl ?_
    refine EQ.valg rfl rfl (fun _ hw => (x_gtr (r := true) rfl rfl (decide_eq_true hhi))) rfl ?_
    refine EQ.val (fun _ hw => (x_pick_f rfl rfl)) rfl ?_
    refine EQ.val (fun _ hw => (x_move rfl)) rfl ?_
    refine EQ.val (fun _ hw => (x_move rfl)) rfl ?_
    refine EQ.valg rfl rfl (fun _ hw => (fa_62_0 rfl)) rfl ?_
    refine EQ.valg rfl rfl (fun _ hw => (ld_60 rfl (below_load hw (q2.at (j := 0) rfl)))) rfl ?_
    refine EQ.valg rfl rfl (fun _ hw => (x_move rfl)) rfl ?_
    refine EQ.valg rfl rfl (fun _ hw => (ix_60 (by show some (Value.slice T1 _ _) = _; rw [eT1]) rfl hb_)) rfl ?_
    refine EQ.valg rfl rfl (fun _ hw => (fa_24_0 rfl)) rfl ?_
    refine EQ.valg rfl rfl (fun _ hw => (ld_3 rfl (below_load hw (below_load hbw d0)))) rfl ?_
    refine EQ.valg rfl rfl (fun _ hw => (fa_28_2 rfl)) rfl ?_
    refine EQ.valg rfl rfl (fun _ hw => (ld_25 rfl (below_load hw (q1.at (j := 3) rfl)))) rfl ?_
    refine EQ.valg rfl rfl (fun _ hw => (x_move rfl)) rfl ?_
    refine EQ.valg rfl rfl (fun _ hw => (ix_25 (by show some (Value.slice Aa _ _) = _; rw [eAa]) rfl hba)) rfl ?_
    refine EQ.valg rfl rfl (fun _ hw => (ld_22 rfl (below_load hw (below_load hbw ha1)))) rfl ?_
    refine EQ.valg rfl rfl (fun _ hw => (x_move rfl)) rfl ?_
    refine EQ.valg rfl rfl (fun _ hw => (ix_22 rfl rfl hca)) rfl ?_
    refine EQ.valg rfl rfl (fun _ hw => (ld_3 rfl (below_load hw (below_load hbw ha2)))) rfl ?_
    refine EQ.valg rfl rfl (fun _ hw => (x_gtr (r := true) rfl rfl (decide_eq_true hlo))) rfl ?_
    refine EQ.val (fun _ hw => (x_pick_f rfl rfl)) rfl ?_
    refine EQ.val (fun _ hw => (x_assign rfl)) rfl ?_
    refine EQ.val (fun _ hw => (x_assign rfl)) rfl ?_
    refine EQ.fin (fun w6 hw_ => ?_)
    replace q1 := q1.bl hw_;replace q2 := q2.bl hw_;replace hbw := bo_ hbw hw_;clear hw_;refine EX.seq (EC.ret ?_);have hres : forbR ru t b c = (true, true) := by unfold forbR; rw [if_neg ha_, decide_eq_false hsn, decide_eq_true hhi, decide_eq_true hlo]; try rfl
    exact EX.done (res2 rfl rfl rfl) ⟨by rw [hres], hbw⟩
   ·
    refine EC.regionQ (by kernel_rfl) (by kernel_rfl) ?_
    refine EQ.val (fun _ hw => (x_move rfl)) rfl ?_
    refine EQ.val (fun _ hw => (x_move rfl)) rfl ?_
    refine EQ.valg rfl rfl (fun _ hw => (fa_62_0 rfl)) rfl ?_
    refine EQ.valg rfl rfl (fun _ hw => (ld_60 rfl (below_load hw (q2.at (j := 0) rfl)))) rfl ?_
    refine EQ.valg rfl rfl (fun _ hw => (x_move rfl)) rfl ?_
    refine EQ.valg rfl rfl (fun _ hw => (ix_60 (by show some (Value.slice T1 _ _) = _; rw [eT1]) rfl hb_)) rfl ?_
    refine EQ.valg rfl rfl (fun _ hw => (fa_24_1 rfl)) rfl ?_
    refine EQ.valg rfl rfl (fun _ hw => (ld_3 rfl (below_load hw (below_load hbw d1)))) rfl ?_
    refine EQ.valg rfl rfl (fun _ hw => (fa_28_2 rfl)) rfl ?_
    refine EQ.valg rfl rfl (fun _ hw => (ld_25 rfl (below_load hw (q1.at (j := 3) rfl)))) rfl ?_
    refine EQ.valg rfl rfl (fun _ hw => (x_move rfl)) rfl ?_
    refine EQ.valg rfl rfl (fun _ hw => (ix_25 (by show some (Value.slice Aa _ _) = _; rw [eAa]) rfl hba)) rfl ?_
    refine EQ.valg rfl rfl (fun _ hw => (ld_22 rfl (below_load hw (below_load hbw ha1)))) rfl ?_
    refine EQ.valg rfl rfl (fun _ hw => (x_move rfl)) rfl ?_
    refine EQ.valg rfl rfl (fun _ hw => (ix_22 rfl rfl hca)) rfl ?_
    refine EQ.valg rfl rfl (fun _ hw => (ld_3 rfl (below_load hw (below_load hbw ha2)))) rfl ?_
    refine EQ.valg rfl rfl (fun _ hw => (x_gtr (r := true) rfl rfl (decide_eq_true hhi))) rfl ?_
    refine EQ.val (fun _ hw => (x_pick_f rfl rfl)) rfl ?_
    refine EQ.val (fun _ hw => (x_move rfl)) rfl ?_
    refine EQ.val (fun _ hw => (x_move rfl)) rfl ?_
    refine EQ.valg rfl rfl (fun _ hw => (fa_62_0 rfl)) rfl ?_
    refine EQ.valg rfl rfl (fun _ hw => (ld_60 rfl (below_load hw (q2.at (j := 0) rfl)))) rfl ?_
    refine EQ.valg rfl rfl (fun _ hw => (x_move rfl)) rfl ?_
    refine EQ.valg rfl rfl (fun _ hw => (ix_60 (by show some (Value.slice T1 _ _) = _; rw [eT1]) rfl hb_)) rfl ?_
    refine EQ.valg rfl rfl (fun _ hw => (fa_24_0 rfl)) rfl ?_
    refine EQ.valg rfl rfl (fun _ hw => (ld_3 rfl (below_load hw (below_load hbw d0)))) rfl ?_
    refine EQ.valg rfl rfl (fun _ hw => (fa_28_2 rfl)) rfl ?_
    refine EQ.valg rfl rfl (fun _ hw => (ld_25 rfl (below_load hw (q1.at (j := 3) rfl)))) rfl ?_
    refine EQ.valg rfl rfl (fun _ hw => (x_move rfl)) rfl ?_
    refine EQ.valg rfl rfl (fun _ hw => (ix_25 (by show some (Value.slice Aa _ _) = _; rw [eAa]) rfl hba)) rfl ?_
    refine EQ.valg rfl rfl (fun _ hw => (ld_22 rfl (below_load hw (below_load hbw ha1)))) rfl ?_
    refine EQ.valg rfl rfl (fun _ hw => (x_move rfl)) rfl ?_
    refine EQ.valg rfl rfl (fun _ hw => (ix_22 rfl rfl hca)) rfl ?_
    refine EQ.valg rfl rfl (fun _ hw => (ld_3 rfl (below_load hw (below_load hbw ha2)))) rfl ?_
    refine EQ.valg rfl rfl (fun _ hw => (x_gtr (r := false) rfl rfl (decide_eq_false hlo))) rfl ?_
    refine EQ.val (fun _ hw => (x_pick_f rfl rfl)) rfl ?_
    refine EQ.val (fun _ hw => (x_assign rfl)) rfl ?_
    refine EQ.val (fun _ hw => (x_assign rfl)) rfl ?_
    refine EQ.fin (fun w7 hw_ => ?_)
    replace q1 := q1.bl hw_;replace q2 := q2.bl hw_;replace hbw := bo_ hbw hw_;clear hw_;refine EX.seq (EC.ret ?_);have hres : forbR ru t b c = (true, false) := by unfold forbR; rw [if_neg ha_, decide_eq_false hsn, decide_eq_true hhi, decide_eq_false hlo]; try rfl
    exact EX.done (res2 rfl rfl rfl) ⟨by rw [hres], hbw⟩
   ·
    refine EC.regionQ (by kernel_rfl) (by kernel_rfl) ?_
    refine EQ.val (fun _ hw => (x_move rfl)) rfl ?_
    refine EQ.val (fun _ hw => (x_move rfl)) rfl ?_
    refine EQ.valg rfl rfl (fun _ hw => (fa_62_0 rfl)) rfl ?_
    refine EQ.valg rfl rfl (fun _ hw => (ld_60 rfl (below_load hw (q2.at (j := 0) rfl)))) rfl ?_
    refine EQ.valg rfl rfl (fun _ hw => (x_move rfl)) rfl ?_
    refine EQ.valg rfl rfl (fun _ hw => (ix_60 (by show some (Value.slice T1 _ _) = _; rw [eT1]) rfl hb_)) rfl ?_
    refine EQ.valg rfl rfl (fun _ hw => (fa_24_1 rfl)) rfl ?_
    refine EQ.valg rfl rfl (fun _ hw => (ld_3 rfl (below_load hw (below_load hbw d1)))) rfl ?_
    refine EQ.valg rfl rfl (fun _ hw => (fa_28_2 rfl)) rfl ?_
    refine EQ.valg rfl rfl (fun _ hw => (ld_25 rfl (below_load hw (q1.at (j := 3) rfl)))) rfl ?_
    refine EQ.valg rfl rfl (fun _ hw => (x_move rfl)) rfl ?_
    refine EQ.valg rfl rfl (fun _ hw => (ix_25 (by show some (Value.slice Aa _ _) = _; rw [eAa]) rfl hba)) rfl ?_
    refine EQ.valg rfl rfl (fun _ hw => (ld_22 rfl (below_load hw (below_load hbw ha1)))) rfl ?_
    refine EQ.valg rfl rfl (fun _ hw => (x_move rfl)) rfl ?_
    refine EQ.valg rfl rfl (fun _ hw => (ix_22 rfl rfl hca)) rfl ?_
    refine EQ.valg rfl rfl (fun _ hw => (ld_3 rfl (below_load hw (below_load hbw ha2)))) rfl ?_
    refine EQ.valg rfl rfl (fun _ hw => (x_gtr (r := false) rfl rfl (decide_eq_false hhi))) rfl ?_
    refine EQ.val (fun _ hw => (x_pick_f rfl rfl)) rfl ?_
    refine EQ.val (fun _ hw => (x_move rfl)) rfl ?_
    refine EQ.val (fun _ hw => (x_move rfl)) rfl ?_
    refine EQ.valg rfl rfl (fun _ hw => (fa_62_0 rfl)) rfl ?_
    refine EQ.valg rfl rfl (fun _ hw => (ld_60 rfl (below_load hw (q2.at (j := 0) rfl)))) rfl ?_
    refine EQ.valg rfl rfl (fun _ hw => (x_move rfl)) rfl ?_
    refine EQ.valg rfl rfl (fun _ hw => (ix_60 (by show some (Value.slice T1 _ _) = _; rw [eT1]) rfl hb_)) rfl ?_
    refine EQ.valg rfl rfl (fun _ hw => (fa_24_0 rfl)) rfl ?_
    refine EQ.valg rfl rfl (fun _ hw => (ld_3 rfl (below_load hw (below_load hbw d0)))) rfl ?_
    refine EQ.valg rfl rfl (fun _ hw => (fa_28_2 rfl)) rfl ?_
    refine EQ.valg rfl rfl (fun _ hw => (ld_25 rfl (below_load hw (q1.at (j := 3) rfl)))) rfl ?_
    refine EQ.valg rfl rfl (fun _ hw => (x_move rfl)) rfl ?_
    refine EQ.valg rfl rfl (fun _ hw => (ix_25 (by show some (Value.slice Aa _ _) = _; rw [eAa]) rfl hba)) rfl ?_
    refine EQ.valg rfl rfl (fun _ hw => (ld_22 rfl (below_load hw (below_load hbw ha1)))) rfl ?_
    refine EQ.valg rfl rfl (fun _ hw => (x_move rfl)) rfl ?_
    refine EQ.valg rfl rfl (fun _ hw => (ix_22 rfl rfl hca)) rfl ?_
    refine EQ.valg rfl rfl (fun _ hw => (ld_3 rfl (below_load hw (below_load hbw ha2)))) rfl ?_
    refine EQ.valg rfl rfl (fun _ hw => (x_gtr (r := true) rfl rfl (decide_eq_true hlo))) rfl ?_
    refine EQ.val (fun _ hw => (x_pick_f rfl rfl)) rfl ?_
    refine EQ.val (fun _ hw => (x_assign rfl)) rfl ?_
    refine EQ.val (fun _ hw => (x_assign rfl)) rfl ?_
    refine EQ.fin (fun w8 hw_ => ?_)
    replace q1 := q1.bl hw_;replace q2 := q2.bl hw_;replace hbw := bo_ hbw hw_;clear hw_;refine EX.seq (EC.ret ?_);have hres : forbR ru t b c = (false, true) := by unfold forbR; rw [if_neg ha_, decide_eq_false hsn, decide_eq_false hhi, decide_eq_true hlo]; try rfl
    exact EX.done (res2 rfl rfl rfl) ⟨by rw [hres], hbw⟩
   ·
    refine EC.regionQ (by kernel_rfl) (by kernel_rfl) ?_
    refine EQ.val (fun _ hw => (x_move rfl)) rfl ?_
    refine EQ.val (fun _ hw => (x_move rfl)) rfl ?_
    refine EQ.valg rfl rfl (fun _ hw => (fa_62_0 rfl)) rfl ?_
    refine EQ.valg rfl rfl (fun _ hw => (ld_60 rfl (below_load hw (q2.at (j := 0) rfl)))) rfl ?_
    refine EQ.valg rfl rfl (fun _ hw => (x_move rfl)) rfl ?_
    refine EQ.valg rfl rfl (fun _ hw => (ix_60 (by show some (Value.slice T1 _ _) = _; rw [eT1]) rfl hb_)) rfl ?_
    refine EQ.valg rfl rfl (fun _ hw => (fa_24_1 rfl)) rfl ?_
    refine EQ.valg rfl rfl (fun _ hw => (ld_3 rfl (below_load hw (below_load hbw d1)))) rfl ?_
    refine EQ.valg rfl rfl (fun _ hw => (fa_28_2 rfl)) rfl ?_
    refine EQ.valg rfl rfl (fun _ hw => (ld_25 rfl (below_load hw (q1.at (j := 3) rfl)))) rfl ?_
    refine EQ.valg rfl rfl (fun _ hw => (x_move rfl)) rfl ?_
    refine EQ.valg rfl rfl (fun _ hw => (ix_25 (by show some (Value.slice Aa _ _) = _; rw [eAa]) rfl hba)) rfl ?_
    refine EQ.valg rfl rfl (fun _ hw => (ld_22 rfl (below_load hw (below_load hbw ha1)))) rfl ?_
    refine EQ.valg rfl rfl (fun _ hw => (x_move rfl)) rfl ?_
    refine EQ.valg rfl rfl (fun _ hw => (ix_22 rfl rfl hca)) rfl ?_
    refine EQ.valg rfl rfl (fun _ hw => (ld_3 rfl (below_load hw (below_load hbw ha2)))) rfl ?_
    refine EQ.valg rfl rfl (fun _ hw => (x_gtr (r := false) rfl rfl (decide_eq_false hhi))) rfl ?_
    refine EQ.val (fun _ hw => (x_pick_f rfl rfl)) rfl ?_
    refine EQ.val (fun _ hw => (x_move rfl)) rfl ?_
    refine EQ.val (fun _ hw => (x_move rfl)) rfl ?_
    refine EQ.valg rfl rfl (fun _ hw => (fa_62_0 rfl)) rfl ?_
    refine EQ.valg rfl rfl (fun _ hw => (ld_60 rfl (below_load hw (q2.at (j := 0) rfl)))) rfl ?_
    refine EQ.valg rfl rfl (fun _ hw => (x_move rfl)) rfl ?_
    refine EQ.valg rfl rfl (fun _ hw => (ix_60 (by show some (Value.slice T1 _ _) = _; rw [eT1]) rfl hb_)) rfl ?_
    refine EQ.valg rfl rfl (fun _ hw => (fa_24_0 rfl)) rfl ?_
    refine EQ.valg rfl rfl (fun _ hw => (ld_3 rfl (below_load hw (below_load hbw d0)))) rfl ?_
    refine EQ.valg rfl rfl (fun _ hw => (fa_28_2 rfl)) rfl ?_
    refine EQ.valg rfl rfl (fun _ hw => (ld_25 rfl (below_load hw (q1.at (j := 3) rfl)))) rfl ?_
    refine EQ.valg rfl rfl (fun _ hw => (x_move rfl)) rfl ?_
    refine EQ.valg rfl rfl (fun _ hw => (ix_25 (by show some (Value.slice Aa _ _) = _; rw [eAa]) rfl hba)) rfl ?_
    refine EQ.valg rfl rfl (fun _ hw => (ld_22 rfl (below_load hw (below_load hbw ha1)))) rfl ?_
    refine EQ.valg rfl rfl (fun _ hw => (x_move rfl)) rfl ?_
    refine EQ.valg rfl rfl (fun _ hw => (ix_22 rfl rfl hca)) rfl ?_
    refine EQ.valg rfl rfl (fun _ hw => (ld_3 rfl (below_load hw (below_load hbw ha2)))) rfl ?_
    refine EQ.valg rfl rfl (fun _ hw => (x_gtr (r := false) rfl rfl (decide_eq_false hlo))) rfl ?_
    refine EQ.val (fun _ hw => (x_pick_f rfl rfl)) rfl ?_
    refine EQ.val (fun _ hw => (x_assign rfl)) rfl ?_
    refine EQ.val (fun _ hw => (x_assign rfl)) rfl ?_
    refine EQ.fin (fun w9 hw_ => ?_)
    replace q1 := q1.bl hw_;replace q2 := q2.bl hw_;replace hbw := bo_ hbw hw_;clear hw_;refine EX.seq (EC.ret ?_);have hres : forbR ru t b c = (false, false) := by unfold forbR; rw [if_neg ha_, decide_eq_false hsn, decide_eq_false hhi, decide_eq_false hlo]; try rfl
    exact EX.done (res2 rfl rfl rfl) ⟨by rw [hres], hbw⟩
def mayR (ru : Rules) (t : RT) (c : Nat) : Nat → Bool × Bool
 | 0 => (true, true)
 | k + 1 => ((mayR ru t c k).1 && !(forbR ru t k c).1, (mayR ru t c k).2 && !(forbR ru t k c).2)
theorem mayR_sim {ru : Rules} (hro : RulesOk ru) {tk : List Tr} {u : RT} (h : Sim ru.levels.length tk u) {c : Nat} : ∀ k, k ≤ ru.levels.length → mayR ru u c k = mayT ru tk c k
 | 0, _ => rfl
 | k + 1, hk => by
  unfold mayR mayT
  rw [mayR_sim hro h k (by omega), sim_forb hro h (show k < ru.levels.length by omega)]
set_option maxHeartbeats 2000000 in
theorem rMay_any {ru : Rules} {ua up : List Value} {vl va vp vk : Value} {w : World} {B : Nat} (hr : RdRules w B vl va vp vk ru ua up) (hB : B ≤ w.heap.size) (hro : RulesOk ru) {t : RT} {kk : Nat} (ht : RtOk ru.levels.length kk t) {T1 T2 : Option Addr} {cT1 cT2 C : Nat} (h1 : Rd w C 2 (.slice T1 ru.levels.length cT1) ru.levels.length (bdsC t.res)) (h2 : Rd w C 1 (.slice T2 ru.levels.length cT2) ru.levels.length (ints t.aft)) (hC : C ≤ w.heap.size) {c : Nat} (hc_ : c < ru.levels.length) :
  Calls Try.prog 36 #[rulesV vl va vp vk ru, .agg #[.slice T1 ru.levels.length cT1, .slice T2 ru.levels.length cT2], .int .i64 (c : Nat)] w fun e w' => e = .returned (.tuple #[.bool (mayR ru t c ru.levels.length).1, .bool (mayR ru t c ru.levels.length).2]) ∧ Below w.heap.size w w' := by
 obtain ⟨Al, cl, rfl, _⟩ := hr.levels.shape;obtain ⟨Aa, ca, rfl, _⟩ := hr.allow.rd.shape;obtain ⟨Ap, cp, rfl, _⟩ := hr.apart.rd.shape;obtain ⟨Ak, ck, rfl, _⟩ := hr.kinds.shape;have hn8 := hro.n8;have hbw := Below.refl w.heap.size w
 unfold rulesV
 refine EC.enter 40 Try.func36 rfl rfl rfl (EC.seq (EC.region (EL.newP (bx_28 rfl) rfl ?_)));intro g1 w1 q1 hb1 hg1 hl1;have bhbw_1 := Nat.le_trans hbw.size hg1;replace hbw := bo_ hbw hb1;clear hb1 hg1 hl1;refine EL.newP (bx_62 rfl) rfl ?_;intro g2 w2 q2 hb2 hg2 hl2;have n1_2 := q1.na hg2;have bhbw_2 := Nat.le_trans hbw.size hg2;replace q1 := q1.bl hb2;replace hbw := bo_ hbw hb2;clear hb2 hg2 hl2;refine EL.as rfl rfl (EL.as rfl rfl (EL.nil (EX.seq (EC.seq (EC.region (EL.as rfl rfl (EL.as rfl rfl (EL.nil (EX.seq ?_)))))))));refine EC.seq (EC.seq (EC.region (EL.as rfl rfl (EL.nil (EX.seq (EC.block ?_))))));refine EC.loopD [8, 9, 10, 11, 12, 13, 14, 15, 16, 17, 18, 19, 20, 21, 22, 23, 24, 25, 26, 27, 28, 29, 30, 31, 32, 33, 34, 35, 36, 37] (fun x : Nat => [(8, .bool (mayR ru t c x).1), (9, .bool (mayR ru t c x).2), (10, .int .i64 (x : Nat))]) (fun x W => x ≤ ru.levels.length ∧ Blk W g1 28 #[.slice Al ru.levels.length cl, .int .i64 ru.fade.lo, .int .i64 ru.fade.hi, .slice Aa ru.allow.length ca, .slice Ap ru.apart.length cp, .slice Ak ru.kinds.length ck] ∧ Blk W g2 62 #[.slice T1 ru.levels.length cT1, .slice T2 ru.levels.length cT2] ∧ Below w.heap.size w W) (fun x => ru.levels.length - x) 0 ⟨Nat.zero_le _, q1, q2, hbw⟩ ⟨rfl, rfl, rfl, trivial⟩ ?_
 clear q1 q2 hbw
 rintro x wx ⟨hx, q1, q2, hbw⟩
 by_cases hlt : x < ru.levels.length
 ·
  cases h1_ : (mayR ru t c x).1 <;> cases h2_ : (mayR ru t c x).2
  ·
   refine EC.seq (EC.seq (EC.region (EL.mv rfl rfl (EL.val (fa_62_1 rfl) rfl (EL.val (ld_22 rfl (q2.at (j := 1) rfl)) rfl (EL.val (ln_22 rfl) rfl ?_))))));refine EL.val (x_lss rfl rfl (decide_eq_true (show (((x : Nat) : Int) < ((ru.levels.length : Nat) : Int)) by omega))) rfl ?_
   refine EL.nil (EX.seq (EC.yes rfl (EC.skip (EX.seq (EC.seq (EC.block (EC.seq (EC.region (EL.val (ld_28 rfl (q1.at (j := 0) rfl) (q1.at (j := 1) rfl) (q1.at (j := 2) rfl) (q1.at (j := 3) rfl) (q1.at (j := 4) rfl) (q1.at (j := 5) rfl)) rfl ?_)))))))));refine EL.val (ld_62 rfl (q2.at (j := 0) rfl) (q2.at (j := 1) rfl)) rfl (EL.mv rfl rfl (EL.mv rfl rfl ?_));refine EL.call (cl_54 rfl rfl rfl rfl) rfl (Forbids_any (hr.below (hbw.mono hB)) (Nat.le_trans hB hbw.size) hro ht (h1.below (hbw.mono hC)) (h2.below (hbw.mono hC)) (Nat.le_trans hC hbw.size) (show x < ru.levels.length from hlt) hc_) ?_
   rintro e w3 ⟨rfl, hc3⟩
   refine ⟨_, rfl, ?_⟩;replace q1 := q1.bl hc3;replace q2 := q2.bl hc3;replace hbw := bo_ hbw hc3;clear hc3;refine EL.mv rfl rfl (EL.val (x_extract rfl rfl) rfl (EL.val (x_extract rfl rfl) rfl (EL.as rfl rfl (EL.as rfl rfl (EL.nil (EX.seq (EC.region (EL.mv rfl rfl (EL.mv rfl rfl ?_)))))))));refine EL.skip rfl rfl rfl rfl (EL.skip rfl rfl rfl rfl (EL.val (x_pick_f rfl rfl) rfl (EL.mv rfl rfl (EL.mv rfl rfl (EL.skip rfl rfl rfl rfl (EL.skip rfl rfl rfl rfl (EL.val (x_pick_f rfl rfl) rfl (EL.as rfl rfl (EL.as rfl rfl ?_)))))))));refine EL.nil (EX.blk (EX.seq (EC.region (EL.mv rfl rfl ?_))));refine EL.val (x_add rfl rfl (c := ((x + 1 : Nat) : Int)) ((IntWalk.i64_in _ ⟨by first | omega | (simp only; omega), by first | omega | (simp only; omega)⟩).trans (by first | omega | (simp only; omega)))) rfl ?_
   refine EL.as rfl rfl (EL.nil ?_);refine EX.roundD (x + 1) ⟨agree_b (by simp [mayR, *]) rfl, agree_b (by simp [mayR, *]) rfl, rfl, trivial⟩ (by repeat first | with_reducible exact Sub.refl _ | refine sub_past rfl ?_ | exact Sub.refl _ | refine sub_del rfl ?_ | refine sub_insL_nil ?_) ⟨hlt, q1, q2, hbw⟩ (by omega)
  ·
   refine EC.seq (EC.seq (EC.region (EL.mv rfl rfl (EL.val (fa_62_1 rfl) rfl (EL.val (ld_22 rfl (q2.at (j := 1) rfl)) rfl (EL.val (ln_22 rfl) rfl ?_))))));refine EL.val (x_lss rfl rfl (decide_eq_true (show (((x : Nat) : Int) < ((ru.levels.length : Nat) : Int)) by omega))) rfl ?_
   refine EL.nil (EX.seq (EC.yes rfl (EC.skip (EX.seq (EC.seq (EC.block (EC.seq (EC.region (EL.val (ld_28 rfl (q1.at (j := 0) rfl) (q1.at (j := 1) rfl) (q1.at (j := 2) rfl) (q1.at (j := 3) rfl) (q1.at (j := 4) rfl) (q1.at (j := 5) rfl)) rfl ?_)))))))));refine EL.val (ld_62 rfl (q2.at (j := 0) rfl) (q2.at (j := 1) rfl)) rfl (EL.mv rfl rfl (EL.mv rfl rfl ?_));refine EL.call (cl_54 rfl rfl rfl rfl) rfl (Forbids_any (hr.below (hbw.mono hB)) (Nat.le_trans hB hbw.size) hro ht (h1.below (hbw.mono hC)) (h2.below (hbw.mono hC)) (Nat.le_trans hC hbw.size) (show x < ru.levels.length from hlt) hc_) ?_
   rintro e w4 ⟨rfl, hc4⟩
   refine ⟨_, rfl, ?_⟩;replace q1 := q1.bl hc4;replace q2 := q2.bl hc4;replace hbw := bo_ hbw hc4;clear hc4;refine EL.mv rfl rfl (EL.val (x_extract rfl rfl) rfl (EL.val (x_extract rfl rfl) rfl (EL.as rfl rfl (EL.as rfl rfl (EL.nil (EX.seq ?_))))))
   cases h4_ : (forbR ru t x c).2
   ·
    refine EC.region (EL.mv rfl rfl (EL.mv rfl rfl (EL.skip rfl rfl rfl rfl (EL.skip rfl rfl rfl rfl (EL.val (x_pick_f rfl rfl) rfl (EL.mv rfl rfl (EL.mv rfl rfl (EL.valg rfl rfl (x_move rfl) rfl (EL.valg rfl rfl (x_not rfl) rfl ?_)))))))));refine EL.val (x_pick_t rfl rfl) rfl (EL.as rfl rfl (EL.as rfl rfl (EL.nil (EX.blk (EX.seq (EC.region (EL.mv rfl rfl ?_)))))));refine EL.val (x_add rfl rfl (c := ((x + 1 : Nat) : Int)) ((IntWalk.i64_in _ ⟨by first | omega | (simp only; omega), by first | omega | (simp only; omega)⟩).trans (by first | omega | (simp only; omega)))) rfl ?_
    refine EL.as rfl rfl (EL.nil ?_);refine EX.roundD (x + 1) ⟨agree_b (by simp [mayR, *]) rfl, agree_b (by simp [mayR, *]) rfl, rfl, trivial⟩ (by repeat first | with_reducible exact Sub.refl _ | refine sub_past rfl ?_ | exact Sub.refl _ | refine sub_del rfl ?_ | refine sub_insL_nil ?_) ⟨hlt, q1, q2, hbw⟩ (by omega)
   ·
    refine EC.region (EL.mv rfl rfl (EL.mv rfl rfl (EL.skip rfl rfl rfl rfl (EL.skip rfl rfl rfl rfl (EL.val (x_pick_f rfl rfl) rfl (EL.mv rfl rfl (EL.mv rfl rfl (EL.valg rfl rfl (x_move rfl) rfl (EL.valg rfl rfl (x_not rfl) rfl ?_)))))))));refine EL.val (x_pick_t rfl rfl) rfl (EL.as rfl rfl (EL.as rfl rfl (EL.nil (EX.blk (EX.seq (EC.region (EL.mv rfl rfl ?_)))))));refine EL.val (x_add rfl rfl (c := ((x + 1 : Nat) : Int)) ((IntWalk.i64_in _ ⟨by first | omega | (simp only; omega), by first | omega | (simp only; omega)⟩).trans (by first | omega | (simp only; omega)))) rfl ?_
    refine EL.as rfl rfl (EL.nil ?_);refine EX.roundD (x + 1) ⟨agree_b (by simp [mayR, *]) rfl, agree_b (by simp [mayR, *]) rfl, rfl, trivial⟩ (by repeat first | with_reducible exact Sub.refl _ | refine sub_past rfl ?_ | exact Sub.refl _ | refine sub_del rfl ?_ | refine sub_insL_nil ?_) ⟨hlt, q1, q2, hbw⟩ (by omega)
  ·
   refine EC.seq (EC.seq (EC.region (EL.mv rfl rfl (EL.val (fa_62_1 rfl) rfl (EL.val (ld_22 rfl (q2.at (j := 1) rfl)) rfl (EL.val (ln_22 rfl) rfl ?_))))));refine EL.val (x_lss rfl rfl (decide_eq_true (show (((x : Nat) : Int) < ((ru.levels.length : Nat) : Int)) by omega))) rfl ?_
   refine EL.nil (EX.seq (EC.yes rfl (EC.skip (EX.seq (EC.seq (EC.block (EC.seq (EC.region (EL.val (ld_28 rfl (q1.at (j := 0) rfl) (q1.at (j := 1) rfl) (q1.at (j := 2) rfl) (q1.at (j := 3) rfl) (q1.at (j := 4) rfl) (q1.at (j := 5) rfl)) rfl ?_)))))))));refine EL.val (ld_62 rfl (q2.at (j := 0) rfl) (q2.at (j := 1) rfl)) rfl (EL.mv rfl rfl (EL.mv rfl rfl ?_));refine EL.call (cl_54 rfl rfl rfl rfl) rfl (Forbids_any (hr.below (hbw.mono hB)) (Nat.le_trans hB hbw.size) hro ht (h1.below (hbw.mono hC)) (h2.below (hbw.mono hC)) (Nat.le_trans hC hbw.size) (show x < ru.levels.length from hlt) hc_) ?_
   rintro e w5 ⟨rfl, hc5⟩
   refine ⟨_, rfl, ?_⟩;replace q1 := q1.bl hc5;replace q2 := q2.bl hc5;replace hbw := bo_ hbw hc5;clear hc5;refine EL.mv rfl rfl (EL.val (x_extract rfl rfl) rfl (EL.val (x_extract rfl rfl) rfl (EL.as rfl rfl (EL.as rfl rfl (EL.nil (EX.seq ?_))))))
   cases h3_ : (forbR ru t x c).1
   ·
    refine EC.region (EL.mv rfl rfl (EL.mv rfl rfl (EL.valg rfl rfl (x_move rfl) rfl (EL.valg rfl rfl (x_not rfl) rfl (EL.val (x_pick_t rfl rfl) rfl (EL.mv rfl rfl (EL.mv rfl rfl (EL.skip rfl rfl rfl rfl (EL.skip rfl rfl rfl rfl ?_)))))))));refine EL.val (x_pick_f rfl rfl) rfl (EL.as rfl rfl (EL.as rfl rfl (EL.nil (EX.blk (EX.seq (EC.region (EL.mv rfl rfl ?_)))))));refine EL.val (x_add rfl rfl (c := ((x + 1 : Nat) : Int)) ((IntWalk.i64_in _ ⟨by first | omega | (simp only; omega), by first | omega | (simp only; omega)⟩).trans (by first | omega | (simp only; omega)))) rfl ?_
    refine EL.as rfl rfl (EL.nil ?_);refine EX.roundD (x + 1) ⟨agree_b (by simp [mayR, *]) rfl, agree_b (by simp [mayR, *]) rfl, rfl, trivial⟩ (by repeat first | with_reducible exact Sub.refl _ | refine sub_past rfl ?_ | exact Sub.refl _ | refine sub_del rfl ?_ | refine sub_insL_nil ?_) ⟨hlt, q1, q2, hbw⟩ (by omega)
   ·
    refine EC.region (EL.mv rfl rfl (EL.mv rfl rfl (EL.valg rfl rfl (x_move rfl) rfl (EL.valg rfl rfl (x_not rfl) rfl (EL.val (x_pick_t rfl rfl) rfl (EL.mv rfl rfl (EL.mv rfl rfl (EL.skip rfl rfl rfl rfl (EL.skip rfl rfl rfl rfl ?_)))))))));refine EL.val (x_pick_f rfl rfl) rfl (EL.as rfl rfl (EL.as rfl rfl (EL.nil (EX.blk (EX.seq (EC.region (EL.mv rfl rfl ?_)))))));refine EL.val (x_add rfl rfl (c := ((x + 1 : Nat) : Int)) ((IntWalk.i64_in _ ⟨by first | omega | (simp only; omega), by first | omega | (simp only; omega)⟩).trans (by first | omega | (simp only; omega)))) rfl ?_
    refine EL.as rfl rfl (EL.nil ?_);refine EX.roundD (x + 1) ⟨agree_b (by simp [mayR, *]) rfl, agree_b (by simp [mayR, *]) rfl, rfl, trivial⟩ (by repeat first | with_reducible exact Sub.refl _ | refine sub_past rfl ?_ | exact Sub.refl _ | refine sub_del rfl ?_ | refine sub_insL_nil ?_) ⟨hlt, q1, q2, hbw⟩ (by omega)
  ·
   refine EC.seq (EC.seq (EC.region (EL.mv rfl rfl (EL.val (fa_62_1 rfl) rfl (EL.val (ld_22 rfl (q2.at (j := 1) rfl)) rfl (EL.val (ln_22 rfl) rfl ?_))))));refine EL.val (x_lss rfl rfl (decide_eq_true (show (((x : Nat) : Int) < ((ru.levels.length : Nat) : Int)) by omega))) rfl ?_
   refine EL.nil (EX.seq (EC.yes rfl (EC.skip (EX.seq (EC.seq (EC.block (EC.seq (EC.region (EL.val (ld_28 rfl (q1.at (j := 0) rfl) (q1.at (j := 1) rfl) (q1.at (j := 2) rfl) (q1.at (j := 3) rfl) (q1.at (j := 4) rfl) (q1.at (j := 5) rfl)) rfl ?_)))))))));refine EL.val (ld_62 rfl (q2.at (j := 0) rfl) (q2.at (j := 1) rfl)) rfl (EL.mv rfl rfl (EL.mv rfl rfl ?_));refine EL.call (cl_54 rfl rfl rfl rfl) rfl (Forbids_any (hr.below (hbw.mono hB)) (Nat.le_trans hB hbw.size) hro ht (h1.below (hbw.mono hC)) (h2.below (hbw.mono hC)) (Nat.le_trans hC hbw.size) (show x < ru.levels.length from hlt) hc_) ?_
   rintro e w6 ⟨rfl, hc6⟩
   refine ⟨_, rfl, ?_⟩;replace q1 := q1.bl hc6;replace q2 := q2.bl hc6;replace hbw := bo_ hbw hc6;clear hc6;refine EL.mv rfl rfl (EL.val (x_extract rfl rfl) rfl (EL.val (x_extract rfl rfl) rfl (EL.as rfl rfl (EL.as rfl rfl (EL.nil (EX.seq ?_))))))
   cases h3_ : (forbR ru t x c).1 <;> cases h4_ : (forbR ru t x c).2
   ·
    refine EC.region (EL.mv rfl rfl (EL.mv rfl rfl (EL.valg rfl rfl (x_move rfl) rfl (EL.valg rfl rfl (x_not rfl) rfl (EL.val (x_pick_t rfl rfl) rfl (EL.mv rfl rfl (EL.mv rfl rfl (EL.valg rfl rfl (x_move rfl) rfl (EL.valg rfl rfl (x_not rfl) rfl ?_)))))))));refine EL.val (x_pick_t rfl rfl) rfl (EL.as rfl rfl (EL.as rfl rfl (EL.nil (EX.blk (EX.seq (EC.region (EL.mv rfl rfl ?_)))))));refine EL.val (x_add rfl rfl (c := ((x + 1 : Nat) : Int)) ((IntWalk.i64_in _ ⟨by first | omega | (simp only; omega), by first | omega | (simp only; omega)⟩).trans (by first | omega | (simp only; omega)))) rfl ?_
    refine EL.as rfl rfl (EL.nil ?_);refine EX.roundD (x + 1) ⟨agree_b (by simp [mayR, *]) rfl, agree_b (by simp [mayR, *]) rfl, rfl, trivial⟩ (by repeat first | with_reducible exact Sub.refl _ | refine sub_past rfl ?_ | exact Sub.refl _ | refine sub_del rfl ?_ | refine sub_insL_nil ?_) ⟨hlt, q1, q2, hbw⟩ (by omega)
   ·
    refine EC.region (EL.mv rfl rfl (EL.mv rfl rfl (EL.valg rfl rfl (x_move rfl) rfl (EL.valg rfl rfl (x_not rfl) rfl (EL.val (x_pick_t rfl rfl) rfl (EL.mv rfl rfl (EL.mv rfl rfl (EL.valg rfl rfl (x_move rfl) rfl (EL.valg rfl rfl (x_not rfl) rfl ?_)))))))));refine EL.val (x_pick_t rfl rfl) rfl (EL.as rfl rfl (EL.as rfl rfl (EL.nil (EX.blk (EX.seq (EC.region (EL.mv rfl rfl ?_)))))));refine EL.val (x_add rfl rfl (c := ((x + 1 : Nat) : Int)) ((IntWalk.i64_in _ ⟨by first | omega | (simp only; omega), by first | omega | (simp only; omega)⟩).trans (by first | omega | (simp only; omega)))) rfl ?_
    refine EL.as rfl rfl (EL.nil ?_);refine EX.roundD (x + 1) ⟨agree_b (by simp [mayR, *]) rfl, agree_b (by simp [mayR, *]) rfl, rfl, trivial⟩ (by repeat first | with_reducible exact Sub.refl _ | refine sub_past rfl ?_ | exact Sub.refl _ | refine sub_del rfl ?_ | refine sub_insL_nil ?_) ⟨hlt, q1, q2, hbw⟩ (by omega)
   ·
    refine EC.region (EL.mv rfl rfl (EL.mv rfl rfl (EL.valg rfl rfl (x_move rfl) rfl (EL.valg rfl rfl (x_not rfl) rfl (EL.val (x_pick_t rfl rfl) rfl (EL.mv rfl rfl (EL.mv rfl rfl (EL.valg rfl rfl (x_move rfl) rfl (EL.valg rfl rfl (x_not rfl) rfl ?_)))))))));refine EL.val (x_pick_t rfl rfl) rfl (EL.as rfl rfl (EL.as rfl rfl (EL.nil (EX.blk (EX.seq (EC.region (EL.mv rfl rfl ?_)))))));refine EL.val (x_add rfl rfl (c := ((x + 1 : Nat) : Int)) ((IntWalk.i64_in _ ⟨by first | omega | (simp only; omega), by first | omega | (simp only; omega)⟩).trans (by first | omega | (simp only; omega)))) rfl ?_
    refine EL.as rfl rfl (EL.nil ?_);refine EX.roundD (x + 1) ⟨agree_b (by simp [mayR, *]) rfl, agree_b (by simp [mayR, *]) rfl, rfl, trivial⟩ (by repeat first | with_reducible exact Sub.refl _ | refine sub_past rfl ?_ | exact Sub.refl _ | refine sub_del rfl ?_ | refine sub_insL_nil ?_) ⟨hlt, q1, q2, hbw⟩ (by omega)
   ·
    refine EC.region (EL.mv rfl rfl (EL.mv rfl rfl (EL.valg rfl rfl (x_move rfl) rfl (EL.valg rfl rfl (x_not rfl) rfl (EL.val (x_pick_t rfl rfl) rfl (EL.mv rfl rfl (EL.mv rfl rfl (EL.valg rfl rfl (x_move rfl) rfl (EL.valg rfl rfl (x_not rfl) rfl ?_)))))))));refine EL.val (x_pick_t rfl rfl) rfl (EL.as rfl rfl (EL.as rfl rfl (EL.nil (EX.blk (EX.seq (EC.region (EL.mv rfl rfl ?_)))))));refine EL.val (x_add rfl rfl (c := ((x + 1 : Nat) : Int)) ((IntWalk.i64_in _ ⟨by first | omega | (simp only; omega), by first | omega | (simp only; omega)⟩).trans (by first | omega | (simp only; omega)))) rfl ?_
    refine EL.as rfl rfl (EL.nil ?_);refine EX.roundD (x + 1) ⟨agree_b (by simp [mayR, *]) rfl, agree_b (by simp [mayR, *]) rfl, rfl, trivial⟩ (by repeat first | with_reducible exact Sub.refl _ | refine sub_past rfl ?_ | exact Sub.refl _ | refine sub_del rfl ?_ | refine sub_insL_nil ?_) ⟨hlt, q1, q2, hbw⟩ (by omega)
 ·
  have hxe : x = ru.levels.length := by omega
  subst hxe;refine EC.seq (EC.seq (EC.region (EL.mv rfl rfl (EL.val (fa_62_1 rfl) rfl (EL.val (ld_22 rfl (q2.at (j := 1) rfl)) rfl (EL.val (ln_22 rfl) rfl ?_))))));refine EL.val (x_lss rfl rfl (decide_eq_false (show ¬(((ru.levels.length : Nat) : Int) < ((ru.levels.length : Nat) : Int)) by omega))) rfl ?_
  refine EL.nil (EX.seq (EC.no rfl (EC.exit (EX.seq_exit (EX.seq_exit (EX.blk_here (EX.seq (EC.seq (EC.region ?_)))))))));refine EL.mv rfl rfl (EL.mv rfl rfl (EL.as rfl rfl (EL.as rfl rfl (EL.nil (EX.seq (EC.ret ?_))))))
  exact EX.done (res2 rfl rfl rfl) ⟨rfl, hbw⟩
section
variable {n : Nat} {σ : Sg} {w : World} {dst : Option Tmp} {ty : TypeId} {pos : String} {af : Array Edge} {g : Option (Nat × Bool)} {x y z : Operand} {at' : Array TypeId}
theorem bs_22_0 (a : Act) (_ : Env n σ a) : (execOp a.eval ⟨dst, .buildSlice 22 0 #[], ty, pos, af, g⟩).run Try.prog w = .ok (.value (.slice (some ⟨w.heap.size, 0, none⟩) 0 0)) (w.alloc (.cells #[] 3)) := by
 simp only [execOp]
 go_simp
theorem bs_29_0 (a : Act) (_ : Env n σ a) : (execOp a.eval ⟨dst, .buildSlice 29 0 #[], ty, pos, af, g⟩).run Try.prog w = .ok (.value (.slice (some ⟨w.heap.size, 0, none⟩) 0 0)) (w.alloc (.cells #[] 50)) := by
 simp only [execOp]
 go_simp
theorem bs_25_0 (a : Act) (_ : Env n σ a) : (execOp a.eval ⟨dst, .buildSlice 25 0 #[], ty, pos, af, g⟩).run Try.prog w = .ok (.value (.slice (some ⟨w.heap.size, 0, none⟩) 0 0)) (w.alloc (.cells #[] 22)) := by
 simp only [execOp]
 go_simp
theorem cl_23 {x0 : Operand} {v0 : Value} (h0 : evS σ x0 = some v0) (a : Act) (ha : Env n σ a) : (execOp a.eval ⟨dst, .call { callee := .value (.func 23), args := #[x0], argTypes := at' }, ty, pos, af, g⟩).run Try.prog w = .ok (.enter 23 #[v0]) w := by
 simp only [execOp, resolve, List.map_toArray, List.map_cons, List.map_nil, ha.eval h0]
 simp [go_sem, Act.eval]
theorem bd_50_0_1 {x0 x1 : Operand} {z0 : Int} {z1 : Int} (h0 : evS σ x0 = some (.int .i64 z0)) (h1 : evS σ x1 = some (.int .i64 z1)) : Gives Try.prog n σ w ⟨dst, .build 50 #[(0, x0), (1, x1)], ty, pos, af, g⟩ (.agg #[.int .i64 z0, .int .i64 z1]) := fun a ha => by
 simp only [execOp, List.map_toArray, List.map_cons, List.map_nil, ha.eval h0, ha.eval h1]
 go_simp
theorem lv_50 {b o : Nat} {v0 v1 : Value} (c0 : w.cell? ⟨b, o, none⟩ = some v0) (c1 : w.cell? ⟨b, o + 1, none⟩ = some v1) : (loadVar 50 ⟨b, o, none⟩).run Try.prog w = .ok (.agg #[v0, v1]) w := by
 simp [go_sem, loadVar, c0, c1]
theorem cl_35 {x0 : Operand} {v0 : Value} (h0 : evS σ x0 = some v0) (a : Act) (ha : Env n σ a) : (execOp a.eval ⟨dst, .call { callee := .value (.func 35), args := #[x0], argTypes := at' }, ty, pos, af, g⟩).run Try.prog w = .ok (.enter 35 #[v0]) w := by
 simp only [execOp, resolve, List.map_toArray, List.map_cons, List.map_nil, ha.eval h0]
 simp [go_sem, Act.eval]
theorem cl_53 {x0 x1 : Operand} {v0 v1 : Value} (h0 : evS σ x0 = some v0) (h1 : evS σ x1 = some v1) (a : Act) (ha : Env n σ a) : (execOp a.eval ⟨dst, .call { callee := .value (.func 53), args := #[x0, x1], argTypes := at' }, ty, pos, af, g⟩).run Try.prog w = .ok (.enter 53 #[v0, v1]) w := by
 simp only [execOp, resolve, List.map_toArray, List.map_cons, List.map_nil, ha.eval h0, ha.eval h1]
 simp [go_sem, Act.eval]
end
theorem ev_info : (Try.prog.info? 50).map (fun i => (i.zero, i.size, i.bytes)) = some (some (.agg #[.int .i64 0, .int .i64 0]), 2, 16) := by kernel_rfl
theorem ev_elem : Elem Try.prog 29 50 2 16 := Elem.mk' Try.underlying29 ev_info rfl (by omega)
theorem numbers_any {l : List Int} {v : Value} {w : World} {B : Nat} (hl : Rd w B 1 v l.length (ints l)) (hB : B ≤ w.heap.size) (hn : l.length ≤ 1048576) :
  Calls Try.prog 23 #[v] w fun e w' => (∃ v', e = .returned v' ∧ w'.ownsRow w.heap.size 3 1 v' l.length (ints l)) ∧ Below w.heap.size w w' := by
 obtain ⟨Ai, ci_, rfl, _⟩ := hl.shape;have hbw := Below.refl w.heap.size w;refine EC.enter 6 Try.func23 rfl rfl rfl (EC.seq (EC.region (EL.as rfl rfl (EL.nil (EX.seq (EC.seq (EC.region (EL.newS (bs_22_0) rfl ?_))))))));intro g1 w1 q1 hb1 hg1 hl1;have bhbw_1 := Nat.le_trans hbw.size hg1;have hbg1 : w.heap.size ≤ g1 := Nat.le_trans hbw.size hg1;replace hbw := bo_ hbw hb1;clear hb1 hg1 hl1;have hemp : w1.ownsRow w.heap.size 3 1 (.slice (some ⟨g1, 0, none⟩) 0 0) 0 [] := own_empty 1 q1 hbg1;refine EL.mv rfl rfl ?_;refine EL.push ir_elem rfl rfl hemp (hl.below (hbw.mono hB)) (ints_one l) (by omega) rfl hbw.size rfl ?_
 intro v2 w9 ho2 hg hb2 _;replace hbw := hbw.trans hb2;rw [Nat.zero_add, List.nil_append] at ho2;refine EL.as rfl rfl (EL.nil (EX.seq (EC.ret ?_)))
 exact EX.done (res1 rfl rfl) ⟨⟨_, rfl, ho2⟩, hbw⟩
theorem events_any {l : List Ev} {v : Value} {w : World} {B : Nat} (hl : Rd w B 2 v l.length (evsC l)) (hB : B ≤ w.heap.size) (hn : l.length ≤ 1048576) :
  Calls Try.prog 15 #[v] w fun e w' => (∃ v', e = .returned v' ∧ w'.ownsRow w.heap.size 50 2 v' l.length (evsC l)) ∧ Below w.heap.size w w' := by
 obtain ⟨Ai, ci_, rfl, _⟩ := hl.shape;have hbw := Below.refl w.heap.size w;refine EC.enter 6 Try.func15 rfl rfl rfl (EC.seq (EC.region (EL.as rfl rfl (EL.nil (EX.seq (EC.seq (EC.region (EL.newS (bs_29_0) rfl ?_))))))));intro g1 w1 q1 hb1 hg1 hl1;have bhbw_1 := Nat.le_trans hbw.size hg1;have hbg1 : w.heap.size ≤ g1 := Nat.le_trans hbw.size hg1;replace hbw := bo_ hbw hb1;clear hb1 hg1 hl1;have hemp : w1.ownsRow w.heap.size 50 2 (.slice (some ⟨g1, 0, none⟩) 0 0) 0 [] := own_empty 2 q1 hbg1;refine EL.mv rfl rfl ?_;refine EL.push ev_elem rfl rfl hemp (hl.below (hbw.mono hB)) (evsC_one l) (by omega) rfl hbw.size rfl ?_
 intro v2 w9 ho2 hg hb2 _;replace hbw := hbw.trans hb2;rw [Nat.zero_add, List.nil_append] at ho2;refine EL.as rfl rfl (EL.nil (EX.seq (EC.ret ?_)))
 exact EX.done (res1 rfl rfl) ⟨⟨_, rfl, ho2⟩, hbw⟩
theorem rows_any {tt : List (List Int)} {vt : Value} {ut : List Value} {w : World} {B : Nat} (ht : RdLL iC 1 w B vt tt ut) (hB : B ≤ w.heap.size) (htn : tt.length ≤ 1000) (htr : ∀ i, i < tt.length → (tt.getD i []).length ≤ 1048576) :
  Calls Try.prog 51 #[vt] w fun e w' => (∃ v' us, e = .returned v' ∧ OwnLL w' w.heap.size w'.heap.size v' tt us) ∧ Below w.heap.size w w' := by
 obtain ⟨At, ct, rfl, _⟩ := ht.rd.shape;have hbw := Below.refl w.heap.size w;refine EC.enter 21 Try.func51 rfl rfl rfl (EC.seq (EC.region (EL.as rfl rfl (EL.nil (EX.seq (EC.seq (EC.region (EL.newS (bs_25_0) rfl ?_))))))));intro g1 w1 q1 hb1 hg1 hl1;have bhbw_1 := Nat.le_trans hbw.size hg1;have hbg1 : w.heap.size ≤ g1 := Nat.le_trans hbw.size hg1;replace hbw := bo_ hbw hb1;clear hb1 hg1 hl1;have hL : OwnLL w1 w.heap.size w1.heap.size (.slice (some ⟨g1, 0, none⟩) 0 0) [] [] := OwnLL.empty q1 hbg1 q1.lt;refine EL.as rfl rfl (EL.nil (EX.seq (EC.seq (EC.seq (EC.region (EL.as rfl rfl (EL.nil (EX.seq (EC.block ?_)))))))));refine EC.loopD [3, 4, 6, 7, 8, 9, 10, 11, 12, 13, 14, 15, 16, 17, 18, 19] (fun x : Nat × Value × List Value => [(4, .int .i64 (x.1 : Nat)), (3, x.2.1)]) (fun x W => x.1 ≤ tt.length ∧ OwnLL W w.heap.size W.heap.size x.2.1 (tt.take x.1) x.2.2 ∧ Below w.heap.size w W) (fun x => tt.length - x.1) (0, .slice (some ⟨g1, 0, none⟩) 0 0, []) ⟨Nat.zero_le _, hL, hbw⟩ ⟨rfl, rfl, trivial⟩ ?_
 clear hbw hL
 rintro ⟨i, v3, us⟩ wx ⟨hi, hL, hbw⟩
 dsimp only at hi hL
 by_cases hlt : i < tt.length
 ·
  obtain ⟨bt, ot, eAt, _, htc⟩ := vals_cells ut i (by rw [ht.len]; exact hlt) wx B _ _ _ (ht.rd.below (hbw.mono hB))
  have hrr := ht.row i hlt;rw [← ints_flat] at hrr;refine EC.seq (EC.seq (EC.region (EL.mv rfl rfl (EL.mv rfl rfl (EL.val (ln_25 rfl) rfl ?_)))));refine EL.val (x_lss rfl rfl (decide_eq_true (show (((i : Nat) : Int) < ((tt.length : Nat) : Int)) by omega))) rfl ?_
  refine EL.nil (EX.seq (EC.yes rfl (EC.skip (EX.seq (EC.seq (EC.block (EC.region (EL.mv rfl rfl (EL.mv rfl rfl ?_)))))))));refine EL.mv rfl rfl ?_;refine EL.val (ix_25 (by show some (Value.slice At _ _) = _; rw [eAt]) rfl hlt) rfl ?_
  refine EL.val (ld_22 rfl htc) rfl (EL.call (cl_23 rfl) rfl (numbers_any (hrr.below (hbw.mono hB)) (Nat.le_trans hB hbw.size) (htr i hlt)) ?_)
  rintro e w2 ⟨⟨v2, rfl, ho⟩, hc2⟩
  refine ⟨_, rfl, ?_⟩;replace ho := own_less ho hbw.size;replace hL := (hL.below hc2).more hc2.size;replace hbw := bo_ hbw hc2;clear hc2;obtain ⟨Av, cv, rfl, _⟩ := (Rd.of_own ho).shape;refine EL.newS (bs_25_1 rfl) rfl ?_;intro g3 w3 q3 hb3 hg3 hl3;have bhbw_3 := Nat.le_trans hbw.size hg3;have hbg3 : w.heap.size ≤ g3 := Nat.le_trans hbw.size hg3;replace hL := (hL.below hb3).more hb3.size;replace ho := own_below ho hb3 (Nat.le_refl _);replace hbw := bo_ hbw hb3;clear hb3 hg3 hl3;refine EL.push rr_elem rfl rfl hL.own (rd_one (l := [.slice Av (tt.getD i []).length cv]) q3 rfl) (by intro u hu; simp only [List.mem_cons, List.not_mem_nil, or_false] at hu; subst hu; rfl) (by rw [List.length_take]; omega) rfl hbw.size rfl ?_
  intro v9 w9 ho9 hgr hb_ hat;have hL9 := hL.push ho9 hgr ho;replace hbw := hbw.trans hb_;clear hL hgr hb_ hat ho ho9;refine EL.as rfl rfl (EL.nil (EX.blk (EX.seq (EC.region (EL.mv rfl rfl ?_)))));refine EL.val (x_add rfl rfl (c := ((i + 1 : Nat) : Int)) ((IntWalk.i64_in _ ⟨by first | omega | (simp only; omega), by first | omega | (simp only; omega)⟩).trans (by first | omega | (simp only; omega)))) rfl ?_
  refine EL.as rfl rfl (EL.nil ?_);refine EX.roundD (i + 1, v9, us ++ [.slice Av (tt.getD i []).length cv]) ⟨rfl, rfl, trivial⟩ (by repeat first | with_reducible exact Sub.refl _ | refine sub_past rfl ?_ | exact Sub.refl _ | refine sub_del rfl ?_ | refine sub_insL_nil ?_) ⟨hlt, by simp only; rw [List.take_succ_eq_append_getElem hlt, ← getD_in (d := []) hlt]; exact hL9, hbw⟩ (by simp only; omega)
 ·
  have hxe : i = tt.length := by omega
  rw [hxe, List.take_length] at hL;refine EC.seq (EC.seq (EC.region (EL.mv rfl rfl (EL.mv rfl rfl (EL.val (ln_25 rfl) rfl ?_)))));refine EL.val (x_lss rfl rfl (decide_eq_false (show ¬(((i : Nat) : Int) < ((tt.length : Nat) : Int)) by omega))) rfl ?_
  refine EL.nil (EX.seq (EC.no rfl (EC.exit (EX.seq_exit (EX.seq_exit (EX.blk_here (EX.seq (EC.seq (EC.region ?_)))))))));refine EL.mv rfl rfl (EL.as rfl rfl (EL.nil (EX.seq (EC.ret ?_))))
  exact EX.done (res1 rfl rfl) ⟨⟨_, us, rfl, hL⟩, hbw⟩
theorem eq_idx {l m : List Int} (hn : l.length = m.length) (h : ∀ i, i < l.length → l.getD i 0 = m.getD i 0) : l = m := List.ext_getElem hn fun i h1 h2 => by
 have := h i h1
 rwa [getD_in h1, getD_in h2] at this
theorem equal_any {l m : List Int} {v u : Value} {w : World} {B : Nat} (ha : Rd w B 1 v l.length (ints l)) (hb : Rd w B 1 u m.length (ints m)) (hB : B ≤ w.heap.size) (hl : l.length ≤ 9223372036854775806) (hm : m.length ≤ 9223372036854775807) :
  Calls Try.prog 21 #[v, u] w fun e w' => e = .returned (.bool (decide (l = m))) ∧ Below w.heap.size w w' := by
 obtain ⟨Ai, ci_, rfl, _⟩ := ha.shape;obtain ⟨Aj, cj_, rfl, _⟩ := hb.shape;have hbw := Below.refl w.heap.size w;refine EC.enter 26 Try.func21 rfl rfl rfl (EC.seq (EC.region (EL.as rfl rfl (EL.nil (EX.seq (EC.seq (EC.seq (EC.region (EL.mv rfl rfl ?_)))))))));refine EL.val (ln_22 rfl) rfl (EL.mv rfl rfl (EL.val (ln_22 rfl) rfl ?_))
 by_cases hn : l.length = m.length
 ·
  refine EL.val (x_neq (r := false) rfl rfl (decide_eq_false (by omega))) rfl ?_
  refine EL.nil (EX.seq (EC.no rfl (EC.skip (EX.seq (EC.seq (EC.seq (EC.region (EL.as rfl rfl (EL.nil ?_)))))))));refine EX.seq (EC.block ?_);refine EC.loopD [4, 5, 11, 12, 13, 14, 15, 16, 17, 18, 19, 20, 21, 22, 23, 24, 25] (fun x : Nat => [(5, .int .i64 (x : Nat))]) (fun x W => x ≤ l.length ∧ (∀ i, i < x → l.getD i 0 = m.getD i 0) ∧ Below w.heap.size w W) (fun x => l.length - x) 0 ⟨Nat.zero_le _, fun i hi => absurd hi (by omega), hbw⟩ ⟨rfl, trivial⟩ ?_
  clear hbw
  rintro k wk ⟨hk, hall, hbw⟩
  by_cases hlt : k < l.length
  ·
   obtain ⟨b1, o1, e1_, _, c1⟩ := ints_cells l k hlt w _ _ _ _ ha;obtain ⟨b2, o2, e2_, _, c2⟩ := ints_cells m k (by omega) w _ _ _ _ hb
   refine EC.seq (EC.seq (EC.region (EL.mv rfl rfl (EL.mv rfl rfl (EL.val (ln_22 rfl) rfl ?_)))));refine EL.val (x_lss rfl rfl (decide_eq_true (show (((k : Nat) : Int) < ((l.length : Nat) : Int)) by omega))) rfl ?_
   refine EL.nil (EX.seq (EC.yes rfl (EC.skip (EX.seq (EC.seq (EC.block (EC.seq ?_)))))))
   by_cases he : l.getD k 0 = m.getD k 0
   ·
    refine EC.regionQ (by kernel_rfl) (by kernel_rfl) ?_
    refine EQ.val (fun _ hw => (x_move rfl)) rfl ?_
    refine EQ.val (fun _ hw => (x_move rfl)) rfl ?_
    refine EQ.val (fun _ hw => (ix_22 (by show some (Value.slice Ai _ _) = _; rw [e1_]) rfl hlt)) rfl ?_
    refine EQ.val (fun _ hw => (ld_3 rfl (below_load hw (below_load hbw c1)))) rfl ?_
    refine EQ.val (fun _ hw => (x_move rfl)) rfl ?_
    refine EQ.val (fun _ hw => (x_move rfl)) rfl ?_
    refine EQ.val (fun _ hw => (ix_22 (by show some (Value.slice Aj _ _) = _; rw [e2_]) rfl (show k < m.length by omega))) rfl ?_
    refine EQ.val (fun _ hw => (ld_3 rfl (below_load hw (below_load hbw c2)))) rfl ?_
    refine EQ.val (fun _ hw => (x_neq (r := false) rfl rfl (decide_eq_false (fun h => h he)))) rfl ?_
    refine EQ.fin (fun w1 hw_ => ?_)
    replace hbw := bo_ hbw hw_;clear hw_;refine EX.seq (EC.no rfl (EC.skip (EX.blk (EX.seq (EC.region (EL.mv rfl rfl ?_))))));refine EL.val (x_add rfl rfl (c := ((k + 1 : Nat) : Int)) ((IntWalk.i64_in _ ⟨by omega, by omega⟩).trans (by omega))) rfl ?_
    refine EL.as rfl rfl (EL.nil ?_);refine EX.roundD (k + 1) ⟨rfl, trivial⟩ (by repeat first | with_reducible exact Sub.refl _ | refine sub_past rfl ?_ | exact Sub.refl _ | refine sub_del rfl ?_ | refine sub_insL_nil ?_) ⟨hlt, (fun j hj => by rcases Nat.lt_or_ge j k with h0 | h0; exact hall j h0; rw [show j = k by omega]; exact he), hbw⟩ (by omega)
   ·
    refine EC.regionQ (by kernel_rfl) (by kernel_rfl) ?_
    refine EQ.val (fun _ hw => (x_move rfl)) rfl ?_
    refine EQ.val (fun _ hw => (x_move rfl)) rfl ?_
    refine EQ.val (fun _ hw => (ix_22 (by show some (Value.slice Ai _ _) = _; rw [e1_]) rfl hlt)) rfl ?_
    refine EQ.val (fun _ hw => (ld_3 rfl (below_load hw (below_load hbw c1)))) rfl ?_
    refine EQ.val (fun _ hw => (x_move rfl)) rfl ?_
    refine EQ.val (fun _ hw => (x_move rfl)) rfl ?_
    refine EQ.val (fun _ hw => (ix_22 (by show some (Value.slice Aj _ _) = _; rw [e2_]) rfl (show k < m.length by omega))) rfl ?_
    refine EQ.val (fun _ hw => (ld_3 rfl (below_load hw (below_load hbw c2)))) rfl ?_
    refine EQ.val (fun _ hw => (x_neq (r := true) rfl rfl (decide_eq_true he))) rfl ?_
    refine EQ.fin (fun w2 hw_ => ?_)
    replace hbw := bo_ hbw hw_;clear hw_;refine EX.seq (EC.yes rfl (EC.seq (EC.region (EL.as rfl rfl (EL.nil (EX.seq (EC.ret (EX.blk_ret (EX.seq_ret ?_)))))))));refine EX.seq_ret (EX.blk_ret (EX.seq_ret ?_))
    exact EX.done (res1 rfl rfl) ⟨by rw [decide_eq_false (fun h => he (by rw [h]))], hbw⟩
  ·
   have hxe : k = l.length := by omega
   refine EC.seq (EC.seq (EC.region (EL.mv rfl rfl (EL.mv rfl rfl (EL.val (ln_22 rfl) rfl ?_)))));refine EL.val (x_lss rfl rfl (decide_eq_false (show ¬(((k : Nat) : Int) < ((l.length : Nat) : Int)) by omega))) rfl ?_
   refine EL.nil (EX.seq (EC.no rfl (EC.exit (EX.seq_exit (EX.seq_exit (EX.blk_here (EX.seq (EC.seq (EC.region ?_)))))))));refine EL.as rfl rfl (EL.nil (EX.seq (EC.ret ?_)))
   exact EX.done (res1 rfl rfl) ⟨by rw [decide_eq_true (eq_idx hn (hxe ▸ hall))], hbw⟩
 ·
  refine EL.val (x_neq (r := true) rfl rfl (decide_eq_true (by omega))) rfl ?_
  refine EL.nil (EX.seq (EC.yes rfl (EC.seq (EC.region (EL.as rfl rfl (EL.nil (EX.seq (EC.ret (EX.seq_ret ?_)))))))))
  exact EX.done (res1 rfl rfl) ⟨by rw [decide_eq_false (fun h => hn (by rw [h]))], hbw⟩
theorem lload_any (n : Int) (w : World) : Calls Try.prog 46 #[.int .i64 n] w fun e w' => e = .returned (.agg #[.int .i64 1, .int .i64 n]) ∧ Below w.heap.size w w' := by
 have hbw := Below.refl w.heap.size w;refine EC.enter 5 Try.func46 rfl rfl rfl (EC.seq (EC.region (EL.newP al_50 rfl ?_)));intro g1 w1 q1 hb1 hg1 hl1;have bhbw_1 := Nat.le_trans hbw.size hg1;replace hbw := bo_ hbw hb1;clear hb1 hg1 hl1;refine EL.nil (EX.seq (EC.seq (EC.region (EL.mv rfl rfl (EL.val (bd_50_0_1 rfl rfl) rfl (EL.store rfl rfl q1 sz_50 rfl rfl rfl rfl ?_))))));intro w2 hq2 hg2;replace hbw := below_store hbw hg2 bhbw_1;replace q1 := hq2;clear hg2 hq2;refine EL.nil (EX.seq (EC.ret ?_))
 exact EX.done (resc1 rfl rfl (lv_50 (q1.at (j := 0) rfl) (q1.at (j := 1) rfl))) ⟨rfl, hbw⟩
theorem lclean_any (n : Int) (w : World) : Calls Try.prog 45 #[.int .i64 n] w fun e w' => e = .returned (.agg #[.int .i64 2, .int .i64 n]) ∧ Below w.heap.size w w' := by
 have hbw := Below.refl w.heap.size w;refine EC.enter 5 Try.func45 rfl rfl rfl (EC.seq (EC.region (EL.newP al_50 rfl ?_)));intro g1 w1 q1 hb1 hg1 hl1;have bhbw_1 := Nat.le_trans hbw.size hg1;replace hbw := bo_ hbw hb1;clear hb1 hg1 hl1;refine EL.nil (EX.seq (EC.seq (EC.region (EL.mv rfl rfl (EL.val (bd_50_0_1 rfl rfl) rfl (EL.store rfl rfl q1 sz_50 rfl rfl rfl rfl ?_))))));intro w2 hq2 hg2;replace hbw := below_store hbw hg2 bhbw_1;replace q1 := hq2;clear hg2 hq2;refine EL.nil (EX.seq (EC.ret ?_))
 exact EX.done (resc1 rfl rfl (lv_50 (q1.at (j := 0) rfl) (q1.at (j := 1) rfl))) ⟨rfl, hbw⟩
theorem refused_any {ru : Rules} {ua up : List Value} {vl va vp vk : Value} {w : World} {B : Nat} (hr : RdRules w B vl va vp vk ru ua up) (hB : B ≤ w.heap.size) (hs : Short ru) {l : List Ev} {v : Value} (hl : Rd w B 2 v l.length (evsC l)) (hn : l.length ≤ 1048576) :
  Calls Try.prog 18 #[rulesV vl va vp vk ru, v] w fun e w' => e = .returned (.int .i64 (refE ru l)) ∧ Below w.heap.size w w' := by
 obtain ⟨Al, cl, rfl, _⟩ := hr.levels.shape;obtain ⟨Aa, ca, rfl, _⟩ := hr.allow.rd.shape;obtain ⟨Ap, cp, rfl, _⟩ := hr.apart.rd.shape;obtain ⟨Ak, ck, rfl, _⟩ := hr.kinds.shape;obtain ⟨Ae, ce, rfl, _⟩ := hl.shape;have hbw := Below.refl w.heap.size w
 unfold rulesV
 refine EC.enter 11 Try.func18 rfl rfl rfl (EC.seq (EC.region (EL.newP (bx_28 rfl) rfl ?_)));intro g1 w1 q1 hb1 hg1 hl1;have bhbw_1 := Nat.le_trans hbw.size hg1;replace hbw := bo_ hbw hb1;clear hb1 hg1 hl1;refine EL.as rfl rfl (EL.nil (EX.seq (EC.seq (EC.seq (EC.region (EL.val (ld_28 rfl (q1.at (j := 0) rfl) (q1.at (j := 1) rfl) (q1.at (j := 2) rfl) (q1.at (j := 3) rfl) (q1.at (j := 4) rfl) (q1.at (j := 5) rfl)) rfl ?_))))))
 cases hrb : rulesB ru
 ·
  refine EL.call (cl_35 rfl) rfl (Rules_to (hr.below (hbw.mono hB)) (Nat.le_trans hB hbw.size) hs hrb) ?_
  rintro e w2 ⟨rfl, hc2⟩
  refine ⟨_, rfl, ?_⟩;replace q1 := q1.bl hc2;replace hbw := bo_ hbw hc2;clear hc2;refine EL.val (x_not rfl) rfl (EL.nil (EX.seq (EC.yes rfl (EC.seq (EC.region (EL.as rfl rfl (EL.nil (EX.seq (EC.ret ?_)))))))));refine EX.seq_ret ?_
  exact EX.done (res1 rfl rfl) ⟨by rw [refE, hrb]; rfl, hbw⟩
 ·
  refine EL.call (cl_35 rfl) rfl (Rules_to (hr.below (hbw.mono hB)) (Nat.le_trans hB hbw.size) hs hrb) ?_
  rintro e w3 ⟨rfl, hc3⟩
  refine ⟨_, rfl, ?_⟩;replace q1 := q1.bl hc3;replace hbw := bo_ hbw hc3;clear hc3;refine EL.val (x_not rfl) rfl (EL.nil (EX.seq (EC.no rfl (EC.skip (EX.seq (EC.seq (EC.region (EL.val (ld_28 rfl (q1.at (j := 0) rfl) (q1.at (j := 1) rfl) (q1.at (j := 2) rfl) (q1.at (j := 3) rfl) (q1.at (j := 4) rfl) (q1.at (j := 5) rfl)) rfl (EL.mv rfl rfl ?_)))))))));refine EL.call (cl_53 rfl rfl) rfl (History_any (hr.below (hbw.mono hB)) (Nat.le_trans hB hbw.size) hs (hl.below (hbw.mono hB)) hn) ?_
  rintro e w4 ⟨rfl, hc4⟩
  refine ⟨_, rfl, ?_⟩;replace q1 := q1.bl hc4;replace hbw := bo_ hbw hc4;clear hc4;refine EL.as rfl rfl (EL.nil (EX.seq (EC.ret ?_)))
  exact EX.done (res1 rfl rfl) ⟨by rw [refE, hrb]; rw [if_pos rfl], hbw⟩
section
variable {n : Nat} {σ : Sg} {w : World} {dst : Option Tmp} {ty : TypeId} {pos : String} {af : Array Edge} {g : Option (Nat × Bool)} {x y z : Operand} {at' : Array TypeId}
theorem al_28 (a : Act) (_ : Env n σ a) : (execOp a.eval ⟨dst, .alloc 28, ty, pos, af, g⟩).run Try.prog w = .ok (.value (.pointer (some ⟨w.heap.size, 0, none⟩))) (w.alloc (.cells #[.slice none 0 0, .int .i64 0, .int .i64 0, .slice none 0 0, .slice none 0 0, .slice none 0 0] 28)) := by
 simp only [execOp]
 simp [go_sem]
theorem bs_26_0 (a : Act) (_ : Env n σ a) : (execOp a.eval ⟨dst, .buildSlice 26 0 #[], ty, pos, af, g⟩).run Try.prog w = .ok (.value (.slice (some ⟨w.heap.size, 0, none⟩) 0 0)) (w.alloc (.cells #[] 52)) := by
 simp only [execOp]
 go_simp
theorem sz_26 : (Try.prog.info? 26).map (·.size) = some 1 := by kernel_rfl
theorem cl_51 {x0 : Operand} {v0 : Value} (h0 : evS σ x0 = some v0) (a : Act) (ha : Env n σ a) : (execOp a.eval ⟨dst, .call { callee := .value (.func 51), args := #[x0], argTypes := at' }, ty, pos, af, g⟩).run Try.prog w = .ok (.enter 51 #[v0]) w := by
 simp only [execOp, resolve, List.map_toArray, List.map_cons, List.map_nil, ha.eval h0]
 simp [go_sem, Act.eval]
theorem sz_28 : (Try.prog.info? 28).map (·.size) = some 6 := by kernel_rfl
theorem lv_28 {b o : Nat} {v0 v1 v2 v3 v4 v5 : Value} (c0 : w.cell? ⟨b, o, none⟩ = some v0) (c1 : w.cell? ⟨b, o + 1, none⟩ = some v1) (c2 : w.cell? ⟨b, o + 2, none⟩ = some v2) (c3 : w.cell? ⟨b, o + 3, none⟩ = some v3) (c4 : w.cell? ⟨b, o + 4, none⟩ = some v4) (c5 : w.cell? ⟨b, o + 5, none⟩ = some v5) : (loadVar 28 ⟨b, o, none⟩).run Try.prog w = .ok (.agg #[v0, v1, v2, v3, v4, v5]) w := by
 simp [go_sem, loadVar, c0, c1, c2, c3, c4, c5]
end
end Go.Proofs.Ytdkedhcbdbpccaa
