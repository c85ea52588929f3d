/- X22, WsKnown, ExX23, X23, ExX24, X24, ExX25, WsLift, X28, WsRef, X29, ExX30, X30, ExX31, X31, ExX32: what WashPlansProof needs of them (merged by trimpack.py). -/
import Derived.Test.YtdkedhcbdbpccaaPlansT5
set_option linter.unusedVariables false
set_option linter.unusedSimpArgs false
namespace Go.Proofs.Ytdkedhcbdbpccaa
open Go Go.RowKit
/-- rules and a history that the statements look at -/
structure Wee (ru : Rules) (l : List Ev) : Prop where
 n : ru.levels.length ≤ 12
 a : ru.allow.length ≤ 12
 p : ru.apart.length ≤ 12
 k : ru.kinds.length ≤ 8
 l : l.length ≤ 120
 ra : ∀ j, j < ru.allow.length → (ru.allow.getD j []).length ≤ 12
 rp : ∀ j, j < ru.apart.length → (ru.apart.getD j []).length ≤ 12
theorem Wee.short {ru : Rules} {l : List Ev} (h : Wee ru l) : Short ru := ⟨by have := h.n; omega, by have := h.a; omega, by have := h.p; omega, by have := h.k; omega⟩
theorem great_any {ru : Rules} {ua up : List Value} {vl va vp vk : Value} {w : World} {B : Nat} (hr : RdRules w B vl va vp vk ru ua up) (hB : B ≤ w.heap.size) {l : List Ev} {v : Value} (hl : Rd w B 2 v l.length (evsC l)) :
  Calls Try.prog 11 #[rulesV vl va vp vk ru, v] w fun e w' => (∃ b, e = .returned (.bool b) ∧ (b = false → Wee ru l)) ∧ Below w.heap.size w w' := by
 obtain ⟨Al, cl, rfl, _⟩ := hr.levels.shape;obtain ⟨Aa, ca, rfl, _⟩ := hr.allow.rd.shape;obtain ⟨Ap, cp, rfl, _⟩ := hr.apart.rd.shape;obtain ⟨Ak, ck, rfl, _⟩ := hr.kinds.shape;obtain ⟨Ae, ce, rfl, _⟩ := hl.shape;have hbw := Below.refl w.heap.size w
 unfold rulesV
 refine EC.enter 62 Try.func11 rfl rfl rfl (EC.seq (EC.region (EL.newP (bx_28 rfl) rfl ?_)));intro g1 w1 q1 hb1 hg1 hl1;have bhbw_1 := Nat.le_trans hbw.size hg1;replace hbw := bo_ hbw hb1;clear hb1 hg1 hl1;refine EL.as rfl rfl (EL.nil (EX.seq (EC.seq (EC.seq (EC.region (EL.val (fa_28_0 rfl) rfl (EL.val (ld_22 rfl (q1.at (j := 0) rfl)) rfl (EL.val (ln_22 rfl) rfl ?_))))))))
 by_cases y1 : 12 < ru.levels.length
 ·
  refine EL.val (x_gtr (r := true) rfl rfl (decide_eq_true (by omega))) rfl ?_
  refine EL.mv rfl rfl (EL.skip rfl rfl rfl rfl (EL.skip rfl rfl rfl rfl (EL.skip rfl rfl rfl rfl (EL.skip rfl rfl rfl rfl (EL.val (x_pick_t rfl rfl) rfl (EL.mv rfl rfl (EL.skip rfl rfl rfl rfl (EL.skip rfl rfl rfl rfl (EL.skip rfl rfl rfl rfl ?_)))))))));refine EL.skip rfl rfl rfl rfl (EL.val (x_pick_t rfl rfl) rfl (EL.mv rfl rfl (EL.skip rfl rfl rfl rfl (EL.skip rfl rfl rfl rfl (EL.skip rfl rfl rfl rfl (EL.skip rfl rfl rfl rfl (EL.val (x_pick_t rfl rfl) rfl (EL.mv rfl rfl (EL.skip rfl rfl rfl rfl ?_)))))))));refine EL.skip rfl rfl rfl rfl (EL.skip rfl rfl rfl rfl (EL.val (x_pick_t rfl rfl) rfl (EL.nil (EX.seq (EC.yes rfl (EC.seq (EC.region (EL.as rfl rfl (EL.nil ?_)))))))));refine EX.seq (EC.ret (EX.seq_ret ?_))
  exact EX.done (res1 rfl rfl) ⟨⟨_, rfl, fun h => by cases h⟩, hbw⟩
 ·
  refine EL.val (x_gtr (r := false) rfl rfl (decide_eq_false (by omega))) rfl ?_
  refine EL.mv rfl rfl (EL.valg rfl rfl (fa_28_2 rfl) rfl (EL.valg rfl rfl (ld_25 rfl (q1.at (j := 3) rfl)) rfl (EL.valg rfl rfl (ln_25 rfl) rfl ?_)))
  by_cases y2 : 12 < ru.allow.length
  ·
   refine EL.valg rfl rfl (x_gtr (r := true) rfl rfl (decide_eq_true (by omega))) rfl ?_
   refine EL.val (x_pick_f rfl rfl) rfl (EL.mv rfl rfl (EL.skip rfl rfl rfl rfl (EL.skip rfl rfl rfl rfl (EL.skip rfl rfl rfl rfl (EL.skip rfl rfl rfl rfl (EL.val (x_pick_t rfl rfl) rfl (EL.mv rfl rfl (EL.skip rfl rfl rfl rfl (EL.skip rfl rfl rfl rfl ?_)))))))));refine EL.skip rfl rfl rfl rfl (EL.skip rfl rfl rfl rfl (EL.val (x_pick_t rfl rfl) rfl (EL.mv rfl rfl (EL.skip rfl rfl rfl rfl (EL.skip rfl rfl rfl rfl (EL.skip rfl rfl rfl rfl (EL.val (x_pick_t rfl rfl) rfl (EL.nil (EX.seq ?_)))))))));refine EC.yes rfl (EC.seq (EC.region (EL.as rfl rfl (EL.nil (EX.seq (EC.ret (EX.seq_ret ?_)))))))
   exact EX.done (res1 rfl rfl) ⟨⟨_, rfl, fun h => by cases h⟩, hbw⟩
  ·
   refine EL.valg rfl rfl (x_gtr (r := false) rfl rfl (decide_eq_false (by omega))) rfl ?_
   refine EL.val (x_pick_f rfl rfl) rfl (EL.mv rfl rfl (EL.valg rfl rfl (fa_28_3 rfl) rfl (EL.valg rfl rfl (ld_25 rfl (q1.at (j := 4) rfl)) rfl (EL.valg rfl rfl (ln_25 rfl) rfl ?_))))
   by_cases y3 : 12 < ru.apart.length
   ·
    refine EL.valg rfl rfl (x_gtr (r := true) rfl rfl (decide_eq_true (by omega))) rfl ?_
    refine EL.val (x_pick_f rfl rfl) rfl (EL.mv rfl rfl (EL.skip rfl rfl rfl rfl (EL.skip rfl rfl rfl rfl (EL.skip rfl rfl rfl rfl (EL.skip rfl rfl rfl rfl (EL.val (x_pick_t rfl rfl) rfl (EL.mv rfl rfl (EL.skip rfl rfl rfl rfl (EL.skip rfl rfl rfl rfl ?_)))))))));refine EL.skip rfl rfl rfl rfl (EL.val (x_pick_t rfl rfl) rfl (EL.nil (EX.seq (EC.yes rfl (EC.seq (EC.region (EL.as rfl rfl (EL.nil (EX.seq ?_)))))))));refine EC.ret (EX.seq_ret ?_)
    exact EX.done (res1 rfl rfl) ⟨⟨_, rfl, fun h => by cases h⟩, hbw⟩
   ·
    refine EL.valg rfl rfl (x_gtr (r := false) rfl rfl (decide_eq_false (by omega))) rfl ?_
    refine EL.val (x_pick_f rfl rfl) rfl (EL.mv rfl rfl (EL.valg rfl rfl (fa_28_4 rfl) rfl (EL.valg rfl rfl (ld_26 rfl (q1.at (j := 5) rfl)) rfl (EL.valg rfl rfl (ln_26 rfl) rfl ?_))))
    by_cases y4 : 8 < ru.kinds.length
    ·
     refine EL.valg rfl rfl (x_gtr (r := true) rfl rfl (decide_eq_true (by omega))) rfl ?_
     refine EL.val (x_pick_f rfl rfl) rfl (EL.mv rfl rfl (EL.skip rfl rfl rfl rfl (EL.skip rfl rfl rfl rfl (EL.skip rfl rfl rfl rfl (EL.val (x_pick_t rfl rfl) rfl (EL.nil (EX.seq (EC.yes rfl (EC.seq ?_)))))))));refine EC.region (EL.as rfl rfl (EL.nil (EX.seq (EC.ret (EX.seq_ret ?_)))))
     exact EX.done (res1 rfl rfl) ⟨⟨_, rfl, fun h => by cases h⟩, hbw⟩
    ·
     refine EL.valg rfl rfl (x_gtr (r := false) rfl rfl (decide_eq_false (by omega))) rfl ?_
     refine EL.val (x_pick_f rfl rfl) rfl (EL.mv rfl rfl (EL.valg rfl rfl (x_move rfl) rfl (EL.valg rfl rfl (ln_29 rfl) rfl ?_)))
     by_cases y5 : 120 < l.length
     ·
      refine EL.valg rfl rfl (x_gtr (r := true) rfl rfl (decide_eq_true (by omega))) rfl ?_
      refine EL.val (x_pick_f rfl rfl) rfl (EL.nil (EX.seq (EC.yes rfl (EC.seq (EC.region (EL.as rfl rfl (EL.nil (EX.seq (EC.ret ?_)))))))));refine EX.seq_ret ?_
      exact EX.done (res1 rfl rfl) ⟨⟨_, rfl, fun h => by cases h⟩, hbw⟩
     ·
      refine EL.valg rfl rfl (x_gtr (r := false) rfl rfl (decide_eq_false (by omega))) rfl ?_
      refine EL.val (x_pick_f rfl rfl) rfl (EL.nil (EX.seq (EC.no rfl (EC.skip (EX.seq (EC.seq (EC.seq (EC.region (EL.as rfl rfl ?_)))))))));refine EL.nil (EX.seq (EC.block ?_));refine EC.loopD [4, 5, 34, 35, 36, 37, 38, 39, 40, 41, 42, 43, 44, 45, 46, 47] (fun x : Nat => [(5, .int .i64 (x : Nat))]) (fun x W => x ≤ ru.allow.length ∧ (∀ j, j < x → (ru.allow.getD j []).length ≤ 12) ∧ Blk W g1 28 #[.slice Al ru.levels.length cl, .int .i64 ru.fade.lo, .int .i64 ru.fade.hi, .slice Aa ru.allow.length ca, .slice Ap ru.apart.length cp, .slice Ak ru.kinds.length ck] ∧ Below w.heap.size w W) (fun x => ru.allow.length - x) 0 ⟨Nat.zero_le _, fun j hj => absurd hj (by omega), q1, hbw⟩ ⟨rfl, trivial⟩ ?_
      clear q1 hbw
      rintro i5 wx ⟨hi_5, hall5, q1, hbw⟩
      by_cases hlt5 : i5 < ru.allow.length
      ·
       obtain ⟨bt, ot, eAt, _, htc⟩ := vals_cells ua i5 (by rw [hr.allow.len]; exact hlt5) wx B _ _ _ (hr.below (hbw.mono hB)).allow.rd
       obtain ⟨Ai, ci, ei, _⟩ := (hr.allow.row i5 hlt5).shape;rw [ei] at htc;refine EC.seq (EC.seq (EC.region (EL.mv rfl rfl (EL.val (fa_28_2 rfl) rfl (EL.val (ld_25 rfl (q1.at (j := 3) rfl)) rfl (EL.val (ln_25 rfl) rfl ?_))))));refine EL.val (x_lss rfl rfl (decide_eq_true (show (((i5 : Nat) : Int) < ((ru.allow.length : Nat) : Int)) by omega))) rfl ?_
       refine EL.nil (EX.seq (EC.yes rfl (EC.skip (EX.seq (EC.seq (EC.block (EC.seq (EC.region (EL.val (fa_28_2 rfl) rfl ?_)))))))));refine EL.val (ld_25 rfl (q1.at (j := 3) rfl)) rfl (EL.mv rfl rfl ?_);refine EL.val (ix_25 (by show some (Value.slice Aa _ _) = _; rw [eAt]) rfl hlt5) rfl ?_
       refine EL.val (ld_22 rfl htc) rfl (EL.val (ln_22 rfl) rfl ?_)
       by_cases hrow5 : 12 < (ru.allow.getD i5 []).length
       ·
        refine EL.val (x_gtr (r := true) rfl rfl (decide_eq_true (by omega))) rfl ?_
        refine EL.nil (EX.seq (EC.yes rfl (EC.seq (EC.region (EL.as rfl rfl (EL.nil (EX.seq (EC.ret (EX.blk_ret ?_)))))))));refine EX.seq_ret (EX.seq_ret (EX.blk_ret (EX.seq_ret ?_)))
        exact EX.done (res1 rfl rfl) ⟨⟨_, rfl, fun h => by cases h⟩, hbw⟩
       ·
        refine EL.val (x_gtr (r := false) rfl rfl (decide_eq_false (by omega))) rfl ?_
        refine EL.nil (EX.seq (EC.no rfl (EC.skip (EX.blk (EX.seq (EC.region (EL.mv rfl rfl ?_)))))));refine EL.val (x_add rfl rfl (c := ((i5 + 1 : Nat) : Int)) ((IntWalk.i64_in _ ⟨by first | omega | (simp only; omega), by first | omega | (simp only; omega)⟩).trans (by first | omega | (simp only; omega)))) rfl ?_
        refine EL.as rfl rfl (EL.nil ?_);refine EX.roundD (i5 + 1) ⟨rfl, trivial⟩ (by repeat first | with_reducible exact Sub.refl _ | refine sub_past rfl ?_ | exact Sub.refl _ | refine sub_del rfl ?_ | refine sub_insL_nil ?_) ⟨hlt5, (fun j hj => by rcases Nat.lt_or_ge j i5 with h0 | h0; exact hall5 j h0; rw [show j = i5 by omega]; omega), q1, hbw⟩ (by omega)
      ·
       have hxe5 : i5 = ru.allow.length := by omega
       refine EC.seq (EC.seq (EC.region (EL.mv rfl rfl (EL.val (fa_28_2 rfl) rfl (EL.val (ld_25 rfl (q1.at (j := 3) rfl)) rfl (EL.val (ln_25 rfl) rfl ?_))))));refine EL.val (x_lss rfl rfl (decide_eq_false (show ¬(((i5 : Nat) : Int) < ((ru.allow.length : Nat) : Int)) by omega))) rfl ?_
       refine EL.nil (EX.seq (EC.no rfl (EC.exit (EX.seq_exit (EX.seq_exit (EX.blk_here (EX.seq (EC.seq (EC.seq ?_)))))))));refine EC.region (EL.as rfl rfl (EL.nil (EX.seq (EC.block ?_))));refine EC.loopD [4, 6, 48, 49, 50, 51, 52, 53, 54, 55, 56, 57, 58, 59, 60, 61] (fun x : Nat => [(6, .int .i64 (x : Nat))]) (fun x W => x ≤ ru.apart.length ∧ (∀ j, j < x → (ru.apart.getD j []).length ≤ 12) ∧ Blk W g1 28 #[.slice Al ru.levels.length cl, .int .i64 ru.fade.lo, .int .i64 ru.fade.hi, .slice Aa ru.allow.length ca, .slice Ap ru.apart.length cp, .slice Ak ru.kinds.length ck] ∧ Below w.heap.size w W) (fun x => ru.apart.length - x) 0 ⟨Nat.zero_le _, fun j hj => absurd hj (by omega), q1, hbw⟩ ⟨rfl, trivial⟩ ?_
       clear q1 hbw
       rintro i6 wx ⟨hi_6, hall6, q1, hbw⟩
       by_cases hlt6 : i6 < ru.apart.length
       ·
        obtain ⟨bt, ot, eAt, _, htc⟩ := vals_cells up i6 (by rw [hr.apart.len]; exact hlt6) wx B _ _ _ (hr.below (hbw.mono hB)).apart.rd
        obtain ⟨Ai, ci, ei, _⟩ := (hr.apart.row i6 hlt6).shape;rw [ei] at htc;refine EC.seq (EC.seq (EC.region (EL.mv rfl rfl (EL.val (fa_28_3 rfl) rfl (EL.val (ld_25 rfl (q1.at (j := 4) rfl)) rfl (EL.val (ln_25 rfl) rfl ?_))))));refine EL.val (x_lss rfl rfl (decide_eq_true (show (((i6 : Nat) : Int) < ((ru.apart.length : Nat) : Int)) by omega))) rfl ?_
        refine EL.nil (EX.seq (EC.yes rfl (EC.skip (EX.seq (EC.seq (EC.block (EC.seq (EC.region (EL.val (fa_28_3 rfl) rfl ?_)))))))));refine EL.val (ld_25 rfl (q1.at (j := 4) rfl)) rfl (EL.mv rfl rfl ?_);refine EL.val (ix_25 (by show some (Value.slice Ap _ _) = _; rw [eAt]) rfl hlt6) rfl ?_
        refine EL.val (ld_22 rfl htc) rfl (EL.val (ln_22 rfl) rfl ?_)
        by_cases hrow6 : 12 < (ru.apart.getD i6 []).length
        ·
         refine EL.val (x_gtr (r := true) rfl rfl (decide_eq_true (by omega))) rfl ?_
         refine EL.nil (EX.seq (EC.yes rfl (EC.seq (EC.region (EL.as rfl rfl (EL.nil (EX.seq (EC.ret (EX.blk_ret ?_)))))))));refine EX.seq_ret (EX.seq_ret (EX.blk_ret (EX.seq_ret ?_)))
         exact EX.done (res1 rfl rfl) ⟨⟨_, rfl, fun h => by cases h⟩, hbw⟩
        ·
         refine EL.val (x_gtr (r := false) rfl rfl (decide_eq_false (by omega))) rfl ?_
         refine EL.nil (EX.seq (EC.no rfl (EC.skip (EX.blk (EX.seq (EC.region (EL.mv rfl rfl ?_)))))));refine EL.val (x_add rfl rfl (c := ((i6 + 1 : Nat) : Int)) ((IntWalk.i64_in _ ⟨by first | omega | (simp only; omega), by first | omega | (simp only; omega)⟩).trans (by first | omega | (simp only; omega)))) rfl ?_
         refine EL.as rfl rfl (EL.nil ?_);refine EX.roundD (i6 + 1) ⟨rfl, trivial⟩ (by repeat first | with_reducible exact Sub.refl _ | refine sub_past rfl ?_ | exact Sub.refl _ | refine sub_del rfl ?_ | refine sub_insL_nil ?_) ⟨hlt6, (fun j hj => by rcases Nat.lt_or_ge j i6 with h0 | h0; exact hall6 j h0; rw [show j = i6 by omega]; omega), q1, hbw⟩ (by omega)
       ·
        have hxe6 : i6 = ru.apart.length := by omega
        refine EC.seq (EC.seq (EC.region (EL.mv rfl rfl (EL.val (fa_28_3 rfl) rfl (EL.val (ld_25 rfl (q1.at (j := 4) rfl)) rfl (EL.val (ln_25 rfl) rfl ?_))))));refine EL.val (x_lss rfl rfl (decide_eq_false (show ¬(((i6 : Nat) : Int) < ((ru.apart.length : Nat) : Int)) by omega))) rfl ?_
        refine EL.nil (EX.seq (EC.no rfl (EC.exit (EX.seq_exit (EX.seq_exit (EX.blk_here (EX.seq (EC.seq (EC.region ?_)))))))));refine EL.as rfl rfl (EL.nil (EX.seq (EC.ret ?_)))
        exact EX.done (res1 rfl rfl) ⟨⟨_, rfl, fun _ => ⟨by omega, by omega, by omega, by omega, by omega, fun j hj => hall5 j (by omega), fun j hj => hall6 j (by omega)⟩⟩, hbw⟩
theorem kd_info : (Try.prog.info? 52).map (fun i => (i.zero, i.size, i.bytes)) = some (some (.agg #[.int .i64 0, .int .i64 0, .int .i64 0, .int .i64 0, .int .i64 0]), 5, 40) := by kernel_rfl
theorem kd_elem : Elem Try.prog 26 52 5 40 := Elem.mk' Try.underlying26 kd_info rfl (by omega)
theorem mono_ll {k C : Nat} {ls : List (List Int)} {f : Option Addr → Nat → Value} {N : Nat} : Mono fun r w => ∃ A c us, r k = f A c ∧ OwnLL w C w.heap.size (.slice A N c) ls us := fun _ _ _ hb ⟨A, c, us, h1, h2⟩ => ⟨A, c, us, h1, (h2.below hb).more hb.size⟩
set_option maxHeartbeats 1000000 in
theorem own_any {ru : Rules} {ua up : List Value} {vl va vp vk : Value} {w : World} {B : Nat} (hr : RdRules w B vl va vp vk ru ua up) (hB : B ≤ w.heap.size) {l : List Ev} (hw_ : Wee ru l) :
  Calls Try.prog 14 #[rulesV vl va vp vk ru] w fun e w' => (∃ vl' va' vp' vk' ua' up', e = .returned (rulesV vl' va' vp' vk' ru) ∧ RdRules w' w'.heap.size vl' va' vp' vk' ru ua' up') ∧ Below w.heap.size w w' := by
 obtain ⟨Al, cl, rfl, _⟩ := hr.levels.shape;obtain ⟨Aa, ca, rfl, _⟩ := hr.allow.rd.shape;obtain ⟨Ap, cp, rfl, _⟩ := hr.apart.rd.shape;obtain ⟨Ak, ck, rfl, _⟩ := hr.kinds.shape;have hbw := Below.refl w.heap.size w
 unfold rulesV
 refine EC.enter 21 Try.func14 rfl rfl rfl (EC.seq (EC.region (EL.newP (bx_28 rfl) rfl ?_)));intro g1 w1 q1 hb1 hg1 hl1;have bhbw_1 := Nat.le_trans hbw.size hg1;replace hbw := bo_ hbw hb1;clear hb1 hg1 hl1;refine EL.newP al_28 rfl ?_;intro g2 w2 q2 hb2 hg2 hl2;have n1_2 := q1.na hg2;have bhbw_2 := Nat.le_trans hbw.size hg2;replace q1 := q1.bl hb2;replace hbw := bo_ hbw hb2;clear hb2 hg2 hl2;refine EL.nil (EX.seq (EC.seq ?_));have lt_1 := q1.lt;have lt_2 := q2.lt;refine EC.regionP [[], [0], [0, 1], [], [], [4], [0, 1, 2, 3, 4, 5], [0, 1, 2, 4, 5], [0, 1, 2, 3, 4, 5, 6, 7], [0, 1, 2, 3, 4, 5, 6, 7, 8], [0, 1, 2, 3, 4, 5, 6, 7, 8, 9]] 8 [] (phi (fun i_ r => match i_ with | 0 => r 0 = .pointer (some ⟨g1, 0, none⟩) | 1 => r 1 = .slice Al ru.levels.length cl | 4 => r 4 = .pointer (some ⟨g1, 5, none⟩) | 5 => r 5 = .slice Ak ru.kinds.length ck | 7 => r 7 = .pointer (some ⟨g1, 0, none⟩) | _ => True) [(2, fun r w_ => ∃ A c, r 2 = .slice A ru.levels.length c ∧ w_.ownsRow w.heap.size 3 1 (.slice A ru.levels.length c) ru.levels.length (ints ru.levels)), (3, fun r w_ => ∃ g_, r 3 = .slice (some ⟨g_, 0, none⟩) 0 0 ∧ Blk w_ g_ 52 #[] ∧ w2.heap.size ≤ g_), (6, fun r w_ => ∃ A c, r 6 = .slice A ru.kinds.length c ∧ w_.ownsRow w.heap.size 52 5 (.slice A ru.kinds.length c) ru.kinds.length (kdsC ru.kinds))]) (by kernel_rfl) rfl rfl (phi_cons (mono_cp (f := fun A c => .slice A ru.levels.length c)) (phi_cons mono_bs (phi_cons (mono_cp (f := fun A c => .slice A ru.kinds.length c)) (phi_nil)))) (fun i_ hi_ => ?_) ?_
 ·match i_, hi_ with
  | 0, _ =>
   intro val w1 a hb ha hd;have ha := ha.s0 (d := 1) rfl
   exact hs_val ha rfl rfl (fa_28_0 rfl) rfl rfl
  | 1, _ =>
   intro val w1 a hb ha hd;have e0 : val 0 = .pointer (some ⟨g1, 0, none⟩) := hd 0 (memB_mem.1 rfl);have ha := ha.s1 (d := 3) rfl e0
   exact hs_val ha rfl rfl (ld_22 rfl ((q1.below hb q1.lt).at (j := 0) rfl)) rfl rfl
  | 2, _ =>
   intro val w1 a hb ha hd;have e1 : val 1 = .slice Al ru.levels.length cl := hd 1 (memB_mem.1 rfl);have ha := ha.s1 (d := 4) rfl e1;refine hs_call ha rfl rfl (cl_23 rfl) (numbers_any (hr.levels.below ((hbw.trans (hb.mono hbw.size)).mono hB)) (Nat.le_trans hB (Nat.le_trans hbw.size hb.size)) (by have := hw_.n; omega)) rfl ?_
   rintro e w' ⟨⟨v', rfl, ho⟩, hb'⟩
   obtain ⟨A, c9, rfl, _⟩ := (Rd.of_own ho).shape
   exact ⟨_, rfl, hb', ⟨A, c9, rfl, own_less ho (Nat.le_trans hbw.size hb.size)⟩⟩
  | 3, _ =>
   intro val w1 a hb ha hd;have ha := ha.sub (Sub.nil _)
   exact hs_newS ha rfl rfl (bs_26_0) rfl (fun g w' hq _ hge => ⟨g, rfl, hq, Nat.le_trans hb.size hge⟩)
  | 4, _ =>
   intro val w1 a hb ha hd;have ha := ha.s0 (d := 1) rfl
   exact hs_val ha rfl rfl (fa_28_4 rfl) rfl rfl
  | 5, _ =>
   intro val w1 a hb ha hd;have e4 : val 4 = .pointer (some ⟨g1, 5, none⟩) := hd 4 (memB_mem.1 rfl);have ha := ha.s1 (d := 7) rfl e4
   exact hs_val ha rfl rfl (ld_26 rfl ((q1.below hb q1.lt).at (j := 5) rfl)) rfl rfl
  | 6, _ =>
   intro val w1 a hb ha hd;obtain ⟨g3_, e3, q3_, h3_⟩ := hd 3 (memB_mem.1 rfl);change val 3 = _ at e3;have e5 : val 5 = .slice Ak ru.kinds.length ck := hd 5 (memB_mem.1 rfl);have ha := ha.s2 (d := 8) (e := 6) rfl e5 rfl e3;refine hs_copy kd_elem ha rfl rfl rfl q3_ (Nat.le_trans hbw.size h3_) (hr.kinds.below ((hbw.trans (hb.mono hbw.size)).mono hB)) (kdsC_one _) (by have := hw_.k; omega) rfl (Nat.le_trans hbw.size hb.size) rfl (fun v' w' ho => ?_)
   obtain ⟨A, c9, rfl, _⟩ := (Rd.of_own ho).shape
   exact ⟨A, c9, rfl, ho⟩
  | 7, _ =>
   intro val w1 a hb ha hd;have ha := ha.s0 (d := 1) rfl
   exact hs_val ha rfl rfl (fa_28_0 rfl) rfl rfl
  | k + 8, h => exact absurd h (by omega)
 ·intro val wR1 hb halc hd
  have e0 : val 0 = .pointer (some ⟨g1, 0, none⟩) := hd 0 (by omega)
  have e1 : val 1 = .slice Al ru.levels.length cl := hd 1 (by omega)
  obtain ⟨A1, c1, e2, hn1⟩ := hd 2 (by omega)
  obtain ⟨ga3_1, e3, qa3_1, hga3_1⟩ := hd 3 (by omega)
  change val 3 = _ at e3;change Blk wR1 ga3_1 52 #[] at qa3_1;have e4 : val 4 = .pointer (some ⟨g1, 5, none⟩) := hd 4 (by omega)
  have e5 : val 5 = .slice Ak ru.kinds.length ck := hd 5 (by omega)
  obtain ⟨A4, c4, e6, hn4⟩ := hd 6 (by omega)
  have e7 : val 7 = .pointer (some ⟨g1, 0, none⟩) := hd 7 (by omega)
  refine EL.ends (cs := [.pointer (some ⟨g1, 0, none⟩), .slice Al ru.levels.length cl, .slice A1 ru.levels.length c1, .slice (some ⟨ga3_1, 0, none⟩) 0 0, .pointer (some ⟨g1, 5, none⟩), .slice Ak ru.kinds.length ck, .slice A4 ru.kinds.length c4, .pointer (some ⟨g1, 0, none⟩)]) ⟨e0, e1, e2, e3, e4, e5, e6, e7, trivial⟩ rfl ?_;replace q1 := q1.bl hb;replace q2 := q2.bl hb;have n1_3 : g1 ≠ ga3_1 := Nat.ne_of_lt (Nat.lt_of_lt_of_le lt_1 hga3_1);have n2_3 : g2 ≠ ga3_1 := Nat.ne_of_lt (Nat.lt_of_lt_of_le lt_2 hga3_1);have bhbw_3 := Nat.le_trans hbw.size hga3_1;replace hbw := bo_ hbw hb;clear hb;refine EL.store rfl rfl q1 sz_22 rfl rfl rfl rfl ?_;intro w4 hq4 hg4;replace q2 := q2.gr hg4 n1_2.symm;replace hn1 := own_type hn1 q1 rfl hg4;replace hn4 := own_type hn4 q1 rfl hg4;replace hbw := below_store hbw hg4 bhbw_1;replace q1 := hq4;clear hg4 hq4;refine EL.val (fa_28_4 rfl) rfl (EL.store rfl rfl q1 sz_26 rfl rfl rfl rfl ?_);intro w5 hq5 hg5;replace q2 := q2.gr hg5 n1_2.symm;replace hn1 := own_type hn1 q1 rfl hg5;replace hn4 := own_type hn4 q1 rfl hg5;replace hbw := below_store hbw hg5 bhbw_1;replace q1 := hq5;clear hg5 hq5;refine EL.nil (EX.seq (EC.seq ?_));have lt_1 := q1.lt;have lt_2 := q2.lt;refine EC.regionP [[], [0], [0, 1], [], [3], [0, 1, 2, 3, 4], [0, 1, 2, 3, 4], [0, 1, 2, 3, 4, 5, 6], [0, 1, 2, 3, 4, 5, 6, 7], [0, 1, 2, 3, 4, 5, 6, 7, 8]] 7 [] (phi (fun i_ r => match i_ with | 0 => r 0 = .pointer (some ⟨g1, 3, none⟩) | 1 => r 1 = .slice Aa ru.allow.length ca | 3 => r 3 = .pointer (some ⟨g1, 4, none⟩) | 4 => r 4 = .slice Ap ru.apart.length cp | 6 => r 6 = .pointer (some ⟨g1, 3, none⟩) | _ => True) [(2, fun r w_ => ∃ A c us, r 2 = .slice A ru.allow.length c ∧ OwnLL w_ w.heap.size w_.heap.size (.slice A ru.allow.length c) ru.allow us), (5, fun r w_ => ∃ A c us, r 5 = .slice A ru.apart.length c ∧ OwnLL w_ w.heap.size w_.heap.size (.slice A ru.apart.length c) ru.apart us)]) (by kernel_rfl) rfl rfl (phi_cons (mono_ll (f := fun A c => .slice A ru.allow.length c)) (phi_cons (mono_ll (f := fun A c => .slice A ru.apart.length c)) (phi_nil))) (fun i_ hi_ => ?_) ?_
  ·match i_, hi_ with
   | 0, _ =>
    intro val w1 a hb ha hd;have ha := ha.s0 (d := 1) rfl
    exact hs_val ha rfl rfl (fa_28_2 rfl) rfl rfl
   | 1, _ =>
    intro val w1 a hb ha hd;have e0 : val 0 = .pointer (some ⟨g1, 3, none⟩) := hd 0 (memB_mem.1 rfl);have ha := ha.s1 (d := 12) rfl e0
    exact hs_val ha rfl rfl (ld_25 rfl ((q1.below hb q1.lt).at (j := 3) rfl)) rfl rfl
   | 2, _ =>
    intro val w1 a hb ha hd;have e1 : val 1 = .slice Aa ru.allow.length ca := hd 1 (memB_mem.1 rfl);have ha := ha.s1 (d := 13) rfl e1;refine hs_call ha rfl rfl (cl_51 rfl) (rows_any (hr.allow.below ((hbw.trans (hb.mono hbw.size)).mono hB)) (Nat.le_trans hB (Nat.le_trans hbw.size hb.size)) (by have := hw_.a; omega) (fun i hi => by have := hw_.ra i hi; omega)) rfl ?_
    rintro e w' ⟨⟨v', us, rfl, ho⟩, hb'⟩
    obtain ⟨A, c9, rfl, _⟩ := ho.rd.rd.shape
    exact ⟨_, rfl, hb', ⟨A, c9, us, rfl, ho.less (Nat.le_trans hbw.size hb.size)⟩⟩
   | 3, _ =>
    intro val w1 a hb ha hd;have ha := ha.s0 (d := 1) rfl
    exact hs_val ha rfl rfl (fa_28_3 rfl) rfl rfl
   | 4, _ =>
    intro val w1 a hb ha hd;have e3 : val 3 = .pointer (some ⟨g1, 4, none⟩) := hd 3 (memB_mem.1 rfl);have ha := ha.s1 (d := 15) rfl e3
    exact hs_val ha rfl rfl (ld_25 rfl ((q1.below hb q1.lt).at (j := 4) rfl)) rfl rfl
   | 5, _ =>
    intro val w1 a hb ha hd;have e4 : val 4 = .slice Ap ru.apart.length cp := hd 4 (memB_mem.1 rfl);have ha := ha.s1 (d := 16) rfl e4;refine hs_call ha rfl rfl (cl_51 rfl) (rows_any (hr.apart.below ((hbw.trans (hb.mono hbw.size)).mono hB)) (Nat.le_trans hB (Nat.le_trans hbw.size hb.size)) (by have := hw_.p; omega) (fun i hi => by have := hw_.rp i hi; omega)) rfl ?_
    rintro e w' ⟨⟨v', us, rfl, ho⟩, hb'⟩
    obtain ⟨A, c9, rfl, _⟩ := ho.rd.rd.shape
    exact ⟨_, rfl, hb', ⟨A, c9, us, rfl, ho.less (Nat.le_trans hbw.size hb.size)⟩⟩
   | 6, _ =>
    intro val w1 a hb ha hd;have ha := ha.s0 (d := 1) rfl
    exact hs_val ha rfl rfl (fa_28_2 rfl) rfl rfl
   | k + 7, h => exact absurd h (by omega)
  ·intro val wR2 hb halc hd
   have e0 : val 0 = .pointer (some ⟨g1, 3, none⟩) := hd 0 (by omega)
   have e1 : val 1 = .slice Aa ru.allow.length ca := hd 1 (by omega)
   obtain ⟨A2, c2, us2, e2, hn2⟩ := hd 2 (by omega)
   have e3 : val 3 = .pointer (some ⟨g1, 4, none⟩) := hd 3 (by omega)
   have e4 : val 4 = .slice Ap ru.apart.length cp := hd 4 (by omega)
   obtain ⟨A3, c3, us3, e5, hn3⟩ := hd 5 (by omega)
   have e6 : val 6 = .pointer (some ⟨g1, 3, none⟩) := hd 6 (by omega)
   refine EL.ends (cs := [.pointer (some ⟨g1, 3, none⟩), .slice Aa ru.allow.length ca, .slice A2 ru.allow.length c2, .pointer (some ⟨g1, 4, none⟩), .slice Ap ru.apart.length cp, .slice A3 ru.apart.length c3, .pointer (some ⟨g1, 3, none⟩)]) ⟨e0, e1, e2, e3, e4, e5, e6, trivial⟩ rfl ?_;replace q1 := q1.bl hb;replace q2 := q2.bl hb;replace hn1 := own_below hn1 hb (Nat.le_refl _);replace hn4 := own_below hn4 hb (Nat.le_refl _);replace hbw := bo_ hbw hb;clear hb;refine EL.store rfl rfl q1 sz_25 rfl rfl rfl rfl ?_;intro w6 hq6 hg6;replace q2 := q2.gr hg6 n1_2.symm;replace hn1 := own_type hn1 q1 rfl hg6;replace hn4 := own_type hn4 q1 rfl hg6;replace hn2 := (hn2.box q1 rfl rfl hg6).more hg6.size;replace hn3 := (hn3.box q1 rfl rfl hg6).more hg6.size;replace hbw := below_store hbw hg6 bhbw_1;replace q1 := hq6;clear hg6 hq6;refine EL.val (fa_28_3 rfl) rfl (EL.store rfl rfl q1 sz_25 rfl rfl rfl rfl ?_);intro w7 hq7 hg7;replace q2 := q2.gr hg7 n1_2.symm;replace hn1 := own_type hn1 q1 rfl hg7;replace hn4 := own_type hn4 q1 rfl hg7;replace hn2 := (hn2.box q1 rfl rfl hg7).more hg7.size;replace hn3 := (hn3.box q1 rfl rfl hg7).more hg7.size;replace hbw := below_store hbw hg7 bhbw_1;replace q1 := hq7;clear hg7 hq7;refine EL.nil (EX.seq (EC.seq (EC.region (EL.val (ld_28 rfl (q1.at (j := 0) rfl) (q1.at (j := 1) rfl) (q1.at (j := 2) rfl) (q1.at (j := 3) rfl) (q1.at (j := 4) rfl) (q1.at (j := 5) rfl)) rfl (EL.store rfl rfl q2 sz_28 rfl rfl rfl rfl ?_)))));intro w8 hq8 hg8;replace q1 := q1.gr hg8 n1_2;replace hn1 := own_type hn1 q2 rfl hg8;replace hn4 := own_type hn4 q2 rfl hg8;replace hn2 := (hn2.box q2 rfl rfl hg8).more hg8.size;replace hn3 := (hn3.box q2 rfl rfl hg8).more hg8.size;replace hbw := below_store hbw hg8 bhbw_2;replace q2 := hq8;clear hg8 hq8;refine EL.nil (EX.seq (EC.ret ?_))
   exact EX.done (resc1 rfl rfl (lv_28 (q2.at (j := 0) rfl) (q2.at (j := 1) rfl) (q2.at (j := 2) rfl) (q2.at (j := 3) rfl) (q2.at (j := 4) rfl) (q2.at (j := 5) rfl))) ⟨⟨_, _, _, _, us2, us3, rfl, ⟨Rd.of_own hn1, hn2.rd, hn3.rd, Rd.of_own hn4⟩⟩, hbw⟩
def three : Rules := ⟨[100, 60, 40], ⟨10, 20⟩, [[100, 0, 30], [60, 60, 0], [40, 40, 40]], [[0, 1, 0], [0, 0, 0], [0, 0, 0]], [⟨⟨30, 40⟩, 60, 5, 20000⟩, ⟨⟨100, 120⟩, 240, 20, 90000⟩]⟩
def lK : List Ev := [⟨1, 0⟩, ⟨2, 0⟩, ⟨1, 2⟩, ⟨2, 1⟩]
def tK : List (List Ev) := [[⟨1, 0⟩], [⟨1, 1⟩]]
theorem three_ref : refE three lK = 0 := by kernel_rfl
theorem three_ref3 : refE three (lK.take 3) = 0 := by kernel_rfl
theorem three_short : Short three := ⟨by decide, by decide, by decide, by decide⟩
theorem three_res : resE three (lK.take 3) = [⟨40, 60⟩, ⟨0, 0⟩, ⟨40, 40⟩] := by kernel_rfl
theorem three_aud : audE three lK = [⟨2, 0, true⟩] := by kernel_rfl
theorem three_slop : (slopE three lK).length = 2 ∧ ((slopE three lK).getD 1 []) = [0, 2] := ⟨by kernel_rfl, by kernel_rfl⟩
theorem three_bill : billE three lK = .tuple #[.int .i64 300, .int .i64 25, .int .i64 110000, .int .i64 0] := by kernel_rfl
/-- the best, found by looking -/
def bestB (L : List Sx) (p : Pl) : Bool := L.any (fun x => decide (cmpP x.2 p = 0)) && L.all (fun x => decide (cmpP p x.2 ≤ 0))
theorem best_of {L : List Sx} {p : Pl} (h : bestB L p = true) : IsBest L p := by
 unfold bestB at h
 rw [Bool.and_eq_true, List.any_eq_true, List.all_eq_true] at h;obtain ⟨⟨x, hx, h1⟩, h2⟩ := h;have e := cmp_pl.eq _ _ (of_decide_eq_true h1)
 exact ⟨⟨x.1, by rw [← e]; exact hx⟩, fun y hy => of_decide_eq_true (h2 y hy)⟩
def pK : Pl := ⟨[⟨0, 1⟩, ⟨0, -1⟩], 1, 90000⟩
theorem three_code : codeS three (lK.take 1) [2, 1] = 0 := by kernel_rfl
theorem three_code1 : codeS three (lK.take 1) [1] = 7 := by kernel_rfl
theorem three_at1 : atS three (lK.take 1) [1] = 0 := by kernel_rfl
theorem three_plan : IsBest (compl (extY (yardOf three 1)) (([2, 1] : List Int).map Int.toNat) ([tkE three (lK.take 1), tank0, tank0], pl0)) pK := best_of (by kernel_rfl)
theorem three_codeF : codeF three tK [2, 1] = 0 := by kernel_rfl
theorem three_fleet : IsBest (compl (extY (yardOf three tK.length)) (([2, 1] : List Int).map Int.toNat) (fillF three tK tK.length, pl0)) pK := best_of (by kernel_rfl)
section
variable {n : Nat} {σ : Sg} {w : World} {dst : Option Tmp} {ty : TypeId} {pos : String} {af : Array Edge} {g : Option (Nat × Bool)} {x y z : Operand} {at' : Array TypeId}
theorem bs_25_3 {x0 x1 x2 : Operand} {A0 A1 A2 : Option Addr} {m0 c0 m1 c1 m2 c2 : Nat} (h0 : evS σ x0 = some (.slice A0 m0 c0)) (h1 : evS σ x1 = some (.slice A1 m1 c1)) (h2 : evS σ x2 = some (.slice A2 m2 c2)) (a : Act) (ha : Env n σ a) : (execOp a.eval ⟨dst, .buildSlice 25 3 #[(0, x0), (1, x1), (2, x2)], ty, pos, af, g⟩).run Try.prog w = .ok (.value (.slice (some ⟨w.heap.size, 0, none⟩) 3 3)) (w.alloc (.cells #[.slice A0 m0 c0, .slice A1 m1 c1, .slice A2 m2 c2] 22)) := by
 simp only [execOp, List.map_toArray, List.map_cons, List.map_nil, ha.eval h0, ha.eval h1, ha.eval h2]
 go_simp
theorem bd_52_0_1_2_3 {x0 x1 x2 x3 : Operand} {v0_0 : Value} {v0_1 : Value} {z1 : Int} {z2 : Int} {z3 : Int} (h0 : evS σ x0 = some (.agg #[v0_0, v0_1])) (h1 : evS σ x1 = some (.int .i64 z1)) (h2 : evS σ x2 = some (.int .i64 z2)) (h3 : evS σ x3 = some (.int .i64 z3)) : Gives Try.prog n σ w ⟨dst, .build 52 #[(0, x0), (1, x1), (2, x2), (3, x3)], ty, pos, af, g⟩ (.agg #[v0_0, v0_1, .int .i64 z1, .int .i64 z2, .int .i64 z3]) := fun a ha => by
 simp only [execOp, List.map_toArray, List.map_cons, List.map_nil, ha.eval h0, ha.eval h1, ha.eval h2, ha.eval h3]
 go_simp
theorem bs_26_2 {x0 x1 : Operand} {v0_0 v0_1 v0_2 v0_3 v0_4 v1_0 v1_1 v1_2 v1_3 v1_4 : Value} (h0 : evS σ x0 = some (.agg #[v0_0, v0_1, v0_2, v0_3, v0_4])) (h1 : evS σ x1 = some (.agg #[v1_0, v1_1, v1_2, v1_3, v1_4]))  (a : Act) (ha : Env n σ a) : (execOp a.eval ⟨dst, .buildSlice 26 2 #[(0, x0), (1, x1)], ty, pos, af, g⟩).run Try.prog w = .ok (.value (.slice (some ⟨w.heap.size, 0, none⟩) 2 2)) (w.alloc (.cells #[v0_0, v0_1, v0_2, v0_3, v0_4, v1_0, v1_1, v1_2, v1_3, v1_4] 52)) := by
 simp only [execOp, List.map_toArray, List.map_cons, List.map_nil, ha.eval h0, ha.eval h1]
 go_simp
theorem bd_28_0_1_2_3_4 {x0 x1 x2 x3 x4 : Operand} {A0 : Option Addr} {m0 : Nat} {c0 : Nat} {v1_0 : Value} {v1_1 : Value} {A2 : Option Addr} {m2 : Nat} {c2 : Nat} {A3 : Option Addr} {m3 : Nat} {c3 : Nat} {A4 : Option Addr} {m4 : Nat} {c4 : Nat} (h0 : evS σ x0 = some (.slice A0 m0 c0)) (h1 : evS σ x1 = some (.agg #[v1_0, v1_1])) (h2 : evS σ x2 = some (.slice A2 m2 c2)) (h3 : evS σ x3 = some (.slice A3 m3 c3)) (h4 : evS σ x4 = some (.slice A4 m4 c4)) : Gives Try.prog n σ w ⟨dst, .build 28 #[(0, x0), (1, x1), (2, x2), (3, x3), (4, x4)], ty, pos, af, g⟩ (.agg #[.slice A0 m0 c0, v1_0, v1_1, .slice A2 m2 c2, .slice A3 m3 c3, .slice A4 m4 c4]) := fun a ha => by
 simp only [execOp, List.map_toArray, List.map_cons, List.map_nil, ha.eval h0, ha.eval h1, ha.eval h2, ha.eval h3, ha.eval h4]
 go_simp
end
set_option maxHeartbeats 1000000 in
theorem three_any (w : World) :
  Calls Try.prog 47 #[] w fun e w' => (∃ vl va vp vk ua up, e = .returned (rulesV vl va vp vk three) ∧ RdRules w' w'.heap.size vl va vp vk three ua up) ∧ Below w.heap.size w w' := by
 have hbw := Below.refl w.heap.size w;refine EC.enter 17 Try.func47 rfl rfl rfl (EC.seq (EC.region (EL.newP al_28 rfl ?_)));intro g1 w1 q1 hb1 hg1 hl1;have bhbw_1 := Nat.le_trans hbw.size hg1;replace hbw := bo_ hbw hb1;clear hb1 hg1 hl1;refine EL.nil (EX.seq (EC.seq (EC.region (EL.newS (bs_22_3 rfl rfl rfl) rfl ?_))));intro g2 w2 q2 hb2 hg2 hl2;have n1_2 := q1.na hg2;have bhbw_2 := Nat.le_trans hbw.size hg2;replace q1 := q1.bl hb2;replace hbw := bo_ hbw hb2;clear hb2 hg2 hl2;refine EL.val (bd_24_0_1 rfl rfl) rfl (EL.newS (bs_22_3 rfl rfl rfl) rfl ?_);intro g3 w3 q3 hb3 hg3 hl3;have n1_3 := q1.na hg3;have n2_3 := q2.na hg3;have bhbw_3 := Nat.le_trans hbw.size hg3;replace q1 := q1.bl hb3;replace q2 := q2.bl hb3;replace hbw := bo_ hbw hb3;clear hb3 hg3 hl3;refine EL.newS (bs_22_3 rfl rfl rfl) rfl ?_;intro g4 w4 q4 hb4 hg4 hl4;have n1_4 := q1.na hg4;have n2_4 := q2.na hg4;have n3_4 := q3.na hg4;have bhbw_4 := Nat.le_trans hbw.size hg4;replace q1 := q1.bl hb4;replace q2 := q2.bl hb4;replace q3 := q3.bl hb4;replace hbw := bo_ hbw hb4;clear hb4 hg4 hl4;refine EL.newS (bs_22_3 rfl rfl rfl) rfl ?_;intro g5 w5 q5 hb5 hg5 hl5;have n1_5 := q1.na hg5;have n2_5 := q2.na hg5;have n3_5 := q3.na hg5;have n4_5 := q4.na hg5;have bhbw_5 := Nat.le_trans hbw.size hg5;replace q1 := q1.bl hb5;replace q2 := q2.bl hb5;replace q3 := q3.bl hb5;replace q4 := q4.bl hb5;replace hbw := bo_ hbw hb5;clear hb5 hg5 hl5;refine EL.newS (bs_25_3 rfl rfl rfl) rfl ?_;intro g6 w6 q6 hb6 hg6 hl6;have n1_6 := q1.na hg6;have n2_6 := q2.na hg6;have n3_6 := q3.na hg6;have n4_6 := q4.na hg6;have n5_6 := q5.na hg6;have bhbw_6 := Nat.le_trans hbw.size hg6;replace q1 := q1.bl hb6;replace q2 := q2.bl hb6;replace q3 := q3.bl hb6;replace q4 := q4.bl hb6;replace q5 := q5.bl hb6;replace hbw := bo_ hbw hb6;clear hb6 hg6 hl6;refine EL.newS (bs_22_3 rfl rfl rfl) rfl ?_;intro g7 w7 q7 hb7 hg7 hl7;have n1_7 := q1.na hg7;have n2_7 := q2.na hg7;have n3_7 := q3.na hg7;have n4_7 := q4.na hg7;have n5_7 := q5.na hg7;have n6_7 := q6.na hg7;have bhbw_7 := Nat.le_trans hbw.size hg7;replace q1 := q1.bl hb7;replace q2 := q2.bl hb7;replace q3 := q3.bl hb7;replace q4 := q4.bl hb7;replace q5 := q5.bl hb7;replace q6 := q6.bl hb7;replace hbw := bo_ hbw hb7;clear hb7 hg7 hl7;refine EL.newS (bs_22_3 rfl rfl rfl) rfl ?_;intro g8 w8 q8 hb8 hg8 hl8;have n1_8 := q1.na hg8;have n2_8 := q2.na hg8;have n3_8 := q3.na hg8;have n4_8 := q4.na hg8;have n5_8 := q5.na hg8;have n6_8 := q6.na hg8;have n7_8 := q7.na hg8;have bhbw_8 := Nat.le_trans hbw.size hg8;replace q1 := q1.bl hb8;replace q2 := q2.bl hb8;replace q3 := q3.bl hb8;replace q4 := q4.bl hb8;replace q5 := q5.bl hb8;replace q6 := q6.bl hb8;replace q7 := q7.bl hb8;replace hbw := bo_ hbw hb8;clear hb8 hg8 hl8;refine EL.newS (bs_22_3 rfl rfl rfl) rfl ?_;intro g9 w9 q9 hb9 hg9 hl9;have n1_9 := q1.na hg9;have n2_9 := q2.na hg9;have n3_9 := q3.na hg9;have n4_9 := q4.na hg9;have n5_9 := q5.na hg9;have n6_9 := q6.na hg9;have n7_9 := q7.na hg9;have n8_9 := q8.na hg9;have bhbw_9 := Nat.le_trans hbw.size hg9;replace q1 := q1.bl hb9;replace q2 := q2.bl hb9;replace q3 := q3.bl hb9;replace q4 := q4.bl hb9;replace q5 := q5.bl hb9;replace q6 := q6.bl hb9;replace q7 := q7.bl hb9;replace q8 := q8.bl hb9;replace hbw := bo_ hbw hb9;clear hb9 hg9 hl9;refine EL.newS (bs_25_3 rfl rfl rfl) rfl ?_;intro g10 w10 q10 hb10 hg10 hl10;have n1_10 := q1.na hg10;have n2_10 := q2.na hg10;have n3_10 := q3.na hg10;have n4_10 := q4.na hg10;have n5_10 := q5.na hg10;have n6_10 := q6.na hg10;have n7_10 := q7.na hg10;have n8_10 := q8.na hg10;have n9_10 := q9.na hg10;have bhbw_10 := Nat.le_trans hbw.size hg10;replace q1 := q1.bl hb10;replace q2 := q2.bl hb10;replace q3 := q3.bl hb10;replace q4 := q4.bl hb10;replace q5 := q5.bl hb10;replace q6 := q6.bl hb10;replace q7 := q7.bl hb10;replace q8 := q8.bl hb10;replace q9 := q9.bl hb10;replace hbw := bo_ hbw hb10;clear hb10 hg10 hl10;refine EL.val (bd_24_0_1 rfl rfl) rfl (EL.val (bd_52_0_1_2_3 rfl rfl rfl rfl) rfl (EL.val (bd_24_0_1 rfl rfl) rfl (EL.val (bd_52_0_1_2_3 rfl rfl rfl rfl) rfl (EL.newS (bs_26_2 rfl rfl) rfl ?_))));intro g11 w11 q11 hb11 hg11 hl11;have n1_11 := q1.na hg11;have n2_11 := q2.na hg11;have n3_11 := q3.na hg11;have n4_11 := q4.na hg11;have n5_11 := q5.na hg11;have n6_11 := q6.na hg11;have n7_11 := q7.na hg11;have n8_11 := q8.na hg11;have n9_11 := q9.na hg11;have n10_11 := q10.na hg11;have bhbw_11 := Nat.le_trans hbw.size hg11;replace q1 := q1.bl hb11;replace q2 := q2.bl hb11;replace q3 := q3.bl hb11;replace q4 := q4.bl hb11;replace q5 := q5.bl hb11;replace q6 := q6.bl hb11;replace q7 := q7.bl hb11;replace q8 := q8.bl hb11;replace q9 := q9.bl hb11;replace q10 := q10.bl hb11;replace hbw := bo_ hbw hb11;clear hb11 hg11 hl11;refine EL.val (bd_28_0_1_2_3_4 rfl rfl rfl rfl rfl) rfl (EL.store rfl rfl q1 sz_28 rfl rfl rfl rfl ?_);intro w12 hq12 hg12;replace q2 := q2.gr hg12 n1_2.symm;replace q3 := q3.gr hg12 n1_3.symm;replace q4 := q4.gr hg12 n1_4.symm;replace q5 := q5.gr hg12 n1_5.symm;replace q6 := q6.gr hg12 n1_6.symm;replace q7 := q7.gr hg12 n1_7.symm;replace q8 := q8.gr hg12 n1_8.symm;replace q9 := q9.gr hg12 n1_9.symm;replace q10 := q10.gr hg12 n1_10.symm;replace q11 := q11.gr hg12 n1_11.symm;replace hbw := below_store hbw hg12 bhbw_1;replace q1 := hq12;clear hg12 hq12;refine EL.nil (EX.seq (EC.ret ?_));have hL1 : RdLL iC 1 w12 w12.heap.size (.slice (some ⟨g6, 0, none⟩) 3 3) three.allow [.slice (some ⟨g3, 0, none⟩) 3 3, .slice (some ⟨g4, 0, none⟩) 3 3, .slice (some ⟨g5, 0, none⟩) 3 3] := ⟨rfl, rd_blk (k := 3) (l := [.slice (some ⟨g3, 0, none⟩) 3 3, .slice (some ⟨g4, 0, none⟩) 3 3, .slice (some ⟨g5, 0, none⟩) 3 3]) q6 rfl, fun i hi => by (have hi : i < 3 := hi); exact (match i, hi with | 0, _ => rd_blk (k := 3) (l := [.int .i64 100, .int .i64 0, .int .i64 30]) q3 rfl | 1, _ => rd_blk (k := 3) (l := [.int .i64 60, .int .i64 60, .int .i64 0]) q4 rfl | 2, _ => rd_blk (k := 3) (l := [.int .i64 40, .int .i64 40, .int .i64 40]) q5 rfl)⟩
 have hL2 : RdLL iC 1 w12 w12.heap.size (.slice (some ⟨g10, 0, none⟩) 3 3) three.apart [.slice (some ⟨g7, 0, none⟩) 3 3, .slice (some ⟨g8, 0, none⟩) 3 3, .slice (some ⟨g9, 0, none⟩) 3 3] := ⟨rfl, rd_blk (k := 3) (l := [.slice (some ⟨g7, 0, none⟩) 3 3, .slice (some ⟨g8, 0, none⟩) 3 3, .slice (some ⟨g9, 0, none⟩) 3 3]) q10 rfl, fun i hi => by (have hi : i < 3 := hi); exact (match i, hi with | 0, _ => rd_blk (k := 3) (l := [.int .i64 0, .int .i64 1, .int .i64 0]) q7 rfl | 1, _ => rd_blk (k := 3) (l := [.int .i64 0, .int .i64 0, .int .i64 0]) q8 rfl | 2, _ => rd_blk (k := 3) (l := [.int .i64 0, .int .i64 0, .int .i64 0]) q9 rfl)⟩
 exact EX.done (resc1 rfl rfl (lv_28 (q1.at (j := 0) rfl) (q1.at (j := 1) rfl) (q1.at (j := 2) rfl) (q1.at (j := 3) rfl) (q1.at (j := 4) rfl) (q1.at (j := 5) rfl))) ⟨⟨_, _, _, _, _, _, rfl, ⟨rd_blk (k := 3) (l := [.int .i64 100, .int .i64 60, .int .i64 40]) q2 rfl, hL1, hL2, rd_blk (k := 2) (l := [.int .i64 30, .int .i64 40, .int .i64 60, .int .i64 5, .int .i64 20000, .int .i64 100, .int .i64 120, .int .i64 240, .int .i64 20, .int .i64 90000]) q11 rfl⟩⟩, hbw⟩
theorem atF_zero {ru : Rules} {tanks : List (List Ev)} {jobs : List Int} (h : codeF ru tanks jobs = 0) : atF ru tanks jobs = 0 := by
 unfold codeF at h
 unfold atF
 split
 ·rename_i he
  rw [if_pos he] at h
  split
  ·rename_i hd
   rw [if_pos hd] at h
   cases h
  ·rfl
 ·rfl
theorem kRes {ua up : List Value} {vl va vp vk : Value} {w : World} {B : Nat} (hr : RdRules w B vl va vp vk three ua up) (hB : B ≤ w.heap.size) {v : Value} (hl : Rd w B 2 v (lK.take 3).length (evsC (lK.take 3))) : Calls Try.prog 33 #[rulesV vl va vp vk three, v] w fun e w' => (∃ u, e = .returned (.tuple #[u, .int .i64 0]) ∧ w'.ownsRow w.heap.size 24 2 u 3 (bdsC [⟨40, 60⟩, ⟨0, 0⟩, ⟨40, 40⟩])) ∧ Below w.heap.size w w' := by
 have h := Residues_any hr hB three_short hl (by decide)
 rw [three_ref3, three_res] at h
 exact h
theorem kAud {ua up : List Value} {vl va vp vk : Value} {w : World} {B : Nat} (hr : RdRules w B vl va vp vk three ua up) (hB : B ≤ w.heap.size) {v : Value} (hl : Rd w B 2 v lK.length (evsC lK)) : Calls Try.prog 13 #[rulesV vl va vp vk three, v] w fun e w' => (∃ u, e = .returned (.tuple #[u, .int .i64 0]) ∧ w'.ownsRow w.heap.size 46 3 u 1 (brsC [⟨2, 0, true⟩])) ∧ Below w.heap.size w w' := by
 have h := Audit_any hr hB three_short hl (by decide)
 rw [three_ref, three_aud] at h
 exact h
theorem kSlop {ua up : List Value} {vl va vp vk : Value} {w : World} {B : Nat} (hr : RdRules w B vl va vp vk three ua up) (hB : B ≤ w.heap.size) {v : Value} (hl : Rd w B 2 v lK.length (evsC lK)) : Calls Try.prog 16 #[rulesV vl va vp vk three, v] w fun e w' => (∃ u us, e = .returned (.tuple #[u, .int .i64 0]) ∧ OwnLL w' w.heap.size w'.heap.size u (slopE three lK) us) ∧ Below w.heap.size w w' := by
 have h := Slops_any hr hB three_short hl (by decide)
 rw [three_ref] at h
 exact h
theorem kBill {ua up : List Value} {vl va vp vk : Value} {w : World} {B : Nat} (hr : RdRules w B vl va vp vk three ua up) (hB : B ≤ w.heap.size) {v : Value} (hl : Rd w B 2 v lK.length (evsC lK)) : Calls Try.prog 17 #[rulesV vl va vp vk three, v] w fun e w' => e = .returned (.tuple #[.int .i64 300, .int .i64 25, .int .i64 110000, .int .i64 0]) ∧ Below w.heap.size w w' := by
 have h := Bill_any hr hB three_short hl (by decide)
 rw [three_bill] at h
 exact h
theorem kPlan {ua up : List Value} {vl va vp vk : Value} {w : World} {B : Nat} (hr : RdRules w B vl va vp vk three ua up) (hB : B ≤ w.heap.size) {v : Value} (hl : Rd w B 2 v (lK.take 1).length (evsC (lK.take 1))) {vj : Value} (hv : Rd w B 1 vj ([2, 1] : List Int).length (ints [2, 1])) : Calls Try.prog 24 #[rulesV vl va vp vk three, v, vj] w fun e w' => (∃ u, e = .returned (.tuple #[u, .int .i64 90000, .int .i64 0, .int .i64 0]) ∧ w'.ownsRow w.heap.size 3 1 u 2 (ints [1, -1])) ∧ Below w.heap.size w w' := by
 refine (Plan_any hr hB three_short hl (by decide) hv (by decide)).mono fun e w' h => ?_
 obtain ⟨⟨u, ws, c, rfl, ho, h1, _⟩, hb⟩ := h;obtain ⟨p, hp, rfl, rfl⟩ := h1 three_code;obtain rfl := hp.one three_plan
 exact ⟨⟨u, by rw [three_code, at_zero three_code]; rfl, ho⟩, hb⟩
theorem kPlan1 {ua up : List Value} {vl va vp vk : Value} {w : World} {B : Nat} (hr : RdRules w B vl va vp vk three ua up) (hB : B ≤ w.heap.size) {v : Value} (hl : Rd w B 2 v (lK.take 1).length (evsC (lK.take 1))) {vj : Value} (hv : Rd w B 1 vj ([1] : List Int).length (ints [1])) : Calls Try.prog 24 #[rulesV vl va vp vk three, v, vj] w fun e w' => (∃ u, e = .returned (.tuple #[u, .int .i64 0, .int .i64 0, .int .i64 7]) ∧ w'.ownsRow w.heap.size 3 1 u 0 []) ∧ Below w.heap.size w w' := by
 refine (Plan_any hr hB three_short hl (by decide) hv (by decide)).mono fun e w' h => ?_
 obtain ⟨⟨u, ws, c, rfl, ho, _, h1⟩, hb⟩ := h;obtain ⟨rfl, rfl⟩ := h1 (by rw [three_code1]; decide)
 exact ⟨⟨u, by rw [three_code1, three_at1]; rfl, ho⟩, hb⟩
theorem kFleet {ua up : List Value} {vl va vp vk : Value} {w : World} {B : Nat} (hr : RdRules w B vl va vp vk three ua up) (hB : B ≤ w.heap.size) {vt : Value} {ut : List Value} (ht : RdLL evC 2 w B vt tK ut) {vj : Value} (hv : Rd w B 1 vj ([2, 1] : List Int).length (ints [2, 1])) : Calls Try.prog 38 #[rulesV vl va vp vk three, vt, vj] w fun e w' => (∃ u, e = .returned (.tuple #[u, .int .i64 90000, .int .i64 0, .int .i64 0]) ∧ w'.ownsRow w.heap.size 70 2 u 2 (stsC [⟨0, 1⟩, ⟨0, -1⟩])) ∧ Below w.heap.size w w' := by
 refine (Fleet_any hr hB three_short ht (fun i hi => by (have hi : i < 2 := hi); exact (match i, hi with | 0, _ => by decide | 1, _ => by decide)) (by decide) hv (by decide)).mono fun e w' h => ?_
 obtain ⟨⟨u, st, c, rfl, ho, h1, _⟩, hb⟩ := h;obtain ⟨p, hp, rfl, rfl⟩ := h1 three_codeF;obtain rfl := hp.one three_fleet
 exact ⟨⟨u, by rw [three_codeF, atF_zero three_codeF]; rfl, ho⟩, hb⟩
section
variable {n : Nat} {σ : Sg} {w : World} {dst : Option Tmp} {ty : TypeId} {pos : String} {af : Array Edge} {g : Option (Nat × Bool)} {x y z : Operand} {at' : Array TypeId}
theorem eql_24 {a0 a1 b0 b1 : Int} {r : Bool} (hx : evS σ x = some (.agg #[.int .i64 a0, .int .i64 a1])) (hy : evS σ y = some (.agg #[.int .i64 b0, .int .i64 b1])) (hc : decide (a0 = b0 ∧ a1 = b1) = r) : Gives Try.prog n σ w ⟨dst, .binOp .eql 24 x y 24, ty, pos, af, g⟩ (.bool r) := fun a ha => by
 subst hc
 simp only [execOp, ha.eval hx, ha.eval hy]
 go_simp
 repeat' split
 all_goals simp_all
theorem ix_32 {b o m c k : Nat} (hx : evS σ x = some (.slice (some ⟨b, o, none⟩) m c)) (hy : evS σ y = some (.int .i64 (k : Int))) (hk : k < m) : Gives Try.prog n σ w ⟨dst, .indexAddr 32 x y, ty, pos, af, g⟩ (.pointer (some ⟨b, o + k * 3, none⟩)) := fun a ha => by
 have k0 : (0 : Int) ≤ (k : Int) := Int.natCast_nonneg _;have k1 : (k : Int) < (m : Int) := by omega
 simp only [execOp, ha.eval hx, ha.eval hy]
 simp [go_sem, k0, k1]
theorem eql_70 {a0 a1 b0 b1 : Int} {r : Bool} (hx : evS σ x = some (.agg #[.int .i64 a0, .int .i64 a1])) (hy : evS σ y = some (.agg #[.int .i64 b0, .int .i64 b1])) (hc : decide (a0 = b0 ∧ a1 = b1) = r) : Gives Try.prog n σ w ⟨dst, .binOp .eql 70 x y 70, ty, pos, af, g⟩ (.bool r) := fun a ha => by
 subst hc
 simp only [execOp, ha.eval hx, ha.eval hy]
 go_simp
 repeat' split
 all_goals simp_all
theorem cl_46 {x0 : Operand} {v0 : Value} (h0 : evS σ x0 = some v0) (a : Act) (ha : Env n σ a) : (execOp a.eval ⟨dst, .call { callee := .value (.func 46), args := #[x0], argTypes := at' }, ty, pos, af, g⟩).run Try.prog w = .ok (.enter 46 #[v0]) w := by
 simp only [execOp, resolve, List.map_toArray, List.map_cons, List.map_nil, ha.eval h0]
 simp [go_sem, Act.eval]
theorem cl_45 {x0 : Operand} {v0 : Value} (h0 : evS σ x0 = some v0) (a : Act) (ha : Env n σ a) : (execOp a.eval ⟨dst, .call { callee := .value (.func 45), args := #[x0], argTypes := at' }, ty, pos, af, g⟩).run Try.prog w = .ok (.enter 45 #[v0]) w := by
 simp only [execOp, resolve, List.map_toArray, List.map_cons, List.map_nil, ha.eval h0]
 simp [go_sem, Act.eval]
theorem bs_29_4 {x0 x1 x2 x3 : Operand} {v0_0 v0_1 v1_0 v1_1 v2_0 v2_1 v3_0 v3_1 : Value} (h0 : evS σ x0 = some (.agg #[v0_0, v0_1])) (h1 : evS σ x1 = some (.agg #[v1_0, v1_1])) (h2 : evS σ x2 = some (.agg #[v2_0, v2_1])) (h3 : evS σ x3 = some (.agg #[v3_0, v3_1]))  (a : Act) (ha : Env n σ a) : (execOp a.eval ⟨dst, .buildSlice 29 4 #[(0, x0), (1, x1), (2, x2), (3, x3)], ty, pos, af, g⟩).run Try.prog w = .ok (.value (.slice (some ⟨w.heap.size, 0, none⟩) 4 4)) (w.alloc (.cells #[v0_0, v0_1, v1_0, v1_1, v2_0, v2_1, v3_0, v3_1] 50)) := by
 simp only [execOp, List.map_toArray, List.map_cons, List.map_nil, ha.eval h0, ha.eval h1, ha.eval h2, ha.eval h3]
 go_simp
theorem slh_29 {b o m c hi : Nat} (hx : evS σ x = some (.slice (some ⟨b, o, none⟩) m c)) (hh : evS σ y = some (.int .i64 (hi : Int))) (h2 : hi ≤ c) : Gives Try.prog n σ w ⟨dst, .slice 29 x none (some y) none, ty, pos, af, g⟩ (.slice (some ⟨b, o, none⟩) hi c) := fun a ha => by
 have k1 : (0 : Int) ≤ (hi : Int) := Int.natCast_nonneg _;have k3 : (hi : Int) ≤ (c : Int) := by omega
 simp only [execOp, Option.map_some, Option.map_none, ha.eval hx, ha.eval hh]
 by_cases e : c = 0
 ·subst e; obtain rfl : hi = 0 := by omega
  simp [go_sem]
 ·simp [go_sem, k1, k3, h2, e]
theorem cl_47  (a : Act) (_ : Env n σ a) : (execOp a.eval ⟨dst, .call { callee := .value (.func 47), args := #[], argTypes := at' }, ty, pos, af, g⟩).run Try.prog w = .ok (.enter 47 #[]) w := by
 simp only [execOp, resolve, List.map_toArray, List.map_nil]
 simp [go_sem, Act.eval]
theorem cl_33 {x0 x1 : Operand} {v0 v1 : Value} (h0 : evS σ x0 = some v0) (h1 : evS σ x1 = some v1) (a : Act) (ha : Env n σ a) : (execOp a.eval ⟨dst, .call { callee := .value (.func 33), args := #[x0, x1], argTypes := at' }, ty, pos, af, g⟩).run Try.prog w = .ok (.enter 33 #[v0, v1]) w := by
 simp only [execOp, resolve, List.map_toArray, List.map_cons, List.map_nil, ha.eval h0, ha.eval h1]
 simp [go_sem, Act.eval]
theorem cl_13 {x0 x1 : Operand} {v0 v1 : Value} (h0 : evS σ x0 = some v0) (h1 : evS σ x1 = some v1) (a : Act) (ha : Env n σ a) : (execOp a.eval ⟨dst, .call { callee := .value (.func 13), args := #[x0, x1], argTypes := at' }, ty, pos, af, g⟩).run Try.prog w = .ok (.enter 13 #[v0, v1]) w := by
 simp only [execOp, resolve, List.map_toArray, List.map_cons, List.map_nil, ha.eval h0, ha.eval h1]
 simp [go_sem, Act.eval]
theorem cl_16 {x0 x1 : Operand} {v0 v1 : Value} (h0 : evS σ x0 = some v0) (h1 : evS σ x1 = some v1) (a : Act) (ha : Env n σ a) : (execOp a.eval ⟨dst, .call { callee := .value (.func 16), args := #[x0, x1], argTypes := at' }, ty, pos, af, g⟩).run Try.prog w = .ok (.enter 16 #[v0, v1]) w := by
 simp only [execOp, resolve, List.map_toArray, List.map_cons, List.map_nil, ha.eval h0, ha.eval h1]
 simp [go_sem, Act.eval]
theorem cl_17 {x0 x1 : Operand} {v0 v1 : Value} (h0 : evS σ x0 = some v0) (h1 : evS σ x1 = some v1) (a : Act) (ha : Env n σ a) : (execOp a.eval ⟨dst, .call { callee := .value (.func 17), args := #[x0, x1], argTypes := at' }, ty, pos, af, g⟩).run Try.prog w = .ok (.enter 17 #[v0, v1]) w := by
 simp only [execOp, resolve, List.map_toArray, List.map_cons, List.map_nil, ha.eval h0, ha.eval h1]
 simp [go_sem, Act.eval]
theorem cl_24 {x0 x1 x2 : Operand} {v0 v1 v2 : Value} (h0 : evS σ x0 = some v0) (h1 : evS σ x1 = some v1) (h2 : evS σ x2 = some v2) (a : Act) (ha : Env n σ a) : (execOp a.eval ⟨dst, .call { callee := .value (.func 24), args := #[x0, x1, x2], argTypes := at' }, ty, pos, af, g⟩).run Try.prog w = .ok (.enter 24 #[v0, v1, v2]) w := by
 simp only [execOp, resolve, List.map_toArray, List.map_cons, List.map_nil, ha.eval h0, ha.eval h1, ha.eval h2]
 simp [go_sem, Act.eval]
theorem bs_29_1 {x0 : Operand} {v0_0 v0_1 : Value} (h0 : evS σ x0 = some (.agg #[v0_0, v0_1]))  (a : Act) (ha : Env n σ a) : (execOp a.eval ⟨dst, .buildSlice 29 1 #[(0, x0)], ty, pos, af, g⟩).run Try.prog w = .ok (.value (.slice (some ⟨w.heap.size, 0, none⟩) 1 1)) (w.alloc (.cells #[v0_0, v0_1] 50)) := by
 simp only [execOp, List.map_toArray, List.map_cons, List.map_nil, ha.eval h0]
 go_simp
theorem bs_96_2 {x0 x1 : Operand} {A0 A1 : Option Addr} {m0 c0 m1 c1 : Nat} (h0 : evS σ x0 = some (.slice A0 m0 c0)) (h1 : evS σ x1 = some (.slice A1 m1 c1)) (a : Act) (ha : Env n σ a) : (execOp a.eval ⟨dst, .buildSlice 96 2 #[(0, x0), (1, x1)], ty, pos, af, g⟩).run Try.prog w = .ok (.value (.slice (some ⟨w.heap.size, 0, none⟩) 2 2)) (w.alloc (.cells #[.slice A0 m0 c0, .slice A1 m1 c1] 29)) := by
 simp only [execOp, List.map_toArray, List.map_cons, List.map_nil, ha.eval h0, ha.eval h1]
 go_simp
theorem cl_38 {x0 x1 x2 : Operand} {v0 v1 v2 : Value} (h0 : evS σ x0 = some v0) (h1 : evS σ x1 = some v1) (h2 : evS σ x2 = some v2) (a : Act) (ha : Env n σ a) : (execOp a.eval ⟨dst, .call { callee := .value (.func 38), args := #[x0, x1, x2], argTypes := at' }, ty, pos, af, g⟩).run Try.prog w = .ok (.enter 38 #[v0, v1, v2]) w := by
 simp only [execOp, resolve, List.map_toArray, List.map_cons, List.map_nil, ha.eval h0, ha.eval h1, ha.eval h2]
 simp [go_sem, Act.eval]
theorem ln_32 {A : Option Addr} {m c : Nat} (hx : evS σ x = some (.slice A m c)) : Gives Try.prog n σ w ⟨dst, .call { callee := .builtin .len, args := #[x], argTypes := #[32] }, ty, pos, af, g⟩ (.int .i64 (m : Int)) := fun a ha => by
 simp only [execOp, resolve, List.map_toArray, List.map_cons, List.map_nil, ha.eval hx]
 simp [go_sem]
theorem ld_46 {b o : Nat} {v0 v1 v2 : Value} (hx : evS σ x = some (.pointer (some ⟨b, o, none⟩))) (c0 : w.cell? ⟨b, o, none⟩ = some v0) (c1 : w.cell? ⟨b, o + 1, none⟩ = some v1) (c2 : w.cell? ⟨b, o + 2, none⟩ = some v2) : Gives Try.prog n σ w ⟨dst, .load 46 x, ty, pos, af, g⟩ (.agg #[v0, v1, v2]) := fun a ha => by
 simp only [execOp, ha.eval hx]
 simp [go_sem, c0, c1, c2]
theorem bd_46_0_2 {x0 x1 : Operand} {z0 : Int} {b1 : Bool} (h0 : evS σ x0 = some (.int .i64 z0)) (h1 : evS σ x1 = some (.bool b1)) : Gives Try.prog n σ w ⟨dst, .build 46 #[(0, x0), (2, x1)], ty, pos, af, g⟩ (.agg #[.int .i64 z0, .int .i64 0, .bool b1]) := fun a ha => by
 simp only [execOp, List.map_toArray, List.map_cons, List.map_nil, ha.eval h0, ha.eval h1]
 go_simp
theorem bd_70_1 {x0 : Operand} {z0 : Int} (h0 : evS σ x0 = some (.int .i64 z0)) : Gives Try.prog n σ w ⟨dst, .build 70 #[(1, x0)], ty, pos, af, g⟩ (.agg #[.int .i64 0, .int .i64 z0]) := fun a ha => by
 simp only [execOp, List.map_toArray, List.map_cons, List.map_nil, ha.eval h0]
 go_simp
end
theorem mono_th {k : Nat} : Mono fun r w => ∃ vl va vp vk ua up, r k = rulesV vl va vp vk three ∧ RdRules w w.heap.size vl va vp vk three ua up := fun _ _ _ hb ⟨vl, va, vp, vk, ua, up, h1, h2⟩ => ⟨vl, va, vp, vk, ua, up, h1, (h2.below hb).more hb.size⟩
theorem rd_pre {w : World} {B n c m : Nat} {A : Option Addr} {l : List Ev} (h : Rd w B 2 (.slice A n c) n (evsC l)) (hm : m ≤ n) : Rd w B 2 (.slice A m c) (l.take m).length (evsC (l.take m)) := by
 have hl : l.length = n := by have := h.len; rw [evsC_len] at this; omega
 have hlm : (l.take m).length = m := by rw [List.length_take]; omega
 rw [hlm];obtain ⟨hl0, A', c', h8, hc, hrd⟩ := h
 injection h8 with h8 _ h9
 subst h8 h9;refine ⟨by rw [evsC_len, hlm], A, c, rfl, by omega, fun h0 => ?_⟩
 obtain ⟨b, off, e, hb, hcell⟩ := hrd (by omega)
 refine ⟨b, off, e, hb, fun j u hj => hcell j u ?_⟩
 have e2 : evsC l = evsC (l.take m) ++ evsC (l.drop m) := by
  unfold evsC
  rw [← List.flatMap_append, List.take_append_drop]
 rw [e2, List.getElem?_append_left (List.getElem?_eq_some_iff.1 hj).1]
 exact hj
theorem brs_cells (l : List Br) (k : Nat) (hk : k < l.length) (w : World) (B : Nat) (A : Option Addr) (n c : Nat) (hr : Rd w B 3 (.slice A n c) n (brsC l)) :
  ∃ b off, A = some ⟨b, off, none⟩ ∧ b < B ∧ w.cell? ⟨b, off + k * 3, none⟩ = some (.int .i64 ((l.getD k ⟨0, 0, false⟩).event : Nat)) ∧ w.cell? ⟨b, off + k * 3 + 1, none⟩ = some (.int .i64 ((l.getD k ⟨0, 0, false⟩).cargo : Nat)) ∧ w.cell? ⟨b, off + k * 3 + 2, none⟩ = some (.bool (l.getD k ⟨0, 0, false⟩).sure) := by
 have hl : n * 3 = l.length * 3 := by rw [← hr.len]; exact flat_len brC_len l
 obtain ⟨b, off, rfl, hb, hc⟩ := hr.at_ (by omega)
 have e : l.getD k ⟨0, 0, false⟩ = l[k] := by simp [hk]
 rw [e];have g := fun j hj => flat_get brC_len l k hk j hj
 exact ⟨b, off, rfl, hb, hc (k * 3) _ (g 0 (by omega)), hc (k * 3 + 1) _ (g 1 (by omega)), hc (k * 3 + 2) _ (g 2 (by omega))⟩
theorem x_eqBr {n : Nat} {σ : Sg} {w : World} {dst : Option Tmp} {ty : TypeId} {pos : String} {af : Array Edge} {g : Option (Nat × Bool)} {x y : Operand} {a0 a1 b0 b1 : Int} {a2 b2 r : Bool} (hx : evS σ x = some (.agg #[.int .i64 a0, .int .i64 a1, .bool a2])) (hy : evS σ y = some (.agg #[.int .i64 b0, .int .i64 b1, .bool b2])) (hc : decide (a0 = b0 ∧ a1 = b1 ∧ a2 = b2) = r) : Gives Try.prog n σ w ⟨dst, .binOp .eql 46 x y 46, ty, pos, af, g⟩ (.bool r) := fun a ha => by
 subst hc
 simp only [execOp, ha.eval hx, ha.eval hy]
 go_simp
 repeat' split
 all_goals simp_all
set_option maxHeartbeats 4000000 in
theorem known_any (w : World) : Calls Try.prog 12 #[] w fun e w' => e = .returned (.bool true) ∧ Below w.heap.size w w' := by
 have hbw := Below.refl w.heap.size w;refine EC.enter 213 Try.func12 rfl rfl rfl (EC.seq (EC.region (EL.as rfl rfl (EL.nil (EX.seq (EC.seq (EC.region (EL.call (cl_46 rfl) rfl (lload_any _ _) ?_))))))))
 rintro e w1 ⟨rfl, hc1⟩
 refine ⟨_, rfl, ?_⟩;replace hbw := bo_ hbw hc1;clear hc1;refine EL.call (cl_45 rfl) rfl (lclean_any _ _) ?_
 rintro e w2 ⟨rfl, hc2⟩
 refine ⟨_, rfl, ?_⟩;replace hbw := bo_ hbw hc2;clear hc2;refine EL.call (cl_46 rfl) rfl (lload_any _ _) ?_
 rintro e w3 ⟨rfl, hc3⟩
 refine ⟨_, rfl, ?_⟩;replace hbw := bo_ hbw hc3;clear hc3;refine EL.call (cl_45 rfl) rfl (lclean_any _ _) ?_
 rintro e w4 ⟨rfl, hc4⟩
 refine ⟨_, rfl, ?_⟩;replace hbw := bo_ hbw hc4;clear hc4;refine EL.newS (bs_29_4 rfl rfl rfl rfl) rfl ?_;intro g5 w5 q5 hb5 hg5 hl5;have bhbw_5 := Nat.le_trans hbw.size hg5;replace hbw := bo_ hbw hb5;clear hb5 hg5 hl5;have hE : Rd w5 w5.heap.size 2 (.slice (some ⟨g5, 0, none⟩) 4 4) lK.length (evsC lK) := rd_blk (k := 4) (l := [.int .i64 1, .int .i64 0, .int .i64 2, .int .i64 0, .int .i64 1, .int .i64 2, .int .i64 2, .int .i64 1]) q5 rfl;refine EL.as rfl rfl (EL.nil (EX.seq (EC.seq ?_)));refine EC.regionP [[], [], [1], [0, 1, 2], [0, 1, 2, 3], [0, 1, 2, 3, 4], [0, 1, 2, 3, 4], [0, 1, 2, 3, 4, 5], [0, 1, 2, 3, 4, 5, 6, 7]] 8 [] (phi (fun i_ r => match i_ with | 1 => r 1 = .slice (some ⟨g5, 0, none⟩) 4 4 | 2 => r 2 = .slice (some ⟨g5, 0, none⟩) 3 4 | 6 => r 6 = .int .i64 0 | _ => True) [(0, fun r w_ => ∃ vl va vp vk ua up, r 0 = rulesV vl va vp vk three ∧ RdRules w_ w_.heap.size vl va vp vk three ua up), (3, fun r w_ => ∃ A c, r 3 = .tuple #[.slice A 3 c, .int .i64 0] ∧ w_.ownsRow w.heap.size 24 2 (.slice A 3 c) 3 (bdsC [⟨40, 60⟩, ⟨0, 0⟩, ⟨40, 40⟩])), (4, fun r w_ => ∃ A c, r 4 = .tuple #[.slice A 3 c, .int .i64 0] ∧ w_.ownsRow w.heap.size 24 2 (.slice A 3 c) 3 (bdsC [⟨40, 60⟩, ⟨0, 0⟩, ⟨40, 40⟩])), (5, fun r w_ => ∃ A c, r 5 = .slice A 3 c ∧ w_.ownsRow w.heap.size 24 2 (.slice A 3 c) 3 (bdsC [⟨40, 60⟩, ⟨0, 0⟩, ⟨40, 40⟩])), (7, fun r w_ => ∃ A c, r 7 = .slice A 3 c ∧ w_.ownsRow w.heap.size 24 2 (.slice A 3 c) 3 (bdsC [⟨40, 60⟩, ⟨0, 0⟩, ⟨40, 40⟩]))]) (by kernel_rfl) rfl rfl (phi_cons mono_th (phi_cons (mono_cp (f := fun A c => .tuple #[.slice A 3 c, .int .i64 0])) (phi_cons (mono_cp (f := fun A c => .tuple #[.slice A 3 c, .int .i64 0])) (phi_cons (mono_cp (f := fun A c => .slice A 3 c)) (phi_cons (mono_cp (f := fun A c => .slice A 3 c)) (phi_nil)))))) (fun i_ hi_ => ?_) ?_
 ·match i_, hi_ with
  | 0, _ =>
   intro val w1 a hb ha hd;have ha := ha.sub (Sub.nil _);refine hs_call ha rfl rfl cl_47 (three_any _) rfl ?_
   rintro e w' ⟨⟨vl, va, vp, vk, ua, up, rfl, hR⟩, hb'⟩
   exact ⟨_, rfl, hb', ⟨vl, va, vp, vk, ua, up, rfl, hR⟩⟩
  | 1, _ =>
   intro val w1 a hb ha hd;have ha := ha.s0 (d := 1) rfl
   exact hs_val ha rfl rfl (x_move rfl) rfl rfl
  | 2, _ =>
   intro val w1 a hb ha hd;have e1 : val 1 = .slice (some ⟨g5, 0, none⟩) 4 4 := hd 1 (memB_mem.1 rfl);have ha := ha.s1 (d := 31) rfl e1
   exact hs_val ha rfl rfl (slh_29 (hi := 3) rfl rfl (by decide)) rfl rfl
  | 3, _ =>
   intro val w1 a hb ha hd;obtain ⟨vl0_, va0_, vp0_, vk0_, ua0_, up0_, e0, hR0_⟩ := hd 0 (memB_mem.1 rfl);have e2 : val 2 = .slice (some ⟨g5, 0, none⟩) 3 4 := hd 2 (memB_mem.1 rfl);have ha := ha.s2 (d := 32) (e := 30) rfl e2 rfl e0;refine hs_call ha rfl rfl (cl_33 rfl rfl) (kRes hR0_ (Nat.le_refl _) (rd_pre (m := 3) ((hE.below hb).more hb.size) (by decide))) rfl ?_
   rintro e w' ⟨⟨u, rfl, ho⟩, hb'⟩
   obtain ⟨A, c9, rfl, _⟩ := (Rd.of_own ho).shape
   exact ⟨_, rfl, hb', ⟨A, c9, rfl, own_less ho (Nat.le_trans hbw.size hb.size)⟩⟩
  | 4, _ =>
   intro val w1 a hb ha hd;obtain ⟨A2_3, c2_3, e3, ho2_3⟩ := hd 3 (memB_mem.1 rfl);have ha := ha.s1 (d := 33) rfl e3
   exact hs_val ha rfl rfl (x_move rfl) ⟨A2_3, c2_3, rfl, ho2_3⟩ rfl
  | 5, _ =>
   intro val w1 a hb ha hd;obtain ⟨A2_4, c2_4, e4, ho2_4⟩ := hd 4 (memB_mem.1 rfl);have ha := ha.s1 (d := 29) rfl e4
   exact hs_val ha rfl rfl (x_extract rfl rfl) ⟨A2_4, c2_4, rfl, ho2_4⟩ rfl
  | 6, _ =>
   intro val w1 a hb ha hd;obtain ⟨A2_4, c2_4, e4, ho2_4⟩ := hd 4 (memB_mem.1 rfl);have ha := ha.s1 (d := 29) rfl e4
   exact hs_val ha rfl rfl (x_extract rfl rfl) rfl rfl
  | 7, _ =>
   intro val w1 a hb ha hd;obtain ⟨A2_5, c2_5, e5, ho2_5⟩ := hd 5 (memB_mem.1 rfl);have ha := ha.s1 (d := 34) rfl e5
   exact hs_val ha rfl rfl (x_assign rfl) ⟨A2_5, c2_5, rfl, ho2_5⟩ rfl
  | k + 8, h => exact absurd h (by omega)
 ·intro val wR2 hb halc hd
  obtain ⟨vl0_, va0_, vp0_, vk0_, ua0_, up0_, e0, hR0_⟩ := hd 0 (by omega)
  have e1 : val 1 = .slice (some ⟨g5, 0, none⟩) 4 4 := hd 1 (by omega)
  have e2 : val 2 = .slice (some ⟨g5, 0, none⟩) 3 4 := hd 2 (by omega)
  obtain ⟨A2_3, c2_3, e3, ho2_3⟩ := hd 3 (by omega)
  obtain ⟨A2_4, c2_4, e4, ho2_4⟩ := hd 4 (by omega)
  obtain ⟨A2_5, c2_5, e5, ho2_5⟩ := hd 5 (by omega)
  have e6 : val 6 = .int .i64 0 := hd 6 (by omega)
  obtain ⟨A2_7, c2_7, e7, ho2_7⟩ := hd 7 (by omega)
  refine EL.ends (cs := [rulesV vl0_ va0_ vp0_ vk0_ three, .slice (some ⟨g5, 0, none⟩) 4 4, .slice (some ⟨g5, 0, none⟩) 3 4, .tuple #[.slice A2_3 3 c2_3, .int .i64 0], .tuple #[.slice A2_4 3 c2_4, .int .i64 0], .slice A2_5 3 c2_5, .int .i64 0, .slice A2_7 3 c2_7]) ⟨e0, e1, e2, e3, e4, e5, e6, e7, trivial⟩ rfl ?_;replace hE := (hE.below hb).more hb.size;replace hbw := bo_ hbw hb;clear hb;have hr2 := ho2_7;clear ho2_3 ho2_4 ho2_5 ho2_7 hR0_;refine EL.as rfl rfl (EL.nil (EX.seq (EC.seq (EC.region (EL.call cl_47 rfl (three_any _) ?_)))))
  rintro e w6 ⟨⟨vl6, va6, vp6, vk6, ua6, up6, rfl, hR⟩, hc6⟩
  refine ⟨_, rfl, ?_⟩;replace hE := (hE.below hc6).more hc6.size;replace hr2 := own_below hr2 hc6 (Nat.le_refl _);replace hbw := bo_ hbw hc6;clear hc6;refine EL.mv rfl rfl (EL.call (cl_13 rfl rfl) rfl (kAud hR (Nat.le_refl _) hE) ?_)
  rintro e w7 ⟨⟨u7, rfl, ho7⟩, hc7⟩
  refine ⟨_, rfl, ?_⟩;have hrA := own_less ho7 hbw.size;clear ho7;replace hE := (hE.below hc7).more hc7.size;replace hr2 := own_below hr2 hc7 (Nat.le_refl _);replace hbw := bo_ hbw hc7;clear hc7 hR;obtain ⟨AhrA, chrA, rfl, _⟩ := (Rd.of_own hrA).shape;refine EL.mv rfl rfl (EL.val (x_extract rfl rfl) rfl (EL.val (x_extract rfl rfl) rfl (EL.as rfl rfl (EL.as rfl rfl (EL.nil (EX.seq (EC.seq (EC.region (EL.call cl_47 rfl (three_any _) ?_)))))))))
  rintro e w8 ⟨⟨vl8, va8, vp8, vk8, ua8, up8, rfl, hR⟩, hc8⟩
  refine ⟨_, rfl, ?_⟩;replace hE := (hE.below hc8).more hc8.size;replace hr2 := own_below hr2 hc8 (Nat.le_refl _);replace hrA := own_below hrA hc8 (Nat.le_refl _);replace hbw := bo_ hbw hc8;clear hc8;refine EL.mv rfl rfl (EL.call (cl_16 rfl rfl) rfl (kSlop hR (Nat.le_refl _) hE) ?_)
  rintro e w9 ⟨⟨u9, usS, rfl, ho9⟩, hc9⟩
  refine ⟨_, rfl, ?_⟩;have hS := ho9.less hbw.size;clear ho9;replace hE := (hE.below hc9).more hc9.size;replace hr2 := own_below hr2 hc9 (Nat.le_refl _);replace hrA := own_below hrA hc9 (Nat.le_refl _);replace hbw := bo_ hbw hc9;clear hc9 hR;obtain ⟨AS, cS, rfl, _⟩ := hS.rd.rd.shape;refine EL.mv rfl rfl (EL.val (x_extract rfl rfl) rfl (EL.val (x_extract rfl rfl) rfl (EL.as rfl rfl (EL.as rfl rfl (EL.nil (EX.seq (EC.seq (EC.region (EL.call cl_47 rfl (three_any _) ?_)))))))))
  rintro e w10 ⟨⟨vl10, va10, vp10, vk10, ua10, up10, rfl, hR⟩, hc10⟩
  refine ⟨_, rfl, ?_⟩;replace hE := (hE.below hc10).more hc10.size;replace hr2 := own_below hr2 hc10 (Nat.le_refl _);replace hrA := own_below hrA hc10 (Nat.le_refl _);replace hS := (hS.below hc10).more hc10.size;replace hbw := bo_ hbw hc10;clear hc10;refine EL.mv rfl rfl (EL.call (cl_17 rfl rfl) rfl (kBill hR (Nat.le_refl _) hE) ?_)
  rintro e w11 ⟨rfl, hc11⟩
  refine ⟨_, rfl, ?_⟩;replace hE := (hE.below hc11).more hc11.size;replace hr2 := own_below hr2 hc11 (Nat.le_refl _);replace hrA := own_below hrA hc11 (Nat.le_refl _);replace hS := (hS.below hc11).more hc11.size;replace hR := (hR.below hc11).more hc11.size;replace hbw := bo_ hbw hc11;clear hc11;clear hR;refine EL.mv rfl rfl (EL.val (x_extract rfl rfl) rfl (EL.val (x_extract rfl rfl) rfl (EL.val (x_extract rfl rfl) rfl (EL.val (x_extract rfl rfl) rfl (EL.as rfl rfl (EL.as rfl rfl (EL.as rfl rfl (EL.as rfl rfl (EL.nil ?_)))))))));refine EX.seq (EC.seq ?_);refine EC.regionP [[], [], [1], [], [0, 1, 2, 3], [0, 1, 2, 3, 4], [0, 1, 2, 3, 4, 5], [0, 1, 2, 3, 4, 5], [0, 1, 2, 3, 4, 5], [0, 1, 2, 3, 4, 5], [0, 1, 2, 3, 4, 5, 6], [0, 1, 2, 3, 4, 5, 6, 7, 10], [0, 1, 2, 3, 4, 5, 6, 7, 8, 10, 11], [0, 1, 2, 3, 4, 5, 6, 7, 8, 9, 10, 11, 12]] 13 [] (phi (fun i_ r => match i_ with | 1 => r 1 = .slice (some ⟨g5, 0, none⟩) 4 4 | 2 => r 2 = .slice (some ⟨g5, 0, none⟩) 1 4 | 7 => r 7 = .int .i64 90000 | 8 => r 8 = .int .i64 0 | 9 => r 9 = .int .i64 0 | 11 => r 11 = .int .i64 90000 | 12 => r 12 = .int .i64 0 | _ => True) [(0, fun r w_ => ∃ vl va vp vk ua up, r 0 = rulesV vl va vp vk three ∧ RdRules w_ w_.heap.size vl va vp vk three ua up), (3, fun r w_ => ∃ g_, r 3 = .slice (some ⟨g_, 0, none⟩) 2 2 ∧ Blk w_ g_ 3 #[.int .i64 2, .int .i64 1] ∧ w11.heap.size ≤ g_), (4, fun r w_ => ∃ A c, r 4 = .tuple #[.slice A 2 c, .int .i64 90000, .int .i64 0, .int .i64 0] ∧ w_.ownsRow w.heap.size 3 1 (.slice A 2 c) 2 (ints [1, -1])), (5, fun r w_ => ∃ A c, r 5 = .tuple #[.slice A 2 c, .int .i64 90000, .int .i64 0, .int .i64 0] ∧ w_.ownsRow w.heap.size 3 1 (.slice A 2 c) 2 (ints [1, -1])), (6, fun r w_ => ∃ A c, r 6 = .slice A 2 c ∧ w_.ownsRow w.heap.size 3 1 (.slice A 2 c) 2 (ints [1, -1])), (10, fun r w_ => ∃ A c, r 10 = .slice A 2 c ∧ w_.ownsRow w.heap.size 3 1 (.slice A 2 c) 2 (ints [1, -1]))]) (by kernel_rfl) rfl rfl (phi_cons mono_th (phi_cons mono_bs (phi_cons (mono_cp (f := fun A c => .tuple #[.slice A 2 c, .int .i64 90000, .int .i64 0, .int .i64 0])) (phi_cons (mono_cp (f := fun A c => .tuple #[.slice A 2 c, .int .i64 90000, .int .i64 0, .int .i64 0])) (phi_cons (mono_cp (f := fun A c => .slice A 2 c)) (phi_cons (mono_cp (f := fun A c => .slice A 2 c)) (phi_nil))))))) (fun i_ hi_ => ?_) ?_
  ·match i_, hi_ with
   | 0, _ =>
    intro val w1 a hb ha hd;have ha := ha.sub (Sub.nil _);refine hs_call ha rfl rfl cl_47 (three_any _) rfl ?_
    rintro e w' ⟨⟨vl, va, vp, vk, ua, up, rfl, hR⟩, hb'⟩
    exact ⟨_, rfl, hb', ⟨vl, va, vp, vk, ua, up, rfl, hR⟩⟩
   | 1, _ =>
    intro val w1 a hb ha hd;have ha := ha.s0 (d := 1) rfl
    exact hs_val ha rfl rfl (x_move rfl) rfl rfl
   | 2, _ =>
    intro val w1 a hb ha hd;have e1 : val 1 = .slice (some ⟨g5, 0, none⟩) 4 4 := hd 1 (memB_mem.1 rfl);have ha := ha.s1 (d := 58) rfl e1
    exact hs_val ha rfl rfl (slh_29 (hi := 1) rfl rfl (by decide)) rfl rfl
   | 3, _ =>
    intro val w1 a hb ha hd;have ha := ha.sub (Sub.nil _)
    exact hs_newS ha rfl rfl (bs_22_2 rfl rfl) rfl (fun g w' hq _ hge => ⟨g, rfl, hq, Nat.le_trans hb.size hge⟩)
   | 4, _ =>
    intro val w1 a hb ha hd;obtain ⟨vl0_, va0_, vp0_, vk0_, ua0_, up0_, e0, hR0_⟩ := hd 0 (memB_mem.1 rfl);have e2 : val 2 = .slice (some ⟨g5, 0, none⟩) 1 4 := hd 2 (memB_mem.1 rfl);obtain ⟨g3_, e3, q3_, h3_⟩ := hd 3 (memB_mem.1 rfl);change val 3 = _ at e3;have ha := ha.sub (Sub.ins (d := 60) (Sub.ins (d := 59) (Sub.ins (d := 57) (Sub.nil _) (dep_get rfl e0)) (dep_get rfl e2)) (dep_get rfl e3));refine hs_call ha rfl rfl (cl_24 rfl rfl rfl) (kPlan hR0_ (Nat.le_refl _) (rd_pre (m := 1) ((hE.below hb).more hb.size) (by decide)) (rd_blk (k := 2) (l := [.int .i64 2, .int .i64 1]) q3_ rfl)) rfl ?_
    rintro e w' ⟨⟨u, rfl, ho⟩, hb'⟩
    obtain ⟨A, c9, rfl, _⟩ := (Rd.of_own ho).shape
    exact ⟨_, rfl, hb', ⟨A, c9, rfl, own_less ho (Nat.le_trans hbw.size hb.size)⟩⟩
   | 5, _ =>
    intro val w1 a hb ha hd;obtain ⟨A6_4, c6_4, e4, ho6_4⟩ := hd 4 (memB_mem.1 rfl);have ha := ha.s1 (d := 61) rfl e4
    exact hs_val ha rfl rfl (x_move rfl) ⟨A6_4, c6_4, rfl, ho6_4⟩ rfl
   | 6, _ =>
    intro val w1 a hb ha hd;obtain ⟨A6_5, c6_5, e5, ho6_5⟩ := hd 5 (memB_mem.1 rfl);have ha := ha.s1 (d := 56) rfl e5
    exact hs_val ha rfl rfl (x_extract rfl rfl) ⟨A6_5, c6_5, rfl, ho6_5⟩ rfl
   | 7, _ =>
    intro val w1 a hb ha hd;obtain ⟨A6_5, c6_5, e5, ho6_5⟩ := hd 5 (memB_mem.1 rfl);have ha := ha.s1 (d := 56) rfl e5
    exact hs_val ha rfl rfl (x_extract rfl rfl) rfl rfl
   | 8, _ =>
    intro val w1 a hb ha hd;obtain ⟨A6_5, c6_5, e5, ho6_5⟩ := hd 5 (memB_mem.1 rfl);have ha := ha.s1 (d := 56) rfl e5
    exact hs_val ha rfl rfl (x_extract rfl rfl) rfl rfl
   | 9, _ =>
    intro val w1 a hb ha hd;obtain ⟨A6_5, c6_5, e5, ho6_5⟩ := hd 5 (memB_mem.1 rfl);have ha := ha.s1 (d := 56) rfl e5
    exact hs_val ha rfl rfl (x_extract rfl rfl) rfl rfl
   | 10, _ =>
    intro val w1 a hb ha hd;obtain ⟨A6_6, c6_6, e6, ho6_6⟩ := hd 6 (memB_mem.1 rfl);have ha := ha.s1 (d := 62) rfl e6
    exact hs_val ha rfl rfl (x_assign rfl) ⟨A6_6, c6_6, rfl, ho6_6⟩ rfl
   | 11, _ =>
    intro val w1 a hb ha hd;have e7 : val 7 = .int .i64 90000 := hd 7 (memB_mem.1 rfl);have ha := ha.s1 (d := 63) rfl e7
    exact hs_val ha rfl rfl (x_assign rfl) rfl rfl
   | 12, _ =>
    intro val w1 a hb ha hd;have e8 : val 8 = .int .i64 0 := hd 8 (memB_mem.1 rfl);have ha := ha.s1 (d := 64) rfl e8
    exact hs_val ha rfl rfl (x_assign rfl) rfl rfl
   | k + 13, h => exact absurd h (by omega)
  ·intro val wR6 hb halc hd
   obtain ⟨vl0_, va0_, vp0_, vk0_, ua0_, up0_, e0, hR0_⟩ := hd 0 (by omega)
   have e1 : val 1 = .slice (some ⟨g5, 0, none⟩) 4 4 := hd 1 (by omega)
   have e2 : val 2 = .slice (some ⟨g5, 0, none⟩) 1 4 := hd 2 (by omega)
   obtain ⟨ga3_6, e3, qa3_6, hga3_6⟩ := hd 3 (by omega)
   change val 3 = _ at e3;change Blk wR6 ga3_6 3 #[.int .i64 2, .int .i64 1] at qa3_6;obtain ⟨A6_4, c6_4, e4, ho6_4⟩ := hd 4 (by omega)
   obtain ⟨A6_5, c6_5, e5, ho6_5⟩ := hd 5 (by omega)
   obtain ⟨A6_6, c6_6, e6, ho6_6⟩ := hd 6 (by omega)
   have e7 : val 7 = .int .i64 90000 := hd 7 (by omega)
   have e8 : val 8 = .int .i64 0 := hd 8 (by omega)
   have e9 : val 9 = .int .i64 0 := hd 9 (by omega)
   obtain ⟨A6_10, c6_10, e10, ho6_10⟩ := hd 10 (by omega)
   have e11 : val 11 = .int .i64 90000 := hd 11 (by omega)
   have e12 : val 12 = .int .i64 0 := hd 12 (by omega)
   refine EL.ends (cs := [rulesV vl0_ va0_ vp0_ vk0_ three, .slice (some ⟨g5, 0, none⟩) 4 4, .slice (some ⟨g5, 0, none⟩) 1 4, .slice (some ⟨ga3_6, 0, none⟩) 2 2, .tuple #[.slice A6_4 2 c6_4, .int .i64 90000, .int .i64 0, .int .i64 0], .tuple #[.slice A6_5 2 c6_5, .int .i64 90000, .int .i64 0, .int .i64 0], .slice A6_6 2 c6_6, .int .i64 90000, .int .i64 0, .int .i64 0, .slice A6_10 2 c6_10, .int .i64 90000, .int .i64 0]) ⟨e0, e1, e2, e3, e4, e5, e6, e7, e8, e9, e10, e11, e12, trivial⟩ rfl ?_;replace hE := (hE.below hb).more hb.size;replace hr2 := own_below hr2 hb (Nat.le_refl _);replace hrA := own_below hrA hb (Nat.le_refl _);replace hS := (hS.below hb).more hb.size;have bhbw_12 := Nat.le_trans hbw.size hga3_6;replace hbw := bo_ hbw hb;clear hb;have hr6 := ho6_10;clear ho6_4 ho6_5 ho6_6 ho6_10 hR0_;refine EL.as rfl rfl (EL.nil (EX.seq (EC.seq (EC.region (EL.call cl_47 rfl (three_any _) ?_)))))
   rintro e w13 ⟨⟨vl13, va13, vp13, vk13, ua13, up13, rfl, hR⟩, hc13⟩
   refine ⟨_, rfl, ?_⟩;replace hE := (hE.below hc13).more hc13.size;replace hr2 := own_below hr2 hc13 (Nat.le_refl _);replace hrA := own_below hrA hc13 (Nat.le_refl _);replace hS := (hS.below hc13).more hc13.size;replace hr6 := own_below hr6 hc13 (Nat.le_refl _);replace hbw := bo_ hbw hc13;clear hc13;refine EL.call (cl_46 rfl) rfl (lload_any _ _) ?_
   rintro e w14 ⟨rfl, hc14⟩
   refine ⟨_, rfl, ?_⟩;replace hE := (hE.below hc14).more hc14.size;replace hr2 := own_below hr2 hc14 (Nat.le_refl _);replace hrA := own_below hrA hc14 (Nat.le_refl _);replace hS := (hS.below hc14).more hc14.size;replace hr6 := own_below hr6 hc14 (Nat.le_refl _);replace hR := (hR.below hc14).more hc14.size;replace hbw := bo_ hbw hc14;clear hc14;refine EL.newS (bs_29_1 rfl) rfl ?_;intro g15 w15 q15 hb15 hg15 hl15;have bhbw_15 := Nat.le_trans hbw.size hg15;replace hE := (hE.below hb15).more hb15.size;replace hr2 := own_below hr2 hb15 (Nat.le_refl _);replace hrA := own_below hrA hb15 (Nat.le_refl _);replace hS := (hS.below hb15).more hb15.size;replace hr6 := own_below hr6 hb15 (Nat.le_refl _);replace hR := (hR.below hb15).more hb15.size;replace hbw := bo_ hbw hb15;clear hb15 hg15 hl15;refine EL.call (cl_46 rfl) rfl (lload_any _ _) ?_
   rintro e w16 ⟨rfl, hc16⟩
   refine ⟨_, rfl, ?_⟩;replace q15 := q15.bl hc16;replace hE := (hE.below hc16).more hc16.size;replace hr2 := own_below hr2 hc16 (Nat.le_refl _);replace hrA := own_below hrA hc16 (Nat.le_refl _);replace hS := (hS.below hc16).more hc16.size;replace hr6 := own_below hr6 hc16 (Nat.le_refl _);replace hR := (hR.below hc16).more hc16.size;replace hbw := bo_ hbw hc16;clear hc16;refine EL.newS (bs_29_1 rfl) rfl ?_;intro g17 w17 q17 hb17 hg17 hl17;have n15_17 := q15.na hg17;have bhbw_17 := Nat.le_trans hbw.size hg17;replace q15 := q15.bl hb17;replace hE := (hE.below hb17).more hb17.size;replace hr2 := own_below hr2 hb17 (Nat.le_refl _);replace hrA := own_below hrA hb17 (Nat.le_refl _);replace hS := (hS.below hb17).more hb17.size;replace hr6 := own_below hr6 hb17 (Nat.le_refl _);replace hR := (hR.below hb17).more hb17.size;replace hbw := bo_ hbw hb17;clear hb17 hg17 hl17;refine EL.newS (bs_96_2 rfl rfl) rfl ?_;intro g18 w18 q18 hb18 hg18 hl18;have n15_18 := q15.na hg18;have n17_18 := q17.na hg18;have bhbw_18 := Nat.le_trans hbw.size hg18;replace q15 := q15.bl hb18;replace q17 := q17.bl hb18;replace hE := (hE.below hb18).more hb18.size;replace hr2 := own_below hr2 hb18 (Nat.le_refl _);replace hrA := own_below hrA hb18 (Nat.le_refl _);replace hS := (hS.below hb18).more hb18.size;replace hr6 := own_below hr6 hb18 (Nat.le_refl _);replace hR := (hR.below hb18).more hb18.size;replace hbw := bo_ hbw hb18;clear hb18 hg18 hl18;refine EL.newS (bs_22_2 rfl rfl) rfl ?_;intro g19 w19 q19 hb19 hg19 hl19;have n15_19 := q15.na hg19;have n17_19 := q17.na hg19;have n18_19 := q18.na hg19;have bhbw_19 := Nat.le_trans hbw.size hg19;replace q15 := q15.bl hb19;replace q17 := q17.bl hb19;replace q18 := q18.bl hb19;replace hE := (hE.below hb19).more hb19.size;replace hr2 := own_below hr2 hb19 (Nat.le_refl _);replace hrA := own_below hrA hb19 (Nat.le_refl _);replace hS := (hS.below hb19).more hb19.size;replace hr6 := own_below hr6 hb19 (Nat.le_refl _);replace hR := (hR.below hb19).more hb19.size;replace hbw := bo_ hbw hb19;clear hb19 hg19 hl19;have hT : RdLL evC 2 w19 w19.heap.size (.slice (some ⟨g18, 0, none⟩) 2 2) tK [.slice (some ⟨g15, 0, none⟩) 1 1, .slice (some ⟨g17, 0, none⟩) 1 1] := ⟨rfl, rd_blk (k := 2) (l := [.slice (some ⟨g15, 0, none⟩) 1 1, .slice (some ⟨g17, 0, none⟩) 1 1]) q18 rfl, fun i hi => by (have hi : i < 2 := hi); exact (match i, hi with | 0, _ => rd_blk (k := 1) (l := [.int .i64 1, .int .i64 0]) q15 rfl | 1, _ => rd_blk (k := 1) (l := [.int .i64 1, .int .i64 1]) q17 rfl)⟩
   have hJ := rd_blk (size := 1) (k := 2) (l := [.int .i64 2, .int .i64 1]) q19 rfl;refine EL.call (cl_38 rfl rfl rfl) rfl (kFleet hR (Nat.le_refl _) hT hJ) ?_
   rintro e w20 ⟨⟨u20, rfl, ho20⟩, hc20⟩
   refine ⟨_, rfl, ?_⟩;have hrF := own_less ho20 hbw.size;clear ho20;replace hE := (hE.below hc20).more hc20.size;replace hr2 := own_below hr2 hc20 (Nat.le_refl _);replace hrA := own_below hrA hc20 (Nat.le_refl _);replace hS := (hS.below hc20).more hc20.size;replace hr6 := own_below hr6 hc20 (Nat.le_refl _);replace hbw := bo_ hbw hc20;clear hc20 hR;obtain ⟨AhrF, chrF, rfl, _⟩ := (Rd.of_own hrF).shape;refine EL.mv rfl rfl (EL.val (x_extract rfl rfl) rfl (EL.val (x_extract rfl rfl) rfl (EL.val (x_extract rfl rfl) rfl (EL.val (x_extract rfl rfl) rfl (EL.as rfl rfl (EL.as rfl rfl (EL.as rfl rfl (EL.as rfl rfl (EL.nil ?_)))))))));refine EX.seq (EC.seq ?_);refine EC.regionP [[], [], [1], [], [0, 1, 2, 3], [0, 1, 2, 3, 4], [0, 1, 2, 3, 4, 5], [0, 1, 2, 3, 4, 5], [0, 1, 2, 3, 4, 5], [0, 1, 2, 3, 4, 5], [0, 1, 2, 3, 4, 5, 6], [0, 1, 2, 3, 4, 5, 6, 7, 10], [0, 1, 2, 3, 4, 5, 6, 7, 8, 10, 11], [0, 1, 2, 3, 4, 5, 6, 7, 8, 9, 10, 11, 12]] 13 [] (phi (fun i_ r => match i_ with | 1 => r 1 = .slice (some ⟨g5, 0, none⟩) 4 4 | 2 => r 2 = .slice (some ⟨g5, 0, none⟩) 1 4 | 7 => r 7 = .int .i64 0 | 8 => r 8 = .int .i64 0 | 9 => r 9 = .int .i64 7 | 11 => r 11 = .int .i64 0 | 12 => r 12 = .int .i64 0 | _ => True) [(0, fun r w_ => ∃ vl va vp vk ua up, r 0 = rulesV vl va vp vk three ∧ RdRules w_ w_.heap.size vl va vp vk three ua up), (3, fun r w_ => ∃ g_, r 3 = .slice (some ⟨g_, 0, none⟩) 1 1 ∧ Blk w_ g_ 3 #[.int .i64 1] ∧ w20.heap.size ≤ g_), (4, fun r w_ => ∃ A c, r 4 = .tuple #[.slice A 0 c, .int .i64 0, .int .i64 0, .int .i64 7] ∧ w_.ownsRow w.heap.size 3 1 (.slice A 0 c) 0 []), (5, fun r w_ => ∃ A c, r 5 = .tuple #[.slice A 0 c, .int .i64 0, .int .i64 0, .int .i64 7] ∧ w_.ownsRow w.heap.size 3 1 (.slice A 0 c) 0 []), (6, fun r w_ => ∃ A c, r 6 = .slice A 0 c ∧ w_.ownsRow w.heap.size 3 1 (.slice A 0 c) 0 []), (10, fun r w_ => ∃ A c, r 10 = .slice A 0 c ∧ w_.ownsRow w.heap.size 3 1 (.slice A 0 c) 0 [])]) (by kernel_rfl) rfl rfl (phi_cons mono_th (phi_cons mono_bs (phi_cons (mono_cp (f := fun A c => .tuple #[.slice A 0 c, .int .i64 0, .int .i64 0, .int .i64 7])) (phi_cons (mono_cp (f := fun A c => .tuple #[.slice A 0 c, .int .i64 0, .int .i64 0, .int .i64 7])) (phi_cons (mono_cp (f := fun A c => .slice A 0 c)) (phi_cons (mono_cp (f := fun A c => .slice A 0 c)) (phi_nil))))))) (fun i_ hi_ => ?_) ?_
   ·match i_, hi_ with
    | 0, _ =>
     intro val w1 a hb ha hd;have ha := ha.sub (Sub.nil _);refine hs_call ha rfl rfl cl_47 (three_any _) rfl ?_
     rintro e w' ⟨⟨vl, va, vp, vk, ua, up, rfl, hR⟩, hb'⟩
     exact ⟨_, rfl, hb', ⟨vl, va, vp, vk, ua, up, rfl, hR⟩⟩
    | 1, _ =>
     intro val w1 a hb ha hd;have ha := ha.s0 (d := 1) rfl
     exact hs_val ha rfl rfl (x_move rfl) rfl rfl
    | 2, _ =>
     intro val w1 a hb ha hd;have e1 : val 1 = .slice (some ⟨g5, 0, none⟩) 4 4 := hd 1 (memB_mem.1 rfl);have ha := ha.s1 (d := 81) rfl e1
     exact hs_val ha rfl rfl (slh_29 (hi := 1) rfl rfl (by decide)) rfl rfl
    | 3, _ =>
     intro val w1 a hb ha hd;have ha := ha.sub (Sub.nil _)
     exact hs_newS ha rfl rfl (bs_22_1 rfl) rfl (fun g w' hq _ hge => ⟨g, rfl, hq, Nat.le_trans hb.size hge⟩)
    | 4, _ =>
     intro val w1 a hb ha hd;obtain ⟨vl0_, va0_, vp0_, vk0_, ua0_, up0_, e0, hR0_⟩ := hd 0 (memB_mem.1 rfl);have e2 : val 2 = .slice (some ⟨g5, 0, none⟩) 1 4 := hd 2 (memB_mem.1 rfl);obtain ⟨g3_, e3, q3_, h3_⟩ := hd 3 (memB_mem.1 rfl);change val 3 = _ at e3;have ha := ha.sub (Sub.ins (d := 83) (Sub.ins (d := 82) (Sub.ins (d := 80) (Sub.nil _) (dep_get rfl e0)) (dep_get rfl e2)) (dep_get rfl e3));refine hs_call ha rfl rfl (cl_24 rfl rfl rfl) (kPlan1 hR0_ (Nat.le_refl _) (rd_pre (m := 1) ((hE.below hb).more hb.size) (by decide)) (rd_blk (k := 1) (l := [.int .i64 1]) q3_ rfl)) rfl ?_
     rintro e w' ⟨⟨u, rfl, ho⟩, hb'⟩
     obtain ⟨A, c9, rfl, _⟩ := (Rd.of_own ho).shape
     exact ⟨_, rfl, hb', ⟨A, c9, rfl, own_less ho (Nat.le_trans hbw.size hb.size)⟩⟩
    | 5, _ =>
     intro val w1 a hb ha hd;obtain ⟨A8_4, c8_4, e4, ho8_4⟩ := hd 4 (memB_mem.1 rfl);have ha := ha.s1 (d := 84) rfl e4
     exact hs_val ha rfl rfl (x_move rfl) ⟨A8_4, c8_4, rfl, ho8_4⟩ rfl
    | 6, _ =>
     intro val w1 a hb ha hd;obtain ⟨A8_5, c8_5, e5, ho8_5⟩ := hd 5 (memB_mem.1 rfl);have ha := ha.s1 (d := 79) rfl e5
     exact hs_val ha rfl rfl (x_extract rfl rfl) ⟨A8_5, c8_5, rfl, ho8_5⟩ rfl
    | 7, _ =>
     intro val w1 a hb ha hd;obtain ⟨A8_5, c8_5, e5, ho8_5⟩ := hd 5 (memB_mem.1 rfl);have ha := ha.s1 (d := 79) rfl e5
     exact hs_val ha rfl rfl (x_extract rfl rfl) rfl rfl
    | 8, _ =>
     intro val w1 a hb ha hd;obtain ⟨A8_5, c8_5, e5, ho8_5⟩ := hd 5 (memB_mem.1 rfl);have ha := ha.s1 (d := 79) rfl e5
     exact hs_val ha rfl rfl (x_extract rfl rfl) rfl rfl
    | 9, _ =>
     intro val w1 a hb ha hd;obtain ⟨A8_5, c8_5, e5, ho8_5⟩ := hd 5 (memB_mem.1 rfl);have ha := ha.s1 (d := 79) rfl e5
     exact hs_val ha rfl rfl (x_extract rfl rfl) rfl rfl
    | 10, _ =>
     intro val w1 a hb ha hd;obtain ⟨A8_6, c8_6, e6, ho8_6⟩ := hd 6 (memB_mem.1 rfl);have ha := ha.s1 (d := 85) rfl e6
     exact hs_val ha rfl rfl (x_assign rfl) ⟨A8_6, c8_6, rfl, ho8_6⟩ rfl
    | 11, _ =>
     intro val w1 a hb ha hd;have e7 : val 7 = .int .i64 0 := hd 7 (memB_mem.1 rfl);have ha := ha.s1 (d := 86) rfl e7
     exact hs_val ha rfl rfl (x_assign rfl) rfl rfl
    | 12, _ =>
     intro val w1 a hb ha hd;have e8 : val 8 = .int .i64 0 := hd 8 (memB_mem.1 rfl);have ha := ha.s1 (d := 87) rfl e8
     exact hs_val ha rfl rfl (x_assign rfl) rfl rfl
    | k + 13, h => exact absurd h (by omega)
   ·intro val wR8 hb halc hd
    obtain ⟨vl0_, va0_, vp0_, vk0_, ua0_, up0_, e0, hR0_⟩ := hd 0 (by omega)
    have e1 : val 1 = .slice (some ⟨g5, 0, none⟩) 4 4 := hd 1 (by omega)
    have e2 : val 2 = .slice (some ⟨g5, 0, none⟩) 1 4 := hd 2 (by omega)
    obtain ⟨ga3_8, e3, qa3_8, hga3_8⟩ := hd 3 (by omega)
    change val 3 = _ at e3;change Blk wR8 ga3_8 3 #[.int .i64 1] at qa3_8;obtain ⟨A8_4, c8_4, e4, ho8_4⟩ := hd 4 (by omega)
    obtain ⟨A8_5, c8_5, e5, ho8_5⟩ := hd 5 (by omega)
    obtain ⟨A8_6, c8_6, e6, ho8_6⟩ := hd 6 (by omega)
    have e7 : val 7 = .int .i64 0 := hd 7 (by omega)
    have e8 : val 8 = .int .i64 0 := hd 8 (by omega)
    have e9 : val 9 = .int .i64 7 := hd 9 (by omega)
    obtain ⟨A8_10, c8_10, e10, ho8_10⟩ := hd 10 (by omega)
    have e11 : val 11 = .int .i64 0 := hd 11 (by omega)
    have e12 : val 12 = .int .i64 0 := hd 12 (by omega)
    refine EL.ends (cs := [rulesV vl0_ va0_ vp0_ vk0_ three, .slice (some ⟨g5, 0, none⟩) 4 4, .slice (some ⟨g5, 0, none⟩) 1 4, .slice (some ⟨ga3_8, 0, none⟩) 1 1, .tuple #[.slice A8_4 0 c8_4, .int .i64 0, .int .i64 0, .int .i64 7], .tuple #[.slice A8_5 0 c8_5, .int .i64 0, .int .i64 0, .int .i64 7], .slice A8_6 0 c8_6, .int .i64 0, .int .i64 0, .int .i64 7, .slice A8_10 0 c8_10, .int .i64 0, .int .i64 0]) ⟨e0, e1, e2, e3, e4, e5, e6, e7, e8, e9, e10, e11, e12, trivial⟩ rfl ?_;replace hE := (hE.below hb).more hb.size;replace hr2 := own_below hr2 hb (Nat.le_refl _);replace hrA := own_below hrA hb (Nat.le_refl _);replace hS := (hS.below hb).more hb.size;replace hr6 := own_below hr6 hb (Nat.le_refl _);replace hrF := own_below hrF hb (Nat.le_refl _);have bhbw_21 := Nat.le_trans hbw.size hga3_8;replace hbw := bo_ hbw hb;clear hb;have hr8 := ho8_10;clear ho8_4 ho8_5 ho8_6 ho8_10 hR0_;refine EL.as rfl rfl (EL.nil (EX.seq (EC.seq (EC.seq (EC.region ?_)))));have h1S : 1 < (slopE three lK).length := by rw [three_slop.1]; decide
    obtain ⟨bS, oS, eS, _, hsc⟩ := vals_cells usS 1 (by rw [hS.len]; exact h1S) wR8 wR8.heap.size _ _ _ hS.rd.rd
    have hSr := hS.rd.row 1 h1S;rw [← ints_flat] at hSr;obtain ⟨AS1, cS1, eS1, _⟩ := hSr.shape;rw [eS1] at hsc hSr;obtain ⟨bS1, oS1, eA1, _, hs1⟩ := ints_cells _ 1 (by rw [three_slop.2]; decide) wR8 wR8.heap.size _ _ _ hSr
    rw [three_slop.2] at hs1;obtain ⟨b2, o2, eR2, _, r0, r1⟩ := bds_cells _ 0 (by decide) wR8 wR8.heap.size _ _ _ (Rd.of_own hr2)
    obtain ⟨bA, oA, eAA, _, a0, a1, a2⟩ := brs_cells _ 0 (by decide) wR8 wR8.heap.size _ _ _ (Rd.of_own hrA)
    obtain ⟨b6, o6, eR6, _, p0⟩ := ints_cells [1, -1] 0 (by decide) wR8 wR8.heap.size _ _ _ (Rd.of_own hr6)
    obtain ⟨b6b, o6b, eR6b, _, p1⟩ := ints_cells [1, -1] 1 (by decide) wR8 wR8.heap.size _ _ _ (Rd.of_own hr6)
    obtain ⟨bF, oF, eRF, _, f0, f1⟩ := sts_cells _ 0 (by decide) wR8 wR8.heap.size _ _ _ (Rd.of_own hrF)
    obtain ⟨bFb, oFb, eRFb, _, f2, f3⟩ := sts_cells _ 1 (by decide) wR8 wR8.heap.size _ _ _ (Rd.of_own hrF)
    refine EL.mv rfl rfl ?_;refine EL.val (x_neq (r := false) rfl rfl (decide_eq_false (by decide))) rfl ?_
    refine EL.mv rfl rfl (EL.valg rfl rfl (x_move rfl) rfl ?_);refine EL.valg rfl rfl (x_neq (r := false) rfl rfl (decide_eq_false (by decide))) rfl ?_
    refine EL.val (x_pick_f rfl rfl) rfl (EL.mv rfl rfl (EL.valg rfl rfl (x_move rfl) rfl ?_));refine EL.valg rfl rfl (x_neq (r := false) rfl rfl (decide_eq_false (by decide))) rfl ?_
    refine EL.val (x_pick_f rfl rfl) rfl (EL.mv rfl rfl (EL.valg rfl rfl (x_move rfl) rfl ?_));refine EL.valg rfl rfl (x_neq (r := false) rfl rfl (decide_eq_false (by decide))) rfl ?_
    refine EL.val (x_pick_f rfl rfl) rfl (EL.mv rfl rfl (EL.valg rfl rfl (x_move rfl) rfl ?_));refine EL.valg rfl rfl (x_neq (r := false) rfl rfl (decide_eq_false (by decide))) rfl ?_
    refine EL.val (x_pick_f rfl rfl) rfl (EL.mv rfl rfl (EL.valg rfl rfl (x_move rfl) rfl ?_));refine EL.valg rfl rfl (x_neq (r := false) rfl rfl (decide_eq_false (by decide))) rfl ?_
    refine EL.val (x_pick_f rfl rfl) rfl (EL.mv rfl rfl (EL.valg rfl rfl (x_move rfl) rfl ?_));refine EL.valg rfl rfl (x_neq (r := false) rfl rfl (decide_eq_false (by decide))) rfl ?_
    refine EL.val (x_pick_f rfl rfl) rfl (EL.mv rfl rfl (EL.valg rfl rfl (x_move rfl) rfl ?_));refine EL.valg rfl rfl (x_neq (r := false) rfl rfl (decide_eq_false (by decide))) rfl ?_
    refine EL.val (x_pick_f rfl rfl) rfl (EL.mv rfl rfl (EL.valg rfl rfl (x_move rfl) rfl (EL.valg rfl rfl (ln_60 rfl) rfl ?_)));refine EL.valg rfl rfl (x_neq (r := false) rfl rfl (decide_eq_false (by decide))) rfl ?_
    refine EL.val (x_pick_f rfl rfl) rfl (EL.mv rfl rfl (EL.valg rfl rfl (x_move rfl) rfl (EL.valg rfl rfl (ln_32 rfl) rfl ?_)));refine EL.valg rfl rfl (x_neq (r := false) rfl rfl (decide_eq_false (by decide))) rfl ?_
    refine EL.val (x_pick_f rfl rfl) rfl (EL.mv rfl rfl (EL.valg rfl rfl (x_move rfl) rfl (EL.valg rfl rfl (ln_25 rfl) rfl ?_)));refine EL.valg rfl rfl (x_neq (r := false) rfl rfl (decide_eq_false (by rw [three_slop.1]; decide))) rfl ?_
    refine EL.val (x_pick_f rfl rfl) rfl (EL.mv rfl rfl (EL.valg rfl rfl (x_move rfl) rfl ?_));refine EL.valg rfl rfl (ix_25 (k := 1) (by show some (Value.slice AS _ _) = _; rw [eS]) rfl (h1S)) rfl ?_
    refine EL.valg rfl rfl (ld_22 rfl hsc) rfl (EL.valg rfl rfl (ln_22 rfl) rfl ?_);refine EL.valg rfl rfl (x_neq (r := false) rfl rfl (decide_eq_false (by rw [three_slop.2]; decide))) rfl ?_
    refine EL.val (x_pick_f rfl rfl) rfl (EL.mv rfl rfl (EL.valg rfl rfl (x_move rfl) rfl (EL.valg rfl rfl (ln_22 rfl) rfl ?_)));refine EL.valg rfl rfl (x_neq (r := false) rfl rfl (decide_eq_false (by decide))) rfl ?_
    refine EL.val (x_pick_f rfl rfl) rfl (EL.mv rfl rfl (EL.valg rfl rfl (x_move rfl) rfl (EL.valg rfl rfl (ln_65 rfl) rfl ?_)));refine EL.valg rfl rfl (x_neq (r := false) rfl rfl (decide_eq_false (by decide))) rfl ?_
    refine EL.val (x_pick_f rfl rfl) rfl (EL.nil (EX.seq (EC.no rfl (EC.skip (EX.seq (EC.seq (EC.region (EL.mv rfl rfl ?_))))))));refine EL.val (ix_60 (k := 0) (by show some (Value.slice A2_7 _ _) = _; rw [eR2]) rfl (by decide)) rfl ?_
    refine EL.val (ld_24 rfl r0 r1) rfl (EL.val (bd_24_0_1 rfl rfl) rfl ?_);refine EL.val (eql_24 (r := true) rfl rfl (by decide)) rfl ?_
    refine EL.mv rfl rfl (EL.valg rfl rfl (x_move rfl) rfl ?_);refine EL.valg rfl rfl (ix_32 (k := 0) (by show some (Value.slice AhrA _ _) = _; rw [eAA]) rfl (by decide)) rfl ?_
    refine EL.valg rfl rfl (ld_46 rfl a0 a1 a2) rfl (EL.valg rfl rfl (bd_46_0_2 rfl rfl) rfl ?_);refine EL.valg rfl rfl (x_eqBr (r := true) rfl rfl (by decide)) rfl ?_
    refine EL.val (x_pick_t rfl rfl) rfl (EL.mv rfl rfl (EL.valg rfl rfl (x_move rfl) rfl ?_));refine EL.valg rfl rfl (ix_25 (k := 1) (by show some (Value.slice AS _ _) = _; rw [eS]) rfl (h1S)) rfl ?_
    refine EL.valg rfl rfl (ld_22 rfl hsc) rfl ?_;refine EL.valg rfl rfl (ix_22 (k := 1) (by show some (Value.slice AS1 _ _) = _; rw [eA1]) rfl (by rw [three_slop.2]; decide)) rfl ?_
    refine EL.valg rfl rfl (ld_3 rfl hs1) rfl ?_;refine EL.valg rfl rfl (x_eql (r := true) rfl rfl (decide_eq_true (by decide))) rfl ?_
    refine EL.val (x_pick_t rfl rfl) rfl (EL.mv rfl rfl (EL.valg rfl rfl (x_move rfl) rfl ?_));refine EL.valg rfl rfl (x_eql (r := true) rfl rfl (decide_eq_true (by decide))) rfl ?_
    refine EL.val (x_pick_t rfl rfl) rfl (EL.mv rfl rfl (EL.valg rfl rfl (x_move rfl) rfl ?_));refine EL.valg rfl rfl (x_eql (r := true) rfl rfl (decide_eq_true (by decide))) rfl ?_
    refine EL.val (x_pick_t rfl rfl) rfl (EL.mv rfl rfl (EL.valg rfl rfl (x_move rfl) rfl ?_));refine EL.valg rfl rfl (x_eql (r := true) rfl rfl (decide_eq_true (by decide))) rfl ?_
    refine EL.val (x_pick_t rfl rfl) rfl (EL.mv rfl rfl (EL.valg rfl rfl (x_move rfl) rfl ?_));refine EL.valg rfl rfl (ix_22 (k := 0) (by show some (Value.slice A6_10 _ _) = _; rw [eR6]) rfl (by decide)) rfl ?_
    refine EL.valg rfl rfl (ld_3 rfl p0) rfl ?_;refine EL.valg rfl rfl (x_eql (r := true) rfl rfl (decide_eq_true (by decide))) rfl ?_
    refine EL.val (x_pick_t rfl rfl) rfl (EL.mv rfl rfl (EL.valg rfl rfl (x_move rfl) rfl ?_));refine EL.valg rfl rfl (ix_22 (k := 1) (by show some (Value.slice A6_10 _ _) = _; rw [eR6b]) rfl (by decide)) rfl ?_
    refine EL.valg rfl rfl (ld_3 rfl p1) rfl ?_;refine EL.valg rfl rfl (x_eql (r := true) rfl rfl (decide_eq_true (by decide))) rfl ?_
    refine EL.val (x_pick_t rfl rfl) rfl (EL.mv rfl rfl (EL.valg rfl rfl (x_move rfl) rfl ?_));refine EL.valg rfl rfl (x_eql (r := true) rfl rfl (decide_eq_true (by decide))) rfl ?_
    refine EL.val (x_pick_t rfl rfl) rfl (EL.mv rfl rfl (EL.valg rfl rfl (x_move rfl) rfl ?_));refine EL.valg rfl rfl (ix_65 (k := 0) (by show some (Value.slice AhrF _ _) = _; rw [eRF]) rfl (by decide)) rfl ?_
    refine EL.valg rfl rfl (ld_70 rfl f0 f1) rfl (EL.valg rfl rfl (bd_70_1 rfl) rfl ?_);refine EL.valg rfl rfl (eql_70 (r := true) rfl rfl (by decide)) rfl ?_
    refine EL.val (x_pick_t rfl rfl) rfl (EL.mv rfl rfl (EL.valg rfl rfl (x_move rfl) rfl ?_));refine EL.valg rfl rfl (ix_65 (k := 1) (by show some (Value.slice AhrF _ _) = _; rw [eRFb]) rfl (by decide)) rfl ?_
    refine EL.valg rfl rfl (ld_70 rfl f2 f3) rfl (EL.valg rfl rfl (bd_70_1 rfl) rfl ?_);refine EL.valg rfl rfl (eql_70 (r := true) rfl rfl (by decide)) rfl ?_
    refine EL.val (x_pick_t rfl rfl) rfl (EL.as rfl rfl (EL.nil (EX.seq (EC.ret ?_))))
    exact EX.done (res1 rfl rfl) ⟨rfl, hbw⟩
section
variable {n : Nat} {σ : Sg} {w : World} {dst : Option Tmp} {ty : TypeId} {pos : String} {af : Array Edge} {g : Option (Nat × Bool)} {x y z : Operand} {at' : Array TypeId}
theorem cl_11 {x0 x1 : Operand} {v0 v1 : Value} (h0 : evS σ x0 = some v0) (h1 : evS σ x1 = some v1) (a : Act) (ha : Env n σ a) : (execOp a.eval ⟨dst, .call { callee := .value (.func 11), args := #[x0, x1], argTypes := at' }, ty, pos, af, g⟩).run Try.prog w = .ok (.enter 11 #[v0, v1]) w := by
 simp only [execOp, resolve, List.map_toArray, List.map_cons, List.map_nil, ha.eval h0, ha.eval h1]
 simp [go_sem, Act.eval]
theorem cl_14 {x0 : Operand} {v0 : Value} (h0 : evS σ x0 = some v0) (a : Act) (ha : Env n σ a) : (execOp a.eval ⟨dst, .call { callee := .value (.func 14), args := #[x0], argTypes := at' }, ty, pos, af, g⟩).run Try.prog w = .ok (.enter 14 #[v0]) w := by
 simp only [execOp, resolve, List.map_toArray, List.map_cons, List.map_nil, ha.eval h0]
 simp [go_sem, Act.eval]
theorem cl_15 {x0 : Operand} {v0 : Value} (h0 : evS σ x0 = some v0) (a : Act) (ha : Env n σ a) : (execOp a.eval ⟨dst, .call { callee := .value (.func 15), args := #[x0], argTypes := at' }, ty, pos, af, g⟩).run Try.prog w = .ok (.enter 15 #[v0]) w := by
 simp only [execOp, resolve, List.map_toArray, List.map_cons, List.map_nil, ha.eval h0]
 simp [go_sem, Act.eval]
theorem cl_21 {x0 x1 : Operand} {v0 v1 : Value} (h0 : evS σ x0 = some v0) (h1 : evS σ x1 = some v1) (a : Act) (ha : Env n σ a) : (execOp a.eval ⟨dst, .call { callee := .value (.func 21), args := #[x0, x1], argTypes := at' }, ty, pos, af, g⟩).run Try.prog w = .ok (.enter 21 #[v0, v1]) w := by
 simp only [execOp, resolve, List.map_toArray, List.map_cons, List.map_nil, ha.eval h0, ha.eval h1]
 simp [go_sem, Act.eval]
theorem cl_18 {x0 x1 : Operand} {v0 v1 : Value} (h0 : evS σ x0 = some v0) (h1 : evS σ x1 = some v1) (a : Act) (ha : Env n σ a) : (execOp a.eval ⟨dst, .call { callee := .value (.func 18), args := #[x0, x1], argTypes := at' }, ty, pos, af, g⟩).run Try.prog w = .ok (.enter 18 #[v0, v1]) w := by
 simp only [execOp, resolve, List.map_toArray, List.map_cons, List.map_nil, ha.eval h0, ha.eval h1]
 simp [go_sem, Act.eval]
theorem cl_12  (a : Act) (_ : Env n σ a) : (execOp a.eval ⟨dst, .call { callee := .value (.func 12), args := #[], argTypes := at' }, ty, pos, af, g⟩).run Try.prog w = .ok (.enter 12 #[]) w := by
 simp only [execOp, resolve, List.map_toArray, List.map_nil]
 simp [go_sem, Act.eval]
theorem cl_27 {x0 x1 : Operand} {v0 v1 : Value} (h0 : evS σ x0 = some v0) (h1 : evS σ x1 = some v1) (a : Act) (ha : Env n σ a) : (execOp a.eval ⟨dst, .call { callee := .value (.func 27), args := #[x0, x1], argTypes := at' }, ty, pos, af, g⟩).run Try.prog w = .ok (.enter 27 #[v0, v1]) w := by
 simp only [execOp, resolve, List.map_toArray, List.map_cons, List.map_nil, ha.eval h0, ha.eval h1]
 simp [go_sem, Act.eval]
theorem cl_36 {x0 x1 x2 : Operand} {v0 v1 v2 : Value} (h0 : evS σ x0 = some v0) (h1 : evS σ x1 = some v1) (h2 : evS σ x2 = some v2) (a : Act) (ha : Env n σ a) : (execOp a.eval ⟨dst, .call { callee := .value (.func 36), args := #[x0, x1, x2], argTypes := at' }, ty, pos, af, g⟩).run Try.prog w = .ok (.enter 36 #[v0, v1, v2]) w := by
 simp only [execOp, resolve, List.map_toArray, List.map_cons, List.map_nil, ha.eval h0, ha.eval h1, ha.eval h2]
 simp [go_sem, Act.eval]
end
end Go.Proofs.Ytdkedhcbdbpccaa
namespace Go.Proofs.Ytdkedhcbdbpccaa
open Go Go.ChangeShapes Go.WideShapes Go.Deep Go.RowKit Go.Joins
theorem cell_spot {w : World} {x : Addr} {u : Value} (h : w.cell? x = some u) : x.spot = none ∧ x.block < w.heap.size := by
 unfold World.cell? at h
 split at h
 ·rename_i c e f hg
  split at h
  ·cases h
  ·rename_i hs
   refine ⟨by simpa using hs, ?_⟩
   rcases Nat.lt_or_ge x.block w.heap.size with hlt | hge
   ·exact hlt
   ·rw [Array.getElem?_eq_none hge] at hg; cases hg
 ·cases h
section
variable {H : Type} {enc : TypeId × Value → H} {P : Program} {w : World} {base : Nat} {spare : Nat → Bool} {held : Bool}
/-- rows of cells, one behind the other -/
theorem rd_of_cells {b off n c s : Nat} {B : Nat} (row : Nat → List Value) (hlen : ∀ i, (row i).length = s) (hs : 0 < s) (hB : b < B) (hnc : n ≤ c)
  (hcell : ∀ i, i < n → ∀ j u, (row i)[j]? = some u → w.cell? ⟨b, off + (i * s + j), none⟩ = some u) :
  Rd w B s (.slice (some ⟨b, off, none⟩) n c) n ((List.range n).flatMap row) := by
 refine ⟨by rw [flat_len hlen, List.length_range], _, _, rfl, hnc, fun _ => ⟨b, off, rfl, hB, fun q u hu => ?_⟩⟩
 have hq : q < n * s := by
  have := (List.getElem?_eq_some_iff.1 hu).1
  rwa [flat_len hlen, List.length_range] at this
 have hk : q / s < n := by
  rw [Nat.div_lt_iff_lt_mul hs]
  exact hq
 have e : q = q / s * s + q % s := by rw [Nat.mul_comm]; exact (Nat.div_add_mod q s).symm
 have hg := flat_get hlen (List.range n) (q / s) (by simpa using hk) (q % s) (Nat.mod_lt _ hs)
 rw [← e, List.getElem_range] at hg;rw [hg] at hu;have := hcell (q / s) hk (q % s) u hu
 rwa [← e] at this
theorem add_lit_more (x : Addr) (n : Nat) (h : x.spot = none) : x.add n = ⟨x.block, x.off + n, none⟩ := by
 obtain ⟨b, o, s⟩ := x;subst h;rw [Addr.add_lit]
/-- a slice, opened to its elements -/
theorem rd_list {α : Type} [Inhabited α] {f : α → List Value} {s : Nat} {Good : α → Prop} (hf : ∀ x, (f x).length = s) (hs : 0 < s) {t e : TypeId} {fuel : Nat} {v : Value} {x : DataW H × List MemPlace} (ht : P.underlying t = some (.slice e)) (hC : P.cellsOf e = s)
  (hE : ∀ (fuel : Nat) (cs : List Value) (x : DataW H × List MemPlace), cs.length = s → DataW.trod enc P w base spare held fuel e cs = some x → ∃ y : α, cs = f y ∧ Good y) (h : DataW.trod enc P w base spare held fuel t [v] = some x) :
  ∃ l : List α, Rd w w.heap.size s v l.length (l.flatMap f) ∧ (∀ y ∈ l, Good y) ∧ l.length ≤ maxLen := by
 rcases open_slice ht h with ⟨hcs, _⟩ | ⟨a, len, cap, m, n, D, Pl, hcs, _, hl, hcap, hm, _, hi⟩
 ·injection hcs with hcs
  subst hcs
  exact ⟨[], Rd.nil_ _ _ _, by simp, Nat.zero_le _⟩
 ·injection hcs with hcs
  subst hcs;have hcell : ∀ i, i < len → ∃ y : α, (∀ j u, (f y)[j]? = some u → w.cell? (a.add (i * s + j)) = some u) ∧ Good y := by
   intro i hi';obtain ⟨cs', hc, ht'⟩ := hi i (by rw [hm]; split <;> omega)
   rw [hC] at hc;obtain ⟨_, hcl, hat⟩ := World.cells?_some hc;obtain ⟨y, hy, hg⟩ := hE _ cs' _ hcl ht';subst hy;refine ⟨y, fun j u hu => ?_, hg⟩
   have hj : j < s := by
    have := (List.getElem?_eq_some_iff.1 hu).1
    rwa [hf] at this
   have h1 := hat j hj;rw [Go.Deep.add_add] at h1;rw [h1, hu]
  let pick : Nat → α := fun i => if h : i < len then Classical.choose (hcell i h) else default
  have hpick : ∀ i, (h : i < len) → (∀ j u, (f (pick i))[j]? = some u → w.cell? (a.add (i * s + j)) = some u) ∧ Good (pick i) := fun i h => by
   have := Classical.choose_spec (hcell i h)
   simp only [pick, dif_pos h]
   exact this
  refine ⟨(List.range len).map pick, ?_, ?_, by simp; omega⟩
  ·rw [List.length_map, List.length_range]
   rcases Nat.eq_zero_or_pos len with hz | hz
   ·subst hz
    exact ⟨by simp, _, _, rfl, hl, fun h => absurd h (by omega)⟩
   ·have h0 := (hpick 0 hz).1 0 _ (List.getElem?_eq_getElem (by rw [hf]; exact hs))
    obtain ⟨hsp, hb⟩ := cell_spot h0;have e0 : a.add (0 * s + 0) = a := by simp [Addr.add]
    rw [e0] at hsp hb;have hx : a = ⟨a.block, a.off, none⟩ := by obtain ⟨b, o, s⟩ := a; subst hsp; rfl
    rw [hx, List.flatMap_map];refine rd_of_cells _ (fun i => hf _) hs hb hl fun i hi' j u hu => ?_
    have h1 := (hpick i hi').1 j u hu;rw [add_lit_more a _ hsp] at h1
    exact h1
  ·intro y hy
   obtain ⟨i, hi', rfl⟩ := List.mem_map.1 hy
   exact (hpick i (by simpa using hi')).2
theorem fld_of {fs : Array Field} {n : Nat} {cs : List Value} {ys : List (DataW H × List MemPlace)} (hf : ∀ (i : Nat) (f : Field), fs[i]? = some f → DataW.trod enc P w base spare held n f.type ((cs.drop f.offset).take (P.cellsOf f.type)) = ys[i]?)
  {j ft off z : Nat} {f : Field} (hj : fs[j]? = some f) (h1 : f.type = ft) (h2 : f.offset = off) (h3 : P.cellsOf ft = z) : DataW.trod enc P w base spare held n ft ((cs.drop off).take z) = ys[j]? := by
 subst h1 h2 h3
 exact hf j f hj
end
section
variable {H : Type} {enc : TypeId × Value → H} {w : World} {base : Nat} {spare : Nat → Bool} {held : Bool}
theorem co_3 : Try.prog.cellsOf 3 = 1 := by kernel_rfl
set_option maxRecDepth 100000 in
theorem cells_24 {fuel : Nat} {cs : List Value} {x : DataW H × List MemPlace} (hl : cs.length = 2) (h : DataW.trod enc Try.prog w base spare held fuel 24 cs = some x) : ∃ (z0 : Int) (z1 : Int), cs = [.int .i64 z0, .int .i64 z1] := by
 obtain ⟨ys, n, _, _, _, hyl, hf⟩ := DataW.trod_struct Try.underlying24 h
 match cs, hl with
 | [u0, u1], _ =>
  match ys, hyl with
  | [y0, y1], _ =>
   have q0 : DataW.trod enc Try.prog w base spare held n 3 [u0] = some y0 := fld_of hf (j := 0) rfl rfl rfl co_3;obtain ⟨z0, hz0, _, _⟩ := DataW.trod_int Try.underlying3 q0
   injection hz0 with hz0
   subst hz0;have q1 : DataW.trod enc Try.prog w base spare held n 3 [u1] = some y1 := fld_of hf (j := 1) rfl rfl rfl co_3;obtain ⟨z1, hz1, _, _⟩ := DataW.trod_int Try.underlying3 q1
   injection hz1 with hz1
   subst hz1
   exact ⟨z0, z1, rfl⟩
theorem co_24 : Try.prog.cellsOf 24 = 2 := by kernel_rfl
set_option maxRecDepth 100000 in
theorem cells_52 {fuel : Nat} {cs : List Value} {x : DataW H × List MemPlace} (hl : cs.length = 5) (h : DataW.trod enc Try.prog w base spare held fuel 52 cs = some x) : ∃ (z0 : Int) (z1 : Int) (z2 : Int) (z3 : Int) (z4 : Int), cs = [.int .i64 z0, .int .i64 z1, .int .i64 z2, .int .i64 z3, .int .i64 z4] := by
 obtain ⟨ys, n, _, _, _, hyl, hf⟩ := DataW.trod_struct Try.underlying52 h
 match cs, hl with
 | [u0, u1, u2, u3, u4], _ =>
  match ys, hyl with
  | [y0, y1, y2, y3], _ =>
   have q0 : DataW.trod enc Try.prog w base spare held n 24 [u0, u1] = some y0 := fld_of hf (j := 0) rfl rfl rfl co_24;obtain ⟨a0, a1, e0⟩ := cells_24 rfl q0
   simp only [List.cons.injEq, and_true] at e0
   obtain ⟨rfl, rfl⟩ := e0;have q1 : DataW.trod enc Try.prog w base spare held n 3 [u2] = some y1 := fld_of hf (j := 1) rfl rfl rfl co_3;obtain ⟨z2, hz2, _, _⟩ := DataW.trod_int Try.underlying3 q1
   injection hz2 with hz2
   subst hz2;have q2 : DataW.trod enc Try.prog w base spare held n 3 [u3] = some y2 := fld_of hf (j := 2) rfl rfl rfl co_3;obtain ⟨z3, hz3, _, _⟩ := DataW.trod_int Try.underlying3 q2
   injection hz3 with hz3
   subst hz3;have q3 : DataW.trod enc Try.prog w base spare held n 3 [u4] = some y3 := fld_of hf (j := 3) rfl rfl rfl co_3;obtain ⟨z4, hz4, _, _⟩ := DataW.trod_int Try.underlying3 q3
   injection hz4 with hz4
   subst hz4
   exact ⟨a0, a1, z2, z3, z4, rfl⟩
theorem co_52 : Try.prog.cellsOf 52 = 5 := by kernel_rfl
theorem co_48 : Try.prog.cellsOf 48 = 1 := by kernel_rfl
set_option maxRecDepth 100000 in
theorem cells_50 {fuel : Nat} {cs : List Value} {x : DataW H × List MemPlace} (hl : cs.length = 2) (h : DataW.trod enc Try.prog w base spare held fuel 50 cs = some x) : ∃ (z0 : Int) (z1 : Int), cs = [.int .i64 z0, .int .i64 z1] := by
 obtain ⟨ys, n, _, _, _, hyl, hf⟩ := DataW.trod_struct Try.underlying50 h
 match cs, hl with
 | [u0, u1], _ =>
  match ys, hyl with
  | [y0, y1], _ =>
   have q0 : DataW.trod enc Try.prog w base spare held n 48 [u0] = some y0 := fld_of hf (j := 0) rfl rfl rfl co_48;obtain ⟨z0, hz0, _, _⟩ := DataW.trod_int Try.underlying48 q0
   injection hz0 with hz0
   subst hz0;have q1 : DataW.trod enc Try.prog w base spare held n 3 [u1] = some y1 := fld_of hf (j := 1) rfl rfl rfl co_3;obtain ⟨z1, hz1, _, _⟩ := DataW.trod_int Try.underlying3 q1
   injection hz1 with hz1
   subst hz1
   exact ⟨z0, z1, rfl⟩
theorem co_50 : Try.prog.cellsOf 50 = 2 := by kernel_rfl
theorem co_22 : Try.prog.cellsOf 22 = 1 := by kernel_rfl
theorem co_25 : Try.prog.cellsOf 25 = 1 := by kernel_rfl
theorem co_26 : Try.prog.cellsOf 26 = 1 := by kernel_rfl
set_option maxRecDepth 100000 in
theorem cells_28 {fuel : Nat} {cs : List Value} {x : DataW H × List MemPlace} (hl : cs.length = 6) (h : DataW.trod enc Try.prog w base spare held fuel 28 cs = some x) : ∃ (v0 : Value) (z1 : Int) (z2 : Int) (v3 : Value) (v4 : Value) (v5 : Value), cs = [v0, .int .i64 z1, .int .i64 z2, v3, v4, v5] ∧ (∃ n x, DataW.trod enc Try.prog w base spare held n 22 [v0] = some x) ∧ (∃ n x, DataW.trod enc Try.prog w base spare held n 25 [v3] = some x) ∧ (∃ n x, DataW.trod enc Try.prog w base spare held n 25 [v4] = some x) ∧ (∃ n x, DataW.trod enc Try.prog w base spare held n 26 [v5] = some x) := by
 obtain ⟨ys, n, _, _, _, hyl, hf⟩ := DataW.trod_struct Try.underlying28 h
 match cs, hl with
 | [u0, u1, u2, u3, u4, u5], _ =>
  match ys, hyl with
  | [y0, y1, y2, y3, y4], _ =>
   have q0 : DataW.trod enc Try.prog w base spare held n 22 [u0] = some y0 := fld_of hf (j := 0) rfl rfl rfl co_22;have q1 : DataW.trod enc Try.prog w base spare held n 24 [u1, u2] = some y1 := fld_of hf (j := 1) rfl rfl rfl co_24;obtain ⟨a1, a2, e1⟩ := cells_24 rfl q1
   simp only [List.cons.injEq, and_true] at e1
   obtain ⟨rfl, rfl⟩ := e1;have q2 : DataW.trod enc Try.prog w base spare held n 25 [u3] = some y2 := fld_of hf (j := 2) rfl rfl rfl co_25;have q3 : DataW.trod enc Try.prog w base spare held n 25 [u4] = some y3 := fld_of hf (j := 3) rfl rfl rfl co_25;have q4 : DataW.trod enc Try.prog w base spare held n 26 [u5] = some y4 := fld_of hf (j := 4) rfl rfl rfl co_26
   exact ⟨u0, a1, a2, u3, u4, u5, rfl, ⟨_, _, q0⟩, ⟨_, _, q2⟩, ⟨_, _, q3⟩, ⟨_, _, q4⟩⟩
theorem co_28 : Try.prog.cellsOf 28 = 6 := by kernel_rfl
theorem cells_len_28 {fuel : Nat} {v : Value} {x : DataW H × List MemPlace} (h : DataW.trod enc Try.prog w base spare held fuel 28 v.cells.toList = some x) : v.cells.toList.length = 6 := by
 obtain ⟨_, _, _, _, hlen, _, _⟩ := DataW.trod_struct Try.underlying28 h;rw [hlen]
 exact co_28
instance : Inhabited Kd := ⟨kd0⟩
instance : Inhabited Ev := ⟨ev0⟩
instance : Inhabited (List Int × Value) := ⟨([], .slice none 0 0)⟩
theorem rd_ints {fuel : Nat} {v : Value} {x : DataW H × List MemPlace} (h : DataW.trod enc Try.prog w base spare held fuel 22 [v] = some x) : ∃ l : List Int, Rd w w.heap.size 1 v l.length (ints l) ∧ l.length ≤ maxLen := by
 obtain ⟨l, h1, _, h2⟩ := rd_list (s := 1) (f := iC) (Good := fun _ => True) (fun _ => rfl) (by omega) Try.underlying22 co_3 (fun _ cs _ hl ht => by
  match cs, hl with
  | [u], _ =>
   obtain ⟨z, hz, _, _⟩ := DataW.trod_int Try.underlying3 ht
   injection hz with hz
   subst hz
   exact ⟨z, rfl, trivial⟩) h
 exact ⟨l, by rw [ints_flat]; exact h1, h2⟩
theorem rd_kds {fuel : Nat} {v : Value} {x : DataW H × List MemPlace} (h : DataW.trod enc Try.prog w base spare held fuel 26 [v] = some x) : ∃ l : List Kd, Rd w w.heap.size 5 v l.length (kdsC l) ∧ l.length ≤ maxLen := by
 obtain ⟨l, h1, _, h2⟩ := rd_list (f := kdC) (Good := fun _ => True) kdC_len (by omega) Try.underlying26 co_52 (fun _ cs _ hl ht => by
  obtain ⟨a, b, c, d, e, rfl⟩ := cells_52 hl ht
  exact ⟨⟨⟨a, b⟩, c, d, e⟩, rfl, trivial⟩) h
 exact ⟨l, h1, h2⟩
theorem rd_evs {fuel : Nat} {v : Value} {x : DataW H × List MemPlace} (h : DataW.trod enc Try.prog w base spare held fuel 29 [v] = some x) : ∃ l : List Ev, Rd w w.heap.size 2 v l.length (evsC l) ∧ l.length ≤ maxLen := by
 obtain ⟨l, h1, _, h2⟩ := rd_list (f := evC) (Good := fun _ => True) evC_len (by omega) Try.underlying29 co_50 (fun _ cs _ hl ht => by
  obtain ⟨a, b, rfl⟩ := cells_50 hl ht
  exact ⟨⟨a, b⟩, rfl, trivial⟩) h
 exact ⟨l, h1, h2⟩
theorem flat_snd {α β : Type} : ∀ l : List (α × β), l.flatMap (fun p => [p.2]) = l.map Prod.snd
 | [] => rfl
 | (a, b) :: l => by simp [flat_snd l]
theorem rd_rows {fuel : Nat} {v : Value} {x : DataW H × List MemPlace} (h : DataW.trod enc Try.prog w base spare held fuel 25 [v] = some x) : ∃ (l : List (List Int)) (vs : List Value), RdLL iC 1 w w.heap.size v l vs ∧ l.length ≤ maxLen := by
 obtain ⟨l, h1, h3, h2⟩ := rd_list (α := List Int × Value) (s := 1) (f := fun p => [p.2]) (Good := fun p => Rd w w.heap.size 1 p.2 p.1.length (ints p.1) ∧ p.1.length ≤ maxLen) (fun _ => rfl) (by omega) Try.underlying25 co_22 (fun _ cs _ hl ht => by
  match cs, hl with
  | [u], _ =>
   obtain ⟨l, h1, h2⟩ := rd_ints ht
   exact ⟨(l, u), rfl, h1, h2⟩) h
 rw [flat_snd] at h1;refine ⟨l.map Prod.fst, l.map Prod.snd, ⟨by simp, by simpa using h1, fun i hi => ?_⟩, by simpa using h2⟩
 have hi' : i < l.length := by simpa using hi
 have e1 : (l.map Prod.fst).getD i [] = l[i].1 := by simp [hi']
 have e2 : (l.map Prod.snd).getD i undef = l[i].2 := by simp [hi']
 rw [e1, e2, ← ints_flat]
 exact (h3 _ (List.getElem_mem hi')).1
theorem rules_of {v : Value} {d : DataW H} {p : List MemPlace} (h : DataW.Trod enc Try.prog w base spare held 28 v d p) : ∃ (ru : Rules) (ua up : List Value) (vl va vp vk : Value), v = rulesV vl va vp vk ru ∧ RdRules w w.heap.size vl va vp vk ru ua up := by
 obtain ⟨fuel, hf⟩ := h;obtain ⟨a, lo, hi, b, c, k, he, ⟨_, _, ha⟩, ⟨_, _, hb⟩, ⟨_, _, hc⟩, ⟨_, _, hk⟩⟩ := cells_28 (cells_len_28 hf) hf;obtain ⟨l, h1, _⟩ := rd_ints ha;obtain ⟨m, us, h3, _⟩ := rd_rows hb;obtain ⟨s, ut, h5, _⟩ := rd_rows hc;obtain ⟨q, h7, _⟩ := rd_kds hk;refine ⟨⟨l, ⟨lo, hi⟩, m, s, q⟩, us, ut, a, b, c, k, ?_, ⟨h1, h3, h5, h7⟩⟩
 unfold rulesV
 cases v with
  | agg cs =>
   have : cs = #[a, .int .i64 lo, .int .i64 hi, b, c, k] := by
    apply Array.ext'
    simpa [Value.cells] using he
   rw [this]
  | _ => simp [Value.cells] at he
end
end Go.Proofs.Ytdkedhcbdbpccaa
namespace Go.Proofs.Ytdkedhcbdbpccaa
open Go Go.RowKit
theorem equal_same {l : List Int} {v u : Value} {w : World} {B : Nat} (ha : Rd w B 1 v l.length (ints l)) (hb : Rd w B 1 u l.length (ints l)) (hB : B ≤ w.heap.size) (hl : l.length ≤ 9223372036854775806) : Calls Try.prog 21 #[v, u] w fun e w' => e = .returned (.bool true) ∧ Below w.heap.size w w' := by
 have h := equal_any ha hb hB hl (by omega)
 rw [decide_eq_true rfl] at h
 exact h
theorem flatMap_same {α β : Type} {f g : α → List β} : ∀ {l : List α}, (∀ x ∈ l, f x = g x) → l.flatMap f = l.flatMap g
 | [], _ => rfl
 | x :: l, h => by rw [List.flatMap_cons, List.flatMap_cons, h x (List.mem_cons_self ..), flatMap_same fun y hy => h y (List.mem_cons_of_mem _ hy)]
def rt0 : RT := ⟨[], []⟩
def wayR (ru : Rules) (u : RT) (k : Int) : RT := if k < 0 then u else stepR ru u ⟨2, k⟩
def loadR (ru : Rules) (u : RT) (c : Nat) : RT := stepR ru u ⟨1, (c : Nat)⟩
def goR (ru : Rules) (c : Nat) (us : List RT) (i : Nat) (k : Int) : Option (List RT) :=
 if (mayR ru (wayR ru (us.getD i rt0) k) c ru.levels.length).1 = true then some (us.set i (loadR ru (wayR ru (us.getD i rt0) k) c)) else none
def yardR (ru : Rules) (many : Nat) : Yard (List RT) := ⟨many, ru.kinds.length, kcost ru, goR ru⟩
structure SimF (ru : Rules) (many : Nat) (s : List (List Tr)) (us : List RT) : Prop where
 n3 : many ≤ s.length
 nu : us.length = many
 at_ : ∀ i, i < many → Sim ru.levels.length (s.getD i []) (us.getD i rt0)
theorem kinds_in {K : Nat} {k : Int} (h : k ∈ kindsL K) : k = -1 ∨ ∃ j : Nat, j < K ∧ k = ((j : Nat) : Int) := by
 unfold kindsL at h
 rcases List.mem_cons.1 h with h | h
 ·exact .inl h
 ·obtain ⟨j, hj, rfl⟩ := List.mem_map.1 h
  exact .inr ⟨j, List.mem_range.1 hj, rfl⟩
theorem ev_wash {ru : Rules} {j : Nat} (hj : j < ru.kinds.length) : evB ru ⟨2, ((j : Nat) : Int)⟩ = true := by
 unfold evB
 have : inB 0 ((ru.kinds.length : Nat) - 1 : Int) ((j : Nat) : Int) = true := inB_iff.2 ⟨by omega, by omega⟩
 simp [this]
theorem ev_load {ru : Rules} {c : Nat} (hc : c < ru.levels.length) : evB ru ⟨1, ((c : Nat) : Int)⟩ = true := by
 unfold evB
 have : inB 0 ((ru.levels.length : Nat) - 1 : Int) ((c : Nat) : Int) = true := inB_iff.2 ⟨by omega, by omega⟩
 simp [this]
theorem way_sim {ru : Rules} (hro : RulesOk ru) {t : List Tr} {u : RT} {k : Int} (hk : k ∈ kindsL ru.kinds.length) (h : Sim ru.levels.length t u) : Sim ru.levels.length (wayT ru t k) (wayR ru u k) := by
 unfold wayT wayR
 rcases kinds_in hk with rfl | ⟨j, hj, rfl⟩
 ·rw [if_pos (by omega), if_pos (by omega)]
  exact h
 ·rw [if_neg (by omega), if_neg (by omega)]
  have h2 := sim_step (x := ⟨2, ((j : Nat) : Int)⟩) hro (ev_wash hj) h
  unfold stepT at h2
  rwa [if_pos rfl] at h2
theorem load_sim {ru : Rules} (hro : RulesOk ru) {t : List Tr} {u : RT} {c : Nat} (hc : c < ru.levels.length) (h : Sim ru.levels.length t u) : Sim ru.levels.length (loadT ru t c) (loadR ru u c) := by
 have h2 := sim_step (x := ⟨1, ((c : Nat) : Int)⟩) hro (ev_load hc) h
 unfold stepT at h2
 rwa [if_neg (show ¬((1 : Int) = 2) by decide), Int.toNat_natCast] at h2
theorem compl_sim {ru : Rules} (hro : RulesOk ru) {many : Nat} : ∀ (js : List Nat), (∀ c ∈ js, c < ru.levels.length) → ∀ (s : List (List Tr)) (us : List RT) (p : Pl), SimF ru many s us →
  (compl (extY (yardOf ru many)) js (s, p)).map Prod.snd = (compl (extY (yardR ru many)) js (us, p)).map Prod.snd
 | [], _, _, _, _, _ => rfl
 | c :: rem, hjs, s, us, p, h => by
  have hc := hjs c (List.mem_cons_self ..);have key : ∀ i k, i < many → k ∈ kindsL ru.kinds.length → ((ext1 (yardOf ru many) c (s, p) i k).flatMap (compl (extY (yardOf ru many)) rem)).map Prod.snd = ((ext1 (yardR ru many) c (us, p) i k).flatMap (compl (extY (yardR ru many)) rem)).map Prod.snd := fun i k hi hk => by
   have hw := way_sim hro hk (h.at_ i hi);have hm := mayR_sim hro hw (c := c) ru.levels.length (Nat.le_refl _);have e1 : (yardOf ru many).go c s i k = if (mayT ru (wayT ru (s.getD i []) k) c ru.levels.length).1 = true then some (s.set i (loadT ru (wayT ru (s.getD i []) k) c)) else none := rfl
   have e2 : (yardR ru many).go c us i k = if (mayT ru (wayT ru (s.getD i []) k) c ru.levels.length).1 = true then some (us.set i (loadR ru (wayR ru (us.getD i rt0) k) c)) else none := by
    show goR ru c us i k = _
    unfold goR
    rw [hm]
   unfold ext1
   dsimp only
   rw [e1, e2]
   by_cases hmay : (mayT ru (wayT ru (s.getD i []) k) c ru.levels.length).1 = true
   ·rw [if_pos hmay, if_pos hmay]
    simp only [List.flatMap_cons, List.flatMap_nil, List.append_nil]
    have hn3 := h.n3;have hnu := h.nu;refine compl_sim hro rem (fun d hd => hjs d (List.mem_cons_of_mem _ hd)) _ _ _ ⟨by rw [List.length_set]; exact hn3, by rw [List.length_set]; exact hnu, fun j hj => ?_⟩
    rw [getD_setR (by omega), getD_setR (by omega)]
    by_cases hij : i = j
    ·rw [if_pos hij, if_pos hij]; exact load_sim hro hc hw
    ·rw [if_neg hij, if_neg hij]; exact h.at_ j hj
   ·rw [if_neg hmay, if_neg hmay]
    rfl
  show (((List.range many).flatMap fun i => (kindsL ru.kinds.length).flatMap (ext1 (yardOf ru many) c (s, p) i)).flatMap (compl (extY (yardOf ru many)) rem)).map Prod.snd = (((List.range many).flatMap fun i => (kindsL ru.kinds.length).flatMap (ext1 (yardR ru many) c (us, p) i)).flatMap (compl (extY (yardR ru many)) rem)).map Prod.snd
  simp only [List.flatMap_assoc, List.map_flatMap]
  refine flatMap_same fun i hi => flatMap_same fun k hk => ?_
  have h2 := key i k (List.mem_range.1 hi) hk
  simpa only [List.map_flatMap] using h2
theorem depth_same {σ τ : Type} {A : Nat → σ × Pl → List (σ × Pl)} {C : Nat → τ × Pl → List (τ × Pl)} {js : List Nat} {x : σ × Pl} {y : τ × Pl} (h : ∀ k, k ≤ js.length → (compl A (js.take k) x = [] ↔ compl C (js.take k) y = [])) : depthR A js x = depthR C js y := by
 have a := depth_len (ext := A) js x;have b := depth_len (ext := C) js y;refine Nat.le_antisymm ?_ ?_
 ·exact (depth_iff js y _ a).2 fun e => (depth_iff js x _ a).1 (Nat.le_refl _) ((h _ a).2 e)
 ·exact (depth_iff js x _ b).2 fun e => (depth_iff js y _ b).1 (Nat.le_refl _) ((h _ b).1 e)
/-- the best that the reference finds -/
def bestR (ru : Rules) (js : List Nat) (us : List RT) : Option Pl × Nat := tryR (extY (yardR ru us.length)) js (us, pl0) (none, 0)
theorem yardR_ok {ru : Rules} (hro : RulesOk ru) (many : Nat) : ExtOk (extY (yardR ru many)) := extY_ok _ fun k => (kcost_bd hro k).1
section
variable {ru : Rules} {js : List Nat} {s : List (List Tr)} {us : List RT}
theorem best_some (hro : RulesOk ru) (hjs : ∀ c ∈ js, c < ru.levels.length) (hs : SimF ru us.length s us) {p : Pl} (h : IsBest (compl (extY (yardOf ru us.length)) js (s, pl0)) p) : (bestR ru js us).1 = some p := by
 have hB := try_best (yardR_ok hro us.length) js (us, pl0) [] (none, 0) rfl fun q hq => absurd hq List.not_mem_nil
 rw [List.nil_append, ← compl_sim hro js hjs s us pl0 hs] at hB;obtain ⟨⟨t, ht⟩, h2⟩ := h;have hp : p ∈ (compl (extY (yardOf ru us.length)) js (s, pl0)).map Prod.snd := List.mem_map.2 ⟨_, ht, rfl⟩
 unfold bestR
 cases e : (tryR (extY (yardR ru us.length)) js (us, pl0) (none, 0)).1 with
 | none =>
  rw [e] at hB;have hB : _ = [] := hB;rw [hB] at hp
  exact absurd hp List.not_mem_nil
 | some q =>
  rw [e] at hB;obtain ⟨h3, h4⟩ := hB;obtain ⟨x, hx, rfl⟩ := List.mem_map.1 h3;have a := h4 p hp;have b := h2 x hx;have c := cmp_pl.anti p x.2;rw [cmp_pl.eq p x.2 (by omega)]
theorem best_none (hro : RulesOk ru) (hjs : ∀ c ∈ js, c < ru.levels.length) (hs : SimF ru us.length s us) (h : depthR (extY (yardOf ru us.length)) js (s, pl0) < js.length) : bestR ru js us = (none, depthR (extY (yardOf ru us.length)) js (s, pl0)) := by
 have hd : depthR (extY (yardOf ru us.length)) js (s, pl0) = depthR (extY (yardR ru us.length)) js (us, pl0) := depth_same fun k hk => by
  have := compl_sim hro (js.take k) (fun c hc => hjs c (List.mem_of_mem_take hc)) s us pl0 hs
  rw [← List.map_eq_nil_iff (f := Prod.snd), this, List.map_eq_nil_iff]
 have hn : compl (extY (yardR ru us.length)) js (us, pl0) = [] := by
  apply Classical.byContradiction
  intro hne;have := (depth_iff (ext := extY (yardR ru us.length)) js (us, pl0) js.length (Nat.le_refl _)).2 (by rwa [List.take_length])
  omega
 unfold bestR
 rw [try_none (yardR_ok hro us.length) js (us, pl0) 0 hn, hd]
 show (none, max 0 (0 + _)) = _
 rw [Nat.zero_add, Nat.max_eq_right (Nat.zero_le _)]
end
/-! ### In memory -/
/-- a tank of the document, and where its lists lie -/
abbrev Tk := RT × (Option Addr × Nat) × (Option Addr × Nat)
def rkC (N : Nat) (x : Tk) : List Value := [.slice x.2.1.1 N x.2.1.2, .slice x.2.2.1 N x.2.2.2]
def rksC (N : Nat) (l : List Tk) : List Value := l.flatMap (rkC N)
theorem rkC_len {N : Nat} (x : Tk) : (rkC N x).length = 2 := rfl
theorem rksC_len {N : Nat} (l : List Tk) : (rksC N l).length = l.length * 2 := flat_len rkC_len l
theorem rksC_one {N : Nat} (l : List Tk) : ∀ u ∈ rksC N l, u.oneCell' = true := flat_one (by intro x u hu; simp [rkC] at hu; rcases hu with rfl | rfl <;> rfl) l
theorem rk_info : (Try.prog.info? 62).map (fun i => (i.zero, i.size, i.bytes)) = some (some (.agg #[.slice none 0 0, .slice none 0 0]), 2, 48) := by kernel_rfl
theorem rk_elem : Elem Try.prog 64 62 2 48 := Elem.mk' Try.underlying64 rk_info rfl (by omega)
def tk00 : Tk := (rt0, (none, 0), (none, 0))
theorem rks_cells {N : Nat} (l : List Tk) (k : Nat) (hk : k < l.length) (w : World) (B : Nat) (A : Option Addr) (n c : Nat) (hr : Rd w B 2 (.slice A n c) n (rksC N l)) :
  ∃ b off, A = some ⟨b, off, none⟩ ∧ b < B ∧ w.cell? ⟨b, off + k * 2, none⟩ = some (.slice (l.getD k tk00).2.1.1 N (l.getD k tk00).2.1.2) ∧ w.cell? ⟨b, off + k * 2 + 1, none⟩ = some (.slice (l.getD k tk00).2.2.1 N (l.getD k tk00).2.2.2) := by
 have hl : n * 2 = l.length * 2 := by rw [← hr.len, rksC_len]
 obtain ⟨b, off, rfl, hb, hc⟩ := hr.at_ (by omega)
 have e : l.getD k tk00 = l[k] := by simp [hk]
 rw [e];have g := fun j hj => flat_get (rkC_len (N := N)) l k hk j hj
 exact ⟨b, off, rfl, hb, hc (k * 2) _ (g 0 (by omega)), hc (k * 2 + 1) _ (g 1 (by omega))⟩
/-- a row of tanks of one's own -/
structure OwnTs (w : World) (N : Nat) (v : Value) (l : List Tk) : Prop where
 own : w.ownsRow 0 62 2 v l.length (rksC N l)
 res : ∀ x ∈ l, w.ownsRow 0 24 2 (.slice x.2.1.1 N x.2.1.2) N (bdsC x.1.res)
 aft : ∀ x ∈ l, w.ownsRow 0 3 1 (.slice x.2.2.1 N x.2.2.2) N (ints x.1.aft)
section
variable {w w' : World} {N : Nat} {v : Value} {l : List Tk}
theorem OwnTs.below (h : OwnTs w N v l) (hb : Below w.heap.size w w') : OwnTs w' N v l := ⟨own_below h.own hb (Nat.le_refl _), fun x hx => own_below (h.res x hx) hb (Nat.le_refl _), fun x hx => own_below (h.aft x hx) hb (Nat.le_refl _)⟩
theorem OwnTs.type {g T : Nat} {cs : Array Value} (h : OwnTs w N v l) (hq : Blk w g T cs) (h1 : Nat.beq T 62 = false) (h2 : Nat.beq T 24 = false) (h3 : Nat.beq T 3 = false) (hg : w.grownBy w' (some g)) : OwnTs w' N v l :=
 ⟨own_type h.own hq h1 hg, fun x hx => own_type (h.res x hx) hq h2 hg, fun x hx => own_type (h.aft x hx) hq h3 hg⟩
theorem OwnTs.getR (h : OwnTs w N v l) {k : Nat} (hk : k < l.length) : w.ownsRow 0 24 2 (.slice (l.getD k tk00).2.1.1 N (l.getD k tk00).2.1.2) N (bdsC (l.getD k tk00).1.res) := by
 rw [getD_in hk]; exact h.res _ (List.getElem_mem _)
theorem OwnTs.getA (h : OwnTs w N v l) {k : Nat} (hk : k < l.length) : w.ownsRow 0 3 1 (.slice (l.getD k tk00).2.2.1 N (l.getD k tk00).2.2.2) N (ints (l.getD k tk00).1.aft) := by
 rw [getD_in hk]; exact h.aft _ (List.getElem_mem _)
end
theorem rks_set {N : Nat} {l : List Tk} {k : Nat} (hk : k < l.length) (y : Tk) : spl (rksC N l) (k * 2) (rkC N y) = rksC N (l.set k y) := spl_flat rkC_len l k hk y
def bp (b : Option Pl × Nat) : Pl := b.1.getD pl0
/-- the best list that was found, in its box -/
def bestC (b : Option Pl × Nat) (A : Option Addr) (c : Nat) : Array Value := #[.bool b.1.isSome, .slice A (bp b).steps.length c, .int .i64 (bp b).washes, .int .i64 (bp b).cost, .int .i64 (b.2 : Nat)]
def stsAt (w : World) (l : List St) (A : Option Addr) (c : Nat) : Prop := w.ownsRow 0 70 2 (.slice A l.length c) l.length (stsC l)
def BestM (w : World) (g : Nat) (b : Option Pl × Nat) : Prop := ∃ A c, Blk w g 67 (bestC b A c) ∧ stsAt w (bp b).steps A c
theorem gw_below {w W W' : World} {g : Nat} (h : w.grownBy W (some g)) (hb : Below W.heap.size W W') : w.grownBy W' (some g) := grown_below h hb
theorem gw_store {w W W' : World} {g k : Nat} (h : w.grownBy W (some g)) (hg : W.grownBy W' (some k)) (hk : w.heap.size ≤ k) : w.grownBy W' (some g) := World.grownBy.andThen h hg fun j e => by
 injection e with e
 exact .inl (e ▸ hk)
theorem gw_B {w W : World} {g B : Nat} (h : w.grownBy W (some g)) (hg : B ≤ g) (hB : B ≤ w.heap.size) : Below B w W := ⟨h.os, h.tape, h.output, h.size, fun k hk => h.block k (by omega) fun e => by injection e with e; omega⟩
theorem gw_row {w W W' : World} {g : Nat} {row : Option Nat} (h : w.grownBy W (some g)) (hg : W.grownBy W' row) (hk : ∀ b, row = some b → w.heap.size ≤ b) : w.grownBy W' (some g) := World.grownBy.andThen h hg fun j e => .inl (hk j e)
theorem not_all {p : Int → Bool} {l : List Int} {i : Nat} (hi : i < l.length) (h : p (l.getD i 0) = false) : ¬l.all p = true := fun e => by
 have := List.all_eq_true.1 e l[i] (List.getElem_mem hi);rw [getD_in hi, this] at h
 cases h
theorem all_of {p : Int → Bool} {l : List Int} (h : ∀ i, i < l.length → p (l.getD i 0) = true) : l.all p = true := List.all_eq_true.2 fun x hx => by
 obtain ⟨i, hi, rfl⟩ := List.getElem_of_mem hx;rw [← getD_in (d := 0) hi]
 exact h i hi
theorem rJobs_any {ru : Rules} {ua up : List Value} {vl va vp vk : Value} {w : World} {B : Nat} (hr : RdRules w B vl va vp vk ru ua up) (hB : B ≤ w.heap.size) (hro : RulesOk ru) {jobs : List Int} {vj : Value} {C : Nat} (hv : Rd w C 1 vj jobs.length (ints jobs)) (hC : C ≤ w.heap.size) (hjl : jobs.length ≤ 1000) {most : Nat} (hmo : most ≤ 100) :
  Calls Try.prog 26 #[rulesV vl va vp vk ru, vj, .int .i64 (most : Nat)] w fun e w' => e = .returned (.int .i64 (jobsE ru jobs most)) ∧ Below w.heap.size w w' := by
 obtain ⟨Al, cl, rfl, _⟩ := hr.levels.shape;obtain ⟨Aa, ca, rfl, _⟩ := hr.allow.rd.shape;obtain ⟨Ap, cp, rfl, _⟩ := hr.apart.rd.shape;obtain ⟨Ak, ck, rfl, _⟩ := hr.kinds.shape;obtain ⟨Aj, cj, rfl, _⟩ := hv.shape;have hn8 := hro.n8;have hbw := Below.refl w.heap.size w
 unfold rulesV
 refine EC.enter 28 Try.func26 rfl rfl rfl (EC.seq (EC.region (EL.newP (bx_28 rfl) rfl ?_)));intro g1 w1 q1 hb1 hg1 hl1;have bhbw_1 := Nat.le_trans hbw.size hg1;replace hbw := bo_ hbw hb1;clear hb1 hg1 hl1;refine EL.as rfl rfl (EL.nil (EX.seq (EC.seq (EC.seq (EC.region (EL.mv rfl rfl (EL.val (ln_22 rfl) rfl (EL.mv rfl rfl ?_))))))))
 by_cases hml : most < jobs.length
 ·
  refine EL.val (x_gtr (r := true) rfl rfl (decide_eq_true (by omega))) rfl ?_
  refine EL.nil (EX.seq (EC.yes rfl (EC.seq (EC.region (EL.as rfl rfl (EL.nil (EX.seq (EC.ret (EX.seq_ret ?_)))))))))
  exact EX.done (res1 rfl rfl) ⟨by rw [jobsE, if_pos hml], hbw⟩
 ·
  refine EL.val (x_gtr (r := false) rfl rfl (decide_eq_false (by omega))) rfl ?_
  refine EL.nil (EX.seq (EC.no rfl (EC.skip (EX.seq (EC.seq (EC.seq (EC.region (EL.as rfl rfl (EL.nil ?_)))))))));refine EX.seq (EC.block ?_);refine EC.loopD [6, 7, 12, 13, 14, 15, 16, 17, 18, 19, 20, 21, 22, 23, 24, 25, 26, 27] (fun x : Nat => [(7, .int .i64 (x : Nat))]) (fun x W => x ≤ jobs.length ∧ (∀ i, i < x → inB 0 ((ru.levels.length : Nat) - 1 : Int) (jobs.getD i 0) = true) ∧ Blk W g1 28 #[.slice Al ru.levels.length cl, .int .i64 ru.fade.lo, .int .i64 ru.fade.hi, .slice Aa ru.allow.length ca, .slice Ap ru.apart.length cp, .slice Ak ru.kinds.length ck] ∧ Below w.heap.size w W) (fun x => jobs.length - x) 0 ⟨Nat.zero_le _, fun i hi => absurd hi (by omega), q1, hbw⟩ ⟨rfl, trivial⟩ ?_
  clear q1 hbw
  rintro i wx ⟨hi, hall, q1, hbw⟩
  by_cases hlt : i < jobs.length
  ·
   obtain ⟨bj, oj, ej, _, hjc⟩ := ints_cells jobs i hlt wx C _ _ _ (hv.below (hbw.mono hC))
   cases ej
   refine EC.seq (EC.seq (EC.region (EL.mv rfl rfl (EL.mv rfl rfl (EL.val (ln_22 rfl) rfl ?_)))));refine EL.val (x_lss rfl rfl (decide_eq_true (show (((i : Nat) : Int) < ((jobs.length : Nat) : Int)) by omega))) rfl ?_
   refine EL.nil (EX.seq (EC.yes rfl (EC.skip (EX.seq (EC.seq (EC.block (EC.seq ?_)))))))
   cases hin : inB 0 ((ru.levels.length : Nat) - 1 : Int) (jobs.getD i 0)
   ·
    refine EC.regionQ (by kernel_rfl) (by kernel_rfl) ?_
    refine EQ.val (fun _ hw => (x_move rfl)) rfl ?_
    refine EQ.val (fun _ hw => (x_move rfl)) rfl ?_
    refine EQ.val (fun _ hw => (ix_22 rfl rfl hlt)) rfl ?_
    refine EQ.val (fun _ hw => (ld_3 rfl (below_load hw hjc))) rfl ?_
    refine EQ.val (fun _ hw => (fa_28_0 rfl)) rfl ?_
    refine EQ.val (fun _ hw => (ld_22 rfl (below_load hw (q1.at (j := 0) rfl)))) rfl ?_
    refine EQ.val (fun _ hw => (ln_22 rfl)) rfl ?_
    refine EQ.val (fun _ hw => (x_sub rfl rfl (c := (ru.levels.length : Nat) - 1) (IntWalk.i64_in _ ⟨by omega, by omega⟩))) rfl ?_
    refine EQ.call (fun _ _ _ ha => cl_56 rfl rfl rfl _ ha) rfl (fun W hw => (in_to hin W).mono fun e w' h => ⟨h.1, hw.trans (h.2.mono hw.size)⟩) ?_
    refine EQ.val (fun _ hw => (x_not rfl)) rfl ?_
    refine EQ.fin (fun w2 hw_ => ?_)
    replace q1 := q1.bl hw_;replace hbw := bo_ hbw hw_;clear hw_;refine EX.seq (EC.yes rfl (EC.seq (EC.region (EL.as rfl rfl (EL.nil (EX.seq (EC.ret (EX.blk_ret (EX.seq_ret ?_)))))))));refine EX.seq_ret (EX.blk_ret (EX.seq_ret ?_))
    exact EX.done (res1 rfl rfl) ⟨by rw [jobsE, if_neg hml, if_neg (not_all hlt hin)], hbw⟩
   ·
    refine EC.regionQ (by kernel_rfl) (by kernel_rfl) ?_
    refine EQ.val (fun _ hw => (x_move rfl)) rfl ?_
    refine EQ.val (fun _ hw => (x_move rfl)) rfl ?_
    refine EQ.val (fun _ hw => (ix_22 rfl rfl hlt)) rfl ?_
    refine EQ.val (fun _ hw => (ld_3 rfl (below_load hw hjc))) rfl ?_
    refine EQ.val (fun _ hw => (fa_28_0 rfl)) rfl ?_
    refine EQ.val (fun _ hw => (ld_22 rfl (below_load hw (q1.at (j := 0) rfl)))) rfl ?_
    refine EQ.val (fun _ hw => (ln_22 rfl)) rfl ?_
    refine EQ.val (fun _ hw => (x_sub rfl rfl (c := (ru.levels.length : Nat) - 1) (IntWalk.i64_in _ ⟨by omega, by omega⟩))) rfl ?_
    refine EQ.call (fun _ _ _ ha => cl_56 rfl rfl rfl _ ha) rfl (fun W hw => (in_to hin W).mono fun e w' h => ⟨h.1, hw.trans (h.2.mono hw.size)⟩) ?_
    refine EQ.val (fun _ hw => (x_not rfl)) rfl ?_
    refine EQ.fin (fun w3 hw_ => ?_)
    replace q1 := q1.bl hw_;replace hbw := bo_ hbw hw_;clear hw_;refine EX.seq (EC.no rfl (EC.skip (EX.blk (EX.seq (EC.region (EL.mv rfl rfl ?_))))));refine EL.val (x_add rfl rfl (c := ((i + 1 : Nat) : Int)) ((IntWalk.i64_in _ ⟨by first | omega | (simp only; omega), by first | omega | (simp only; omega)⟩).trans (by first | omega | (simp only; omega)))) rfl ?_
    refine EL.as rfl rfl (EL.nil ?_);refine EX.roundD (i + 1) ⟨rfl, trivial⟩ (by repeat first | with_reducible exact Sub.refl _ | refine sub_past rfl ?_ | exact Sub.refl _ | refine sub_del rfl ?_ | refine sub_insL_nil ?_) ⟨hlt, (fun j hj => by rcases Nat.lt_or_ge j i with h0 | h0; exact hall j h0; rw [show j = i by omega]; exact hin), q1, hbw⟩ (by omega)
  ·
   have hxe : i = jobs.length := by omega
   refine EC.seq (EC.seq (EC.region (EL.mv rfl rfl (EL.mv rfl rfl (EL.val (ln_22 rfl) rfl ?_)))));refine EL.val (x_lss rfl rfl (decide_eq_false (show ¬(((i : Nat) : Int) < ((jobs.length : Nat) : Int)) by omega))) rfl ?_
   refine EL.nil (EX.seq (EC.no rfl (EC.exit (EX.seq_exit (EX.seq_exit (EX.blk_here (EX.seq (EC.seq (EC.region ?_)))))))));refine EL.as rfl rfl (EL.nil (EX.seq (EC.ret ?_)))
   exact EX.done (res1 rfl rfl) ⟨by rw [jobsE, if_neg hml, if_pos (all_of (hxe ▸ hall))], hbw⟩
/-- what the search knows when all ways by tanks < i, and the first kk kinds of tank i, have been tried -/
def accR (ru : Rules) (us : List RT) (c : Nat) (rem : List Nat) (p : Pl) (a : Option Pl × Nat) (i kk : Nat) : Option Pl × Nat :=
 (((List.range i).flatMap fun i => (kindsL ru.kinds.length).flatMap (ext1 (yardR ru us.length) c (us, p) i)) ++ ((kindsL ru.kinds.length).take kk).flatMap (ext1 (yardR ru us.length) c (us, p) i)).foldl (fun a y => tryR (extY (yardR ru us.length)) rem y a) a
section
variable {ru : Rules} {us : List RT} {c : Nat} {rem : List Nat} {p : Pl} {a : Option Pl × Nat} {i kk : Nat}
theorem acc_zero : accR ru us c rem p a 0 0 = a := rfl
theorem acc_next : accR ru us c rem p a (i + 1) 0 = accR ru us c rem p a i (ru.kinds.length + 1) := by
 unfold accR
 rw [flatI_succ, show (kindsL ru.kinds.length).take (ru.kinds.length + 1) = kindsL ru.kinds.length from List.take_of_length_le (by rw [kindsL_len]; exact Nat.le_refl _)]
 simp
theorem acc_end (hw : ¬worse a.1 p = true) : accR ru us c rem p (a.1, max a.2 p.steps.length) us.length 0 = tryR (extY (yardR ru us.length)) (c :: rem) (us, p) a := by
 unfold accR
 rw [tryR, if_neg hw]
 simp [extY, yardR]
theorem acc_step (h : kk < ru.kinds.length + 1) {k : Int} (hk : k = ((kk : Nat) : Int) - 1) : accR ru us c rem p a i (kk + 1) = (ext1 (yardR ru us.length) c (us, p) i k).foldl (fun a y => tryR (extY (yardR ru us.length)) rem y a) (accR ru us c rem p a i kk) := by
 have hl : kk < (kindsL ru.kinds.length).length := by rw [kindsL_len]; exact h
 have e : (kindsL ru.kinds.length)[kk] = k := by
  rw [hk, ← getD_in (d := 0) hl]
  rcases kinds_val h with ⟨h1, h2⟩ | ⟨j, h1, h2⟩
  ·rw [h2, h1]; rfl
  ·rw [h2]
   rcases kk with _ | q
   ·simp [kindsL] at h2
   ·have h3 : (kindsL ru.kinds.length).getD (q + 1) 0 = ((q : Nat) : Int) := by
     unfold kindsL
     rw [List.getD_cons_succ, getD_in (by simp; omega)]
     simp
    rw [← h2, h3]
    omega
 unfold accR
 rw [List.take_succ_eq_append_getElem hl, List.flatMap_append, ← List.append_assoc, List.foldl_append, e]
 simp
theorem acc_no (h : kk < ru.kinds.length + 1) {k : Int} (hk : k = ((kk : Nat) : Int) - 1) (hg : goR ru c us i k = none) : accR ru us c rem p a i (kk + 1) = accR ru us c rem p a i kk := by
 rw [acc_step h hk]
 unfold ext1
 rw [show (yardR ru us.length).go c (us, p).1 i k = none from hg]
 rfl
theorem acc_yes (h : kk < ru.kinds.length + 1) {k : Int} (hk : k = ((kk : Nat) : Int) - 1) {s : List RT} (hg : goR ru c us i k = some s) : accR ru us c rem p a i (kk + 1) = tryR (extY (yardR ru us.length)) rem (s, addS p ⟨i, k⟩ (numK k) (kcost ru k)) (accR ru us c rem p a i kk) := by
 rw [acc_step h hk]
 unfold ext1
 rw [show (yardR ru us.length).go c (us, p).1 i k = some s from hg]
 rfl
theorem try_worse {ext : Nat → List RT × Pl → List (List RT × Pl)} {js : List Nat} (hw : worse a.1 p = true) : tryR ext js (us, p) a = a := by
 cases js <;> rw [tryR, if_pos hw]
theorem try_end {ext : Nat → List RT × Pl → List (List RT × Pl)} (hw : ¬worse a.1 p = true) : tryR ext [] (us, p) a = (some p, p.steps.length) := by rw [tryR, if_neg hw]
end
theorem RtOk.more {n k k' : Nat} {t : RT} (h : RtOk n k t) (hk : k ≤ k') : RtOk n k' t := ⟨h.rl, h.al, h.bd, fun i => by have := h.af i; omega⟩
theorem way_rt {ru : Rules} (hro : RulesOk ru) {u : RT} {m : Nat} (h : RtOk ru.levels.length m u) {k : Int} (hk : k ∈ kindsL ru.kinds.length) : RtOk ru.levels.length (m + 1) (wayR ru u k) := by
 unfold wayR
 rcases kinds_in hk with rfl | ⟨j, hj, rfl⟩
 ·rw [if_pos (by omega)]; exact h.more (by omega)
 ·rw [if_neg (by omega)]; exact step_ok hro h (ev_wash hj)
theorem load_rt {ru : Rules} (hro : RulesOk ru) {u : RT} {m c : Nat} (h : RtOk ru.levels.length m u) (hc : c < ru.levels.length) : RtOk ru.levels.length (m + 1) (loadR ru u c) := step_ok hro h (ev_load hc)
theorem kk_in {K kk : Nat} (h : kk < K + 1) : ((kk : Nat) : Int) - 1 ∈ kindsL K := by
 unfold kindsL
 rcases kk with _ | q
 ·exact List.mem_cons.2 (.inl rfl)
 ·exact List.mem_cons.2 (.inr (List.mem_map.2 ⟨q, List.mem_range.2 (by omega), by omega⟩))
section
variable {n : Nat} {σ : Sg} {w : World} {dst : Option Tmp} {ty : TypeId} {pos : String} {af : Array Edge} {g : Option (Nat × Bool)} {x y z : Operand} {at' : Array TypeId}
theorem bx_67 {v0 v1 v2 v3 v4 : Value} (hx : evS σ x = some (.agg #[v0, v1, v2, v3, v4])) (a : Act) (ha : Env n σ a) : (execOp a.eval ⟨dst, .box 67 x, ty, pos, af, g⟩).run Try.prog w = .ok (.value (.pointer (some ⟨w.heap.size, 0, none⟩))) (w.alloc (.cells #[v0, v1, v2, v3, v4] 67)) := by
 simp only [execOp, ha.eval hx]
 simp [go_sem]
theorem fa_67_0 {b o : Nat} (hx : evS σ x = some (.pointer (some ⟨b, o, none⟩))) : Gives Try.prog n σ w ⟨dst, .fieldAddr 67 x 0, ty, pos, af, g⟩ (.pointer (some ⟨b, o, none⟩)) := fun a ha => by
 simp only [execOp, ha.eval hx]
 simp [go_sem]
theorem fa_67_2 {b o : Nat} (hx : evS σ x = some (.pointer (some ⟨b, o, none⟩))) : Gives Try.prog n σ w ⟨dst, .fieldAddr 67 x 2, ty, pos, af, g⟩ (.pointer (some ⟨b, o + 2, none⟩)) := fun a ha => by
 simp only [execOp, ha.eval hx]
 simp [go_sem]
theorem fa_67_3 {b o : Nat} (hx : evS σ x = some (.pointer (some ⟨b, o, none⟩))) : Gives Try.prog n σ w ⟨dst, .fieldAddr 67 x 3, ty, pos, af, g⟩ (.pointer (some ⟨b, o + 3, none⟩)) := fun a ha => by
 simp only [execOp, ha.eval hx]
 simp [go_sem]
theorem fa_67_1 {b o : Nat} (hx : evS σ x = some (.pointer (some ⟨b, o, none⟩))) : Gives Try.prog n σ w ⟨dst, .fieldAddr 67 x 1, ty, pos, af, g⟩ (.pointer (some ⟨b, o + 1, none⟩)) := fun a ha => by
 simp only [execOp, ha.eval hx]
 simp [go_sem]
theorem fa_67_4 {b o : Nat} (hx : evS σ x = some (.pointer (some ⟨b, o, none⟩))) : Gives Try.prog n σ w ⟨dst, .fieldAddr 67 x 4, ty, pos, af, g⟩ (.pointer (some ⟨b, o + 4, none⟩)) := fun a ha => by
 simp only [execOp, ha.eval hx]
 simp [go_sem]
theorem bd_67_0_1_2_3_4 {x0 x1 x2 x3 x4 : Operand} {b0 : Bool} {A1 : Option Addr} {m1 : Nat} {c1 : Nat} {z2 : Int} {z3 : Int} {z4 : Int} (h0 : evS σ x0 = some (.bool b0)) (h1 : evS σ x1 = some (.slice A1 m1 c1)) (h2 : evS σ x2 = some (.int .i64 z2)) (h3 : evS σ x3 = some (.int .i64 z3)) (h4 : evS σ x4 = some (.int .i64 z4)) : Gives Try.prog n σ w ⟨dst, .build 67 #[(0, x0), (1, x1), (2, x2), (3, x3), (4, x4)], ty, pos, af, g⟩ (.agg #[.bool b0, .slice A1 m1 c1, .int .i64 z2, .int .i64 z3, .int .i64 z4]) := fun a ha => by
 simp only [execOp, List.map_toArray, List.map_cons, List.map_nil, ha.eval h0, ha.eval h1, ha.eval h2, ha.eval h3, ha.eval h4]
 go_simp
theorem sz_67 : (Try.prog.info? 67).map (·.size) = some 5 := by kernel_rfl
theorem ln_64 {A : Option Addr} {m c : Nat} (hx : evS σ x = some (.slice A m c)) : Gives Try.prog n σ w ⟨dst, .call { callee := .builtin .len, args := #[x], argTypes := #[64] }, ty, pos, af, g⟩ (.int .i64 (m : Int)) := fun a ha => by
 simp only [execOp, resolve, List.map_toArray, List.map_cons, List.map_nil, ha.eval hx]
 simp [go_sem]
theorem ix_64 {b o m c k : Nat} (hx : evS σ x = some (.slice (some ⟨b, o, none⟩) m c)) (hy : evS σ y = some (.int .i64 (k : Int))) (hk : k < m) : Gives Try.prog n σ w ⟨dst, .indexAddr 64 x y, ty, pos, af, g⟩ (.pointer (some ⟨b, o + k * 2, none⟩)) := fun a ha => by
 have k0 : (0 : Int) ≤ (k : Int) := Int.natCast_nonneg _;have k1 : (k : Int) < (m : Int) := by omega
 simp only [execOp, ha.eval hx, ha.eval hy]
 simp [go_sem, k0, k1]
theorem al_67 (a : Act) (_ : Env n σ a) : (execOp a.eval ⟨dst, .alloc 67, ty, pos, af, g⟩).run Try.prog w = .ok (.value (.pointer (some ⟨w.heap.size, 0, none⟩))) (w.alloc (.cells #[.bool false, .slice none 0 0, .int .i64 0, .int .i64 0, .int .i64 0] 67)) := by
 simp only [execOp]
 simp [go_sem]
theorem ld_67 {b o : Nat} {v0 v1 v2 v3 v4 : Value} (hx : evS σ x = some (.pointer (some ⟨b, o, none⟩))) (c0 : w.cell? ⟨b, o, none⟩ = some v0) (c1 : w.cell? ⟨b, o + 1, none⟩ = some v1) (c2 : w.cell? ⟨b, o + 2, none⟩ = some v2) (c3 : w.cell? ⟨b, o + 3, none⟩ = some v3) (c4 : w.cell? ⟨b, o + 4, none⟩ = some v4) : Gives Try.prog n σ w ⟨dst, .load 67 x, ty, pos, af, g⟩ (.agg #[v0, v1, v2, v3, v4]) := fun a ha => by
 simp only [execOp, ha.eval hx]
 simp [go_sem, c0, c1, c2, c3, c4]
theorem bs_65_0 (a : Act) (_ : Env n σ a) : (execOp a.eval ⟨dst, .buildSlice 65 0 #[], ty, pos, af, g⟩).run Try.prog w = .ok (.value (.slice (some ⟨w.heap.size, 0, none⟩) 0 0)) (w.alloc (.cells #[] 70)) := by
 simp only [execOp]
 go_simp
theorem sz_65 : (Try.prog.info? 65).map (·.size) = some 1 := by kernel_rfl
theorem bs_64_0 (a : Act) (_ : Env n σ a) : (execOp a.eval ⟨dst, .buildSlice 64 0 #[], ty, pos, af, g⟩).run Try.prog w = .ok (.value (.slice (some ⟨w.heap.size, 0, none⟩) 0 0)) (w.alloc (.cells #[] 62)) := by
 simp only [execOp]
 go_simp
theorem cl_59 {x0 x1 x2 x3 x4 : Operand} {v0 v1 v2 v3 v4 : Value} (h0 : evS σ x0 = some v0) (h1 : evS σ x1 = some v1) (h2 : evS σ x2 = some v2) (h3 : evS σ x3 = some v3) (h4 : evS σ x4 = some v4) (a : Act) (ha : Env n σ a) : (execOp a.eval ⟨dst, .call { callee := .value (.func 59), args := #[x0, x1, x2, x3, x4], argTypes := at' }, ty, pos, af, g⟩).run Try.prog w = .ok (.enter 59 #[v0, v1, v2, v3, v4]) w := by
 simp only [execOp, resolve, List.map_toArray, List.map_cons, List.map_nil, ha.eval h0, ha.eval h1, ha.eval h2, ha.eval h3, ha.eval h4]
 simp [go_sem, Act.eval]
end
/-- what the search does with the rest of the cargoes -/
def TrySpec (ru : Rules) (js rem : List Nat) : Prop := ∀ {ua up : List Value} {vl va vp vk : Value} {w : World} {B : Nat} (hr : RdRules w B vl va vp vk ru ua up) {vj : Value} (hv : Rd w B 1 vj js.length (ints (jsI js))) {gb : Nat} (hBg : B ≤ gb) (hBw : B ≤ w.heap.size) {us : List Tk} {vt : Value} (hT : OwnTs w ru.levels.length vt us) (hl3 : us.length ≤ 3) {m : Nat} (hok : ∀ x ∈ us, RtOk ru.levels.length m x.1) {p : Pl} (hpl : p.steps.length ≤ js.length) (hrem : rem = js.drop p.steps.length) (hm : m + 2 * (js.length - p.steps.length) ≤ 1000) (hp : PlOk p p.steps.length) {As : Option Addr} {cs : Nat} (hS : stsAt w p.steps As cs) {b : Option Pl × Nat} (hb : BestM w gb b),
 Calls Try.prog 59 #[rulesV vl va vp vk ru, vt, vj, .agg #[.bool false, .slice As p.steps.length cs, .int .i64 p.washes, .int .i64 p.cost, .int .i64 0], .pointer (some ⟨gb, 0, none⟩)] w fun e w' => e = .returned (.tuple #[]) ∧ w.grownBy w' (some gb) ∧ BestM w' gb (tryR (extY (yardR ru us.length)) rem (us.map (·.1), p) b)
theorem gw_refl (w : World) (g : Nat) : w.grownBy w (some g) := ⟨rfl, rfl, rfl, Nat.le_refl _, fun _ _ _ => rfl⟩
theorem slice_fr {g C : Nat} (h : C ≤ g) : ∀ b, (Value.slice (some ⟨g, 0, none⟩) 0 0).ownBlock = some b → C ≤ b := fun b hb => by
 have e : g = b := by simpa [Value.ownBlock] using hb
 omega
theorem fr_push {v v' : Value} {w : World} {C : Nat} (h : ∀ b, v.ownBlock = some b → C ≤ b) (hat : v'.ownBlock = v.ownBlock ∨ v'.ownBlock = some w.heap.size) (hC : C ≤ w.heap.size) : ∀ b, v'.ownBlock = some b → C ≤ b := fun b hb => by
 rcases hat with h1 | h1
 ·exact h b (h1 ▸ hb)
 ·rw [h1] at hb; injection hb with hb; omega
theorem ne_push {v' : Value} {w : World} {g g0 T : Nat} {cs : Array Value} (hn : g ≠ g0) (hq : Blk w g T cs) (hat : v'.ownBlock = (Value.slice (some ⟨g0, 0, none⟩) 0 0).ownBlock ∨ v'.ownBlock = some w.heap.size) : ∀ b, v'.ownBlock = some b → g ≠ b := fun b hb e => by
 subst e
 rcases hat with h1 | h1
 ·rw [hb] at h1; exact hn (by simpa [Value.ownBlock] using h1)
 ·rw [hb] at h1; injection h1 with h1; have := hq.lt; omega
theorem own_slice_v {w : World} {base e size m : Nat} {v : Value} {xs : List Value} (h : w.ownsRow base e size v m xs) (hm : 0 < m) : ∃ g c, v = .slice (some ⟨g, 0, none⟩) m c := by
 obtain ⟨A, c, rfl, _⟩ := (Rd.of_own h).shape;obtain ⟨g, rfl⟩ := own_slice h hm
 exact ⟨g, c, rfl⟩
theorem own_set {w : World} {n i : Nat} {v v2 : Value} {l : List Tk} {x : Tk} (h : OwnTs w n v2 l) (ho : w.ownsRow 0 62 2 v (l.set i x).length (rksC n (l.set i x))) (h1 : w.ownsRow 0 24 2 (.slice x.2.1.1 n x.2.1.2) n (bdsC x.1.res)) (h2 : w.ownsRow 0 3 1 (.slice x.2.2.1 n x.2.2.2) n (ints x.1.aft)) : OwnTs w n v (l.set i x) := by
 refine ⟨ho, fun y hy => ?_, fun y hy => ?_⟩
 ·rcases List.mem_or_eq_of_mem_set hy with hy | rfl
  ·exact h.res y hy
  ·exact h1
 ·rcases List.mem_or_eq_of_mem_set hy with hy | rfl
  ·exact h.aft y hy
  ·exact h2
theorem ok_set {n m i : Nat} {l : List Tk} {x : Tk} (h : ∀ x ∈ l, RtOk n m x.1) (hx : RtOk n m x.1) : ∀ y ∈ l.set i x, RtOk n m y.1 := fun y hy => by
 rcases List.mem_or_eq_of_mem_set hy with hy | rfl
 ·exact h y hy
 ·exact hx
theorem addS_len {p : Pl} {s : St} {n c : Int} : (addS p s n c).steps.length = p.steps.length + 1 := by unfold addS; rw [List.length_append]; rfl
set_option maxHeartbeats 8000000 in
theorem try_step {ru : Rules} (hro : RulesOk ru) {js : List Nat} (hjs : ∀ i, i < js.length → js.getD i 0 < ru.levels.length) (hj10 : js.length ≤ 10) {rem0 : List Nat} (IH0 : ∀ c rem, rem0 = c :: rem → TrySpec ru js rem) : TrySpec ru js rem0 := by
 intro ua up vl va vp vk w B hr vj hv gb hBg hBw us vt hT hl3 m hok p hpl hrem hm hp As cs hS b hb;subst hrem;have IH := IH0;clear IH0;obtain ⟨Al, cl, rfl, _⟩ := hr.levels.shape;obtain ⟨Aa, ca, rfl, _⟩ := hr.allow.rd.shape;obtain ⟨Ap, cp, rfl, _⟩ := hr.apart.rd.shape;obtain ⟨Ak, ck, rfl, _⟩ := hr.kinds.shape;obtain ⟨Aj, cj, rfl, _⟩ := hv.shape;obtain ⟨At, ct, rfl, _⟩ := (Rd.of_own hT.own).shape;obtain ⟨A, c, qb, hbs⟩ := hb
 unfold bestC at qb
 have qb0 := qb;have hn8 := hro.n8;have hk4 := hro.k4;have hgw : w.grownBy w (some gb) := gw_refl w gb
 unfold rulesV
 refine EC.enter 156 Try.func59 rfl rfl rfl (EC.seq (EC.region (EL.newP (bx_28 rfl) rfl ?_)));intro g1 w1 q1 hb1 hg1 hl1;have n0_1 := qb.na hg1;have bw1 : w.heap.size ≤ g1 := Nat.le_trans hgw.size hg1;replace qb := qb.bl hb1;replace hgw := gw_below hgw hb1;clear hb1 hg1 hl1;refine EL.newP (bx_67 rfl) rfl ?_;intro g2 w2 q2 hb2 hg2 hl2;have n0_2 := qb.na hg2;have n1_2 := q1.na hg2;have bw2 : w.heap.size ≤ g2 := Nat.le_trans hgw.size hg2;replace qb := qb.bl hb2;replace q1 := q1.bl hb2;replace hgw := gw_below hgw hb2;clear hb2 hg2 hl2;refine EL.nil (EX.seq (EC.seq ?_));refine EC.cutD [18, 19, 20, 21, 22, 23, 24, 25, 26, 27, 28, 29, 30, 31, 32, 33, 34, 35, 36, 37, 38, 39, 40, 41, 42, 43, 44, 45, 46, 47, 48] (fun x : Bool => [(48, .bool x)]) (fun x W => x = worse b.1 p ∧ Blk W gb 67 #[.bool b.1.isSome, .slice A (bp b).steps.length c, .int .i64 (bp b).washes, .int .i64 (bp b).cost, .int .i64 (b.2 : Nat)] ∧ Blk W g1 28 #[.slice Al ru.levels.length cl, .int .i64 ru.fade.lo, .int .i64 ru.fade.hi, .slice Aa ru.allow.length ca, .slice Ap ru.apart.length cp, .slice Ak ru.kinds.length ck] ∧ Blk W g2 67 #[.bool false, .slice As p.steps.length cs, .int .i64 p.washes, .int .i64 p.cost, .int .i64 0] ∧ w.grownBy W (some gb)) ?_ ?_
 ·
  obtain ⟨bo, hbo⟩ : ∃ z, z = b.1 := ⟨_, rfl⟩
  cases bo
  ·
   have hsm : b.1.isSome = false := by rw [← hbo]; rfl
   have qx := qb;rw [hsm] at qx;refine EC.regionQ (by kernel_rfl) (by kernel_rfl) ?_
   refine EQ.val (fun _ hw => (x_move rfl)) rfl ?_
   refine EQ.val (fun _ hw => (x_nilCheck rfl)) rfl ?_
   refine EQ.val (fun _ hw => (fa_67_0 rfl)) rfl ?_
   refine EQ.val (fun _ hw => (ld_4 rfl (below_load hw (qx.at (j := 0) rfl)))) rfl ?_
   refine EQ.val (fun _ hw => (x_move rfl)) rfl ?_
   refine EQ.skip rfl rfl rfl rfl (EQ.skip rfl rfl rfl rfl (EQ.skip rfl rfl rfl rfl (EQ.skip rfl rfl rfl rfl (EQ.skip rfl rfl rfl rfl (EQ.skip rfl rfl rfl rfl (EQ.skip rfl rfl rfl rfl (EQ.skip rfl rfl rfl rfl (EQ.skip rfl rfl rfl rfl (EQ.skip rfl rfl rfl rfl ?_)))))))));refine EQ.skip rfl rfl rfl rfl (EQ.skip rfl rfl rfl rfl (EQ.skip rfl rfl rfl rfl (EQ.skip rfl rfl rfl rfl (EQ.skip rfl rfl rfl rfl (EQ.skip rfl rfl rfl rfl (EQ.skip rfl rfl rfl rfl (EQ.skip rfl rfl rfl rfl (EQ.skip rfl rfl rfl rfl (EQ.skip rfl rfl rfl rfl ?_)))))))));refine EQ.skip rfl rfl rfl rfl (EQ.skip rfl rfl rfl rfl (EQ.skip rfl rfl rfl rfl (EQ.skip rfl rfl rfl rfl (EQ.skip rfl rfl rfl rfl ?_))));refine EQ.val (fun _ hw => (x_pick_f rfl rfl)) rfl ?_
   refine EQ.fin (fun w3 hw_ => ?_)
   replace qx := qx.bl hw_;replace q1 := q1.bl hw_;replace q2 := q2.bl hw_;replace hgw := gw_below hgw hw_;replace qb := qb.bl hw_;clear hw_
   exact EX.cutE false ⟨rfl, trivial⟩ (by repeat first | with_reducible exact (Sub.refl _).del _ | refine sub_past rfl ?_ | exact (Sub.refl _).del _ | refine sub_del rfl ?_ | refine sub_insL_nil ?_) ⟨by rw [← hbo]; rfl, qb, q1, q2, hgw⟩
  ·
   rename_i q
   have hsm : b.1.isSome = true := by rw [← hbo]; rfl
   have hbp : bp b = q := by unfold bp; rw [← hbo]; rfl
   have qx := qb;rw [hsm, hbp] at qx
   by_cases h1 : q.washes < p.washes
   ·
    refine EC.regionQ (by kernel_rfl) (by kernel_rfl) ?_
    refine EQ.val (fun _ hw => (x_move rfl)) rfl ?_
    refine EQ.val (fun _ hw => (x_nilCheck rfl)) rfl ?_
    refine EQ.val (fun _ hw => (fa_67_0 rfl)) rfl ?_
    refine EQ.val (fun _ hw => (ld_4 rfl (below_load hw (qx.at (j := 0) rfl)))) rfl ?_
    refine EQ.val (fun _ hw => (x_move rfl)) rfl ?_
    refine EQ.valg rfl rfl (fun _ hw => (fa_67_2 rfl)) rfl ?_
    refine EQ.valg rfl rfl (fun _ hw => (ld_3 rfl (below_load hw (q2.at (j := 2) rfl)))) rfl ?_
    refine EQ.valg rfl rfl (fun _ hw => (x_move rfl)) rfl ?_
    refine EQ.valg rfl rfl (fun _ hw => (x_nilCheck rfl)) rfl ?_
    refine EQ.valg rfl rfl (fun _ hw => (fa_67_2 rfl)) rfl ?_
    refine EQ.valg rfl rfl (fun _ hw => (ld_3 rfl (below_load hw (qx.at (j := 2) rfl)))) rfl ?_
    refine EQ.valg rfl rfl (fun _ hw => (x_gtr (r := true) rfl rfl (decide_eq_true (by omega)))) rfl ?_
    refine EQ.valg rfl rfl (fun _ hw => (x_move rfl)) rfl ?_
    refine EQ.skip rfl rfl rfl rfl (EQ.skip rfl rfl rfl rfl (EQ.skip rfl rfl rfl rfl (EQ.skip rfl rfl rfl rfl (EQ.skip rfl rfl rfl rfl (EQ.skip rfl rfl rfl rfl (EQ.skip rfl rfl rfl rfl (EQ.skip rfl rfl rfl rfl (EQ.skip rfl rfl rfl rfl (EQ.skip rfl rfl rfl rfl ?_)))))))));refine EQ.skip rfl rfl rfl rfl (EQ.skip rfl rfl rfl rfl (EQ.skip rfl rfl rfl rfl (EQ.skip rfl rfl rfl rfl (EQ.skip rfl rfl rfl rfl (EQ.skip rfl rfl rfl rfl ?_)))));refine EQ.valg rfl rfl (fun _ hw => (x_pick_t rfl rfl)) rfl ?_
    refine EQ.val (fun _ hw => (x_pick_t rfl rfl)) rfl ?_
    refine EQ.fin (fun w4 hw_ => ?_)
    replace qx := qx.bl hw_;replace q1 := q1.bl hw_;replace q2 := q2.bl hw_;replace hgw := gw_below hgw hw_;replace qb := qb.bl hw_;clear hw_
    exact EX.cutE true ⟨rfl, trivial⟩ (by repeat first | with_reducible exact (Sub.refl _).del _ | refine sub_past rfl ?_ | exact (Sub.refl _).del _ | refine sub_del rfl ?_ | refine sub_insL_nil ?_) ⟨by rw [← hbo]; unfold worse; simp; omega, qb, q1, q2, hgw⟩
   ·
    by_cases h2 : p.washes = q.washes
    ·
     by_cases h3 : q.cost ≤ p.cost
     ·
      refine EC.regionQ (by kernel_rfl) (by kernel_rfl) ?_
      refine EQ.val (fun _ hw => (x_move rfl)) rfl ?_
      refine EQ.val (fun _ hw => (x_nilCheck rfl)) rfl ?_
      refine EQ.val (fun _ hw => (fa_67_0 rfl)) rfl ?_
      refine EQ.val (fun _ hw => (ld_4 rfl (below_load hw (qx.at (j := 0) rfl)))) rfl ?_
      refine EQ.val (fun _ hw => (x_move rfl)) rfl ?_
      refine EQ.valg rfl rfl (fun _ hw => (fa_67_2 rfl)) rfl ?_
      refine EQ.valg rfl rfl (fun _ hw => (ld_3 rfl (below_load hw (q2.at (j := 2) rfl)))) rfl ?_
      refine EQ.valg rfl rfl (fun _ hw => (x_move rfl)) rfl ?_
      refine EQ.valg rfl rfl (fun _ hw => (x_nilCheck rfl)) rfl ?_
      refine EQ.valg rfl rfl (fun _ hw => (fa_67_2 rfl)) rfl ?_
      refine EQ.valg rfl rfl (fun _ hw => (ld_3 rfl (below_load hw (qx.at (j := 2) rfl)))) rfl ?_
      refine EQ.valg rfl rfl (fun _ hw => (x_gtr (r := false) rfl rfl (decide_eq_false (by omega)))) rfl ?_
      refine EQ.valg rfl rfl (fun _ hw => (x_move rfl)) rfl ?_
      refine EQ.valg rfl rfl (fun _ hw => (fa_67_2 rfl)) rfl ?_
      refine EQ.valg rfl rfl (fun _ hw => (ld_3 rfl (below_load hw (q2.at (j := 2) rfl)))) rfl ?_
      refine EQ.valg rfl rfl (fun _ hw => (x_move rfl)) rfl ?_
      refine EQ.valg rfl rfl (fun _ hw => (x_nilCheck rfl)) rfl ?_
      refine EQ.valg rfl rfl (fun _ hw => (fa_67_2 rfl)) rfl ?_
      refine EQ.valg rfl rfl (fun _ hw => (ld_3 rfl (below_load hw (qx.at (j := 2) rfl)))) rfl ?_
      refine EQ.valg rfl rfl (fun _ hw => (x_eql (r := true) rfl rfl (decide_eq_true (by omega)))) rfl ?_
      refine EQ.valg rfl rfl (fun _ hw => (x_move rfl)) rfl ?_
      refine EQ.valg rfl rfl (fun _ hw => (fa_67_3 rfl)) rfl ?_
      refine EQ.valg rfl rfl (fun _ hw => (ld_3 rfl (below_load hw (q2.at (j := 3) rfl)))) rfl ?_
      refine EQ.valg rfl rfl (fun _ hw => (x_move rfl)) rfl ?_
      refine EQ.valg rfl rfl (fun _ hw => (x_nilCheck rfl)) rfl ?_
      refine EQ.valg rfl rfl (fun _ hw => (fa_67_3 rfl)) rfl ?_
      refine EQ.valg rfl rfl (fun _ hw => (ld_3 rfl (below_load hw (qx.at (j := 3) rfl)))) rfl ?_
      refine EQ.valg rfl rfl (fun _ hw => (x_geq (r := true) rfl rfl (decide_eq_true (by omega)))) rfl ?_
      refine EQ.valg rfl rfl (fun _ hw => (x_pick_t rfl rfl)) rfl ?_
      refine EQ.valg rfl rfl (fun _ hw => (x_pick_f rfl rfl)) rfl ?_
      refine EQ.val (fun _ hw => (x_pick_t rfl rfl)) rfl ?_
      refine EQ.fin (fun w5 hw_ => ?_)
      replace qx := qx.bl hw_;replace q1 := q1.bl hw_;replace q2 := q2.bl hw_;replace hgw := gw_below hgw hw_;replace qb := qb.bl hw_;clear hw_
      exact EX.cutE true ⟨rfl, trivial⟩ (by repeat first | with_reducible exact (Sub.refl _).del _ | refine sub_past rfl ?_ | exact (Sub.refl _).del _ | refine sub_del rfl ?_ | refine sub_insL_nil ?_) ⟨by rw [← hbo]; unfold worse; simp; omega, qb, q1, q2, hgw⟩
     ·
      refine EC.regionQ (by kernel_rfl) (by kernel_rfl) ?_
      refine EQ.val (fun _ hw => (x_move rfl)) rfl ?_
      refine EQ.val (fun _ hw => (x_nilCheck rfl)) rfl ?_
      refine EQ.val (fun _ hw => (fa_67_0 rfl)) rfl ?_
      refine EQ.val (fun _ hw => (ld_4 rfl (below_load hw (qx.at (j := 0) rfl)))) rfl ?_
      refine EQ.val (fun _ hw => (x_move rfl)) rfl ?_
      refine EQ.valg rfl rfl (fun _ hw => (fa_67_2 rfl)) rfl ?_
      refine EQ.valg rfl rfl (fun _ hw => (ld_3 rfl (below_load hw (q2.at (j := 2) rfl)))) rfl ?_
      refine EQ.valg rfl rfl (fun _ hw => (x_move rfl)) rfl ?_
      refine EQ.valg rfl rfl (fun _ hw => (x_nilCheck rfl)) rfl ?_
      refine EQ.valg rfl rfl (fun _ hw => (fa_67_2 rfl)) rfl ?_
      refine EQ.valg rfl rfl (fun _ hw => (ld_3 rfl (below_load hw (qx.at (j := 2) rfl)))) rfl ?_
      refine EQ.valg rfl rfl (fun _ hw => (x_gtr (r := false) rfl rfl (decide_eq_false (by omega)))) rfl ?_
      refine EQ.valg rfl rfl (fun _ hw => (x_move rfl)) rfl ?_
      refine EQ.valg rfl rfl (fun _ hw => (fa_67_2 rfl)) rfl ?_
      refine EQ.valg rfl rfl (fun _ hw => (ld_3 rfl (below_load hw (q2.at (j := 2) rfl)))) rfl ?_
      refine EQ.valg rfl rfl (fun _ hw => (x_move rfl)) rfl ?_
      refine EQ.valg rfl rfl (fun _ hw => (x_nilCheck rfl)) rfl ?_
      refine EQ.valg rfl rfl (fun _ hw => (fa_67_2 rfl)) rfl ?_
      refine EQ.valg rfl rfl (fun _ hw => (ld_3 rfl (below_load hw (qx.at (j := 2) rfl)))) rfl ?_
      refine EQ.valg rfl rfl (fun _ hw => (x_eql (r := true) rfl rfl (decide_eq_true (by omega)))) rfl ?_
      refine EQ.valg rfl rfl (fun _ hw => (x_move rfl)) rfl ?_
      refine EQ.valg rfl rfl (fun _ hw => (fa_67_3 rfl)) rfl ?_
      refine EQ.valg rfl rfl (fun _ hw => (ld_3 rfl (below_load hw (q2.at (j := 3) rfl)))) rfl ?_
      refine EQ.valg rfl rfl (fun _ hw => (x_move rfl)) rfl ?_
      refine EQ.valg rfl rfl (fun _ hw => (x_nilCheck rfl)) rfl ?_
      refine EQ.valg rfl rfl (fun _ hw => (fa_67_3 rfl)) rfl ?_
      refine EQ.valg rfl rfl (fun _ hw => (ld_3 rfl (below_load hw (qx.at (j := 3) rfl)))) rfl ?_
      refine EQ.valg rfl rfl (fun _ hw => (x_geq (r := false) rfl rfl (decide_eq_false (by omega)))) rfl ?_
      refine EQ.valg rfl rfl (fun _ hw => (x_pick_t rfl rfl)) rfl ?_
      refine EQ.valg rfl rfl (fun _ hw => (x_pick_f rfl rfl)) rfl ?_
      refine EQ.val (fun _ hw => (x_pick_t rfl rfl)) rfl ?_
      refine EQ.fin (fun w6 hw_ => ?_)
      replace qx := qx.bl hw_;replace q1 := q1.bl hw_;replace q2 := q2.bl hw_;replace hgw := gw_below hgw hw_;replace qb := qb.bl hw_;clear hw_
      exact EX.cutE false ⟨rfl, trivial⟩ (by repeat first | with_reducible exact (Sub.refl _).del _ | refine sub_past rfl ?_ | exact (Sub.refl _).del _ | refine sub_del rfl ?_ | refine sub_insL_nil ?_) ⟨by rw [← hbo]; unfold worse; simp; omega, qb, q1, q2, hgw⟩
    ·
     refine EC.regionQ (by kernel_rfl) (by kernel_rfl) ?_
     refine EQ.val (fun _ hw => (x_move rfl)) rfl ?_
     refine EQ.val (fun _ hw => (x_nilCheck rfl)) rfl ?_
     refine EQ.val (fun _ hw => (fa_67_0 rfl)) rfl ?_
     refine EQ.val (fun _ hw => (ld_4 rfl (below_load hw (qx.at (j := 0) rfl)))) rfl ?_
     refine EQ.val (fun _ hw => (x_move rfl)) rfl ?_
     refine EQ.valg rfl rfl (fun _ hw => (fa_67_2 rfl)) rfl ?_
     refine EQ.valg rfl rfl (fun _ hw => (ld_3 rfl (below_load hw (q2.at (j := 2) rfl)))) rfl ?_
     refine EQ.valg rfl rfl (fun _ hw => (x_move rfl)) rfl ?_
     refine EQ.valg rfl rfl (fun _ hw => (x_nilCheck rfl)) rfl ?_
     refine EQ.valg rfl rfl (fun _ hw => (fa_67_2 rfl)) rfl ?_
     refine EQ.valg rfl rfl (fun _ hw => (ld_3 rfl (below_load hw (qx.at (j := 2) rfl)))) rfl ?_
     refine EQ.valg rfl rfl (fun _ hw => (x_gtr (r := false) rfl rfl (decide_eq_false (by omega)))) rfl ?_
     refine EQ.valg rfl rfl (fun _ hw => (x_move rfl)) rfl ?_
     refine EQ.valg rfl rfl (fun _ hw => (fa_67_2 rfl)) rfl ?_
     refine EQ.valg rfl rfl (fun _ hw => (ld_3 rfl (below_load hw (q2.at (j := 2) rfl)))) rfl ?_
     refine EQ.valg rfl rfl (fun _ hw => (x_move rfl)) rfl ?_
     refine EQ.valg rfl rfl (fun _ hw => (x_nilCheck rfl)) rfl ?_
     refine EQ.valg rfl rfl (fun _ hw => (fa_67_2 rfl)) rfl ?_
     refine EQ.valg rfl rfl (fun _ hw => (ld_3 rfl (below_load hw (qx.at (j := 2) rfl)))) rfl ?_
     refine EQ.valg rfl rfl (fun _ hw => (x_eql (r := false) rfl rfl (decide_eq_false (by omega)))) rfl ?_
     refine EQ.valg rfl rfl (fun _ hw => (x_move rfl)) rfl ?_
     refine EQ.skip rfl rfl rfl rfl (EQ.skip rfl rfl rfl rfl (EQ.skip rfl rfl rfl rfl (EQ.skip rfl rfl rfl rfl (EQ.skip rfl rfl rfl rfl (EQ.skip rfl rfl rfl rfl (EQ.skip rfl rfl rfl rfl ?_))))));refine EQ.valg rfl rfl (fun _ hw => (x_pick_f rfl rfl)) rfl ?_
     refine EQ.valg rfl rfl (fun _ hw => (x_pick_f rfl rfl)) rfl ?_
     refine EQ.val (fun _ hw => (x_pick_t rfl rfl)) rfl ?_
     refine EQ.fin (fun w7 hw_ => ?_)
     replace qx := qx.bl hw_;replace q1 := q1.bl hw_;replace q2 := q2.bl hw_;replace hgw := gw_below hgw hw_;replace qb := qb.bl hw_;clear hw_
     exact EX.cutE false ⟨rfl, trivial⟩ (by repeat first | with_reducible exact (Sub.refl _).del _ | refine sub_past rfl ?_ | exact (Sub.refl _).del _ | refine sub_del rfl ?_ | refine sub_insL_nil ?_) ⟨by rw [← hbo]; unfold worse; simp; omega, qb, q1, q2, hgw⟩
 ·
  clear qb q1 q2 hgw
  rintro x W1 ⟨hx, qb, q1, q2, hgw⟩
  cases x
  ·
   have hwo : ¬worse b.1 p = true := by rw [← hx]; decide
   refine EC.no rfl (EC.skip (EX.seq (EC.seq (EC.region (EL.val (fa_67_1 rfl) rfl (EL.val (ld_65 rfl (q2.at (j := 1) rfl)) rfl (EL.val (ln_65 rfl) rfl (EL.as rfl rfl (EL.nil ?_)))))))));refine EX.seq (EC.seq (EC.region (EL.mv rfl rfl (EL.mv rfl rfl (EL.val (x_nilCheck rfl) rfl (EL.val (fa_67_4 rfl) rfl (EL.val (ld_3 rfl (qb.at (j := 4) rfl)) rfl (EL.mv rfl rfl ?_))))))));refine EL.val (mm_max rfl rfl (show max ((b.2 : Nat) : Int) ((p.steps.length : Nat) : Int) = ((max b.2 p.steps.length : Nat) : Int) by omega)) rfl ?_
   refine EL.val (x_nilCheck rfl) rfl (EL.val (fa_67_4 rfl) rfl (EL.store rfl rfl qb sz_3 rfl rfl rfl rfl ?_));intro w8 hq8 hg8;replace q1 := q1.gr hg8 n0_1.symm;replace q2 := q2.gr hg8 n0_2.symm;replace hgw := grown_two hgw hg8;replace qb := hq8;clear hg8 hq8;refine EL.nil (EX.seq (EC.seq (EC.seq (EC.region (EL.mv rfl rfl (EL.mv rfl rfl (EL.val (ln_22 rfl) rfl ?_)))))))
   by_cases hend : p.steps.length = js.length
   ·
    refine EL.val (x_eql (r := true) rfl rfl (decide_eq_true (by omega))) rfl ?_
    refine EL.nil (EX.seq (EC.yes rfl (EC.seq (EC.region (EL.mv rfl rfl (EL.val (fa_67_1 rfl) rfl (EL.val (ld_65 rfl (q2.at (j := 1) rfl)) rfl (EL.val (fa_67_2 rfl) rfl (EL.val (ld_3 rfl (q2.at (j := 2) rfl)) rfl ?_)))))))));refine EL.val (fa_67_3 rfl) rfl (EL.val (ld_3 rfl (q2.at (j := 3) rfl)) rfl (EL.mv rfl rfl (EL.val (bd_67_0_1_2_3_4 rfl rfl rfl rfl rfl) rfl (EL.val (x_nilCheck rfl) rfl (EL.store rfl rfl qb sz_67 rfl rfl rfl rfl ?_)))));intro w9 hq9 hg9;replace q1 := q1.gr hg9 n0_1.symm;replace q2 := q2.gr hg9 n0_2.symm;replace hgw := grown_two hgw hg9;replace qb := hq9;clear hg9 hq9;refine EL.nil (EX.seq (EC.ret (EX.seq_ret ?_)));have hrn : js.drop p.steps.length = [] := by rw [hend, List.drop_length]
    exact EX.done (v := .tuple #[]) (res0 rfl) ⟨rfl, hgw, by rw [hrn, try_end hwo]; exact ⟨As, cs, qb, own_type hS qb0 rfl hgw⟩⟩
   ·
    have hlt : p.steps.length < js.length := by omega
    have hcg := hjs p.steps.length hlt;obtain ⟨cg, ecg⟩ : ∃ z, z = js.getD p.steps.length 0 := ⟨_, rfl⟩;rw [← ecg] at hcg;have hrm : js.drop p.steps.length = cg :: js.drop (p.steps.length + 1) := by rw [ecg, getD_in hlt]; exact List.drop_eq_getElem_cons hlt
    obtain ⟨rem, erm⟩ : ∃ z, z = js.drop (p.steps.length + 1) := ⟨_, rfl⟩;rw [← erm] at hrm;have IHr : TrySpec ru js rem := @IH cg rem hrm;obtain ⟨a1, ea1⟩ : ∃ z : Option Pl × Nat, z = (b.1, max b.2 p.steps.length) := ⟨_, rfl⟩;refine EL.val (x_eql (r := false) rfl rfl (decide_eq_false (by omega))) rfl ?_
    refine EL.nil (EX.seq (EC.no rfl (EC.skip (EX.seq (EC.seq (EC.region (EL.as rfl rfl (EL.nil (EX.seq ?_)))))))));refine EC.block ?_;have hbm : BestM w8 gb (accR ru (us.map (·.1)) cg rem p a1 0 0) := ⟨A, c, by rw [acc_zero, ea1]; exact qb, by rw [acc_zero, ea1]; exact own_type hbs qb0 rfl hgw⟩
    refine EC.loopD [11, 12, 13, 14, 15, 16, 17, 75, 76, 77, 78, 79, 80, 81, 82, 83, 84, 85, 86, 87, 88, 89, 90, 91, 92, 93, 94, 95, 96, 97, 98, 99, 100, 101, 102, 103, 104, 105, 106, 107, 108, 109, 110, 111, 112, 113, 114, 115, 116, 117, 118, 119, 120, 121, 122, 123, 124, 125, 126, 127, 128, 129, 130, 131, 132, 133, 134, 135, 136, 137, 138, 139, 140, 141, 142, 143, 144, 145, 146, 147, 148, 149, 150, 151, 152, 153, 154, 155] (fun x : Nat => [(11, .int .i64 (x : Nat))]) (fun x W => x ≤ us.length ∧ BestM W gb (accR ru (us.map (·.1)) cg rem p a1 x 0) ∧ Blk W g1 28 #[.slice Al ru.levels.length cl, .int .i64 ru.fade.lo, .int .i64 ru.fade.hi, .slice Aa ru.allow.length ca, .slice Ap ru.apart.length cp, .slice Ak ru.kinds.length ck] ∧ Blk W g2 67 #[.bool false, .slice As p.steps.length cs, .int .i64 p.washes, .int .i64 p.cost, .int .i64 0] ∧ w.grownBy W (some gb)) (fun x => us.length - x) 0 ⟨Nat.zero_le _, hbm, q1, q2, hgw⟩ ⟨rfl, trivial⟩ ?_
    clear hbm qb q1 q2 hgw
    rintro i wx ⟨hi, hbm, q1, q2, hgw⟩
    by_cases hlti : i < us.length
    ·
     refine EC.seq (EC.seq (EC.region (EL.mv rfl rfl (EL.mv rfl rfl (EL.val (ln_64 rfl) rfl ?_)))));refine EL.val (x_lss rfl rfl (decide_eq_true (show (((i : Nat) : Int) < ((us.length : Nat) : Int)) by omega))) rfl ?_
     refine EL.nil (EX.seq (EC.yes rfl (EC.skip (EX.seq (EC.seq (EC.block (EC.seq (EC.region (EL.as rfl rfl ?_)))))))));refine EL.nil (EX.seq (EC.block ?_));refine EC.loopD [12, 13, 14, 15, 16, 17, 81, 82, 83, 84, 85, 86, 87, 88, 89, 90, 91, 92, 93, 94, 95, 96, 97, 98, 99, 100, 101, 102, 103, 104, 105, 106, 107, 108, 109, 110, 111, 112, 113, 114, 115, 116, 117, 118, 119, 120, 121, 122, 123, 124, 125, 126, 127, 128, 129, 130, 131, 132, 133, 134, 135, 136, 137, 138, 139, 140, 141, 142, 143, 144, 145, 146, 147, 148, 149, 150, 151, 152, 153, 154, 155] (fun x : Nat => [(12, .int .i64 (((x : Nat) : Int) - 1))]) (fun x W => x ≤ (ru.kinds.length + 1) ∧ BestM W gb (accR ru (us.map (·.1)) cg rem p a1 i x) ∧ Blk W g1 28 #[.slice Al ru.levels.length cl, .int .i64 ru.fade.lo, .int .i64 ru.fade.hi, .slice Aa ru.allow.length ca, .slice Ap ru.apart.length cp, .slice Ak ru.kinds.length ck] ∧ Blk W g2 67 #[.bool false, .slice As p.steps.length cs, .int .i64 p.washes, .int .i64 p.cost, .int .i64 0] ∧ w.grownBy W (some gb)) (fun x => (ru.kinds.length + 1) - x) 0 ⟨Nat.zero_le _, hbm, q1, q2, hgw⟩ ⟨rfl, trivial⟩ ?_
     clear hbm q1 q2 hgw
     rintro kk wk ⟨hk, hbm, q1, q2, hgw⟩
     by_cases hltk : kk < (ru.kinds.length + 1)
     ·
      obtain ⟨k, ek⟩ : ∃ z : Int, z = ((kk : Nat) : Int) - 1 := ⟨_, rfl⟩;rw [← ek];have hkin : k ∈ kindsL ru.kinds.length := by rw [ek]; exact kk_in hltk
      obtain ⟨A, c, qb, hbs⟩ := hbm;obtain ⟨av, eav⟩ : ∃ z, z = (accR ru (us.map (·.1)) cg rem p a1 i kk) := ⟨_, rfl⟩;rw [← eav] at qb hbs
      unfold bestC at qb
      have hgB := gw_B hgw hBg hBw;have hrk := hr.below hgB;have hvk := hv.below hgB;have hBk := Nat.le_trans hBw hgw.size;have hTk := hT.type qb0 rfl rfl rfl hgw;have hSk : stsAt wk p.steps As cs := own_type hS qb0 rfl hgw;have qbk := qb;have hgx : wk.grownBy wk (some gb) := gw_refl wk gb;obtain ⟨bt, ot, eT, _, d0, d1⟩ := rks_cells us i hlti wk wk.heap.size _ _ _ (Rd.of_own hTk.own);obtain ⟨⟨u, ⟨U1, x1⟩, U2, x2⟩, etk⟩ : ∃ z, z = us.getD i tk00 := ⟨_, rfl⟩;have hu1 := hTk.getR hlti;have hu2 := hTk.getA hlti;rw [← etk] at d0 d1 hu1 hu2
      dsimp only at d0 d1 hu1 hu2
      have hui : us.getD i tk00 ∈ us := by rw [getD_in hlti]; exact List.getElem_mem _
      have hur := hok _ hui;rw [← etk] at hur
      dsimp only at hur
      have eui : (us.map (·.1)).getD i rt0 = u := by rw [map_getD (d := tk00) hlti, ← etk]
      obtain ⟨bb, hbb⟩ : ∃ bb, decide (k ≥ 0) = bb := ⟨_, rfl⟩;refine EC.seq (EC.seq (EC.region (EL.mv rfl rfl (EL.val (fa_28_4 rfl) rfl (EL.val (ld_26 rfl (q1.at (j := 5) rfl)) rfl (EL.val (ln_26 rfl) rfl ?_))))));refine EL.val (x_lss (r := true) rfl rfl (decide_eq_true (by omega))) rfl ?_
      refine EL.nil (EX.seq (EC.yes rfl (EC.skip (EX.seq (EC.seq (EC.block (EC.seq ?_)))))));have hsz := hgx.size;have lt_1 := q1.lt;have lt_2 := q2.lt;have lt_0 := qb.lt;refine EC.regionS [[], [], [], [1, 2], [1, 2, 3], [], [], [0, 5, 6], [0, 1, 2, 3, 4, 5, 6, 7]] 8 [5, 6] [7] (fun _ w_ => Below wk.heap.size wk w_) (phiS (fun i_ r => match i_ with | 0 => r 0 = .agg #[.bool false, .slice As p.steps.length cs, .int .i64 p.washes, .int .i64 p.cost, .int .i64 0] | 1 => r 1 = .slice At us.length ct | 2 => r 2 = .int .i64 (i : Nat) | 3 => r 3 = .pointer (some ⟨bt, ot + i * 2, none⟩) | 4 => r 4 = .agg #[.slice U1 ru.levels.length x1, .slice U2 ru.levels.length x2] | _ => True) [(5, fun fl r w_ => ∃ g_, r 5 = .pointer (some ⟨g_, 0, none⟩) ∧ wk.heap.size ≤ g_ ∧ (fl 7 = false → Blk w_ g_ 67 #[.bool false, .slice none 0 0, .int .i64 0, .int .i64 0, .int .i64 0])), (6, fun _ r w_ => ∃ g_, r 6 = .pointer (some ⟨g_, 0, none⟩) ∧ wk.heap.size ≤ g_ ∧ Blk w_ g_ 62 #[.slice none 0 0, .slice none 0 0]), (7, fun _ r w_ => ∃ g_, r 5 = .pointer (some ⟨g_, 0, none⟩) ∧ Blk w_ g_ 67 #[.bool false, .slice As p.steps.length cs, .int .i64 p.washes, .int .i64 p.cost, .int .i64 0])]) (by kernel_rfl) rfl rfl (by intro i hi; simp at hi; first | (subst hi; exact ⟨by simp, by omega⟩) | (rcases hi with rfl | rfl | rfl <;> exact ⟨by simp, by omega⟩) | (rcases hi with rfl | rfl <;> exact ⟨by simp, by omega⟩)) (base_below wk) (phiS_cons monoS_alloc (phiS_cons monoS_alloc0 (phiS_cons monoS_store (phiS_nil)))) (fun i_ hi_ hs_ => ?_) (fun i_ hi_ => ?_) ?_
      ·match i_, hi_ with
       | 0, _ =>
        intro val fl w1 a hb ha hd hfl;have ha := ha.s0 (d := 8) rfl
        exact ss_val ha rfl rfl (ld_67 rfl ((q2.below hb q2.lt).at (j := 0) rfl) ((q2.below hb q2.lt).at (j := 1) rfl) ((q2.below hb q2.lt).at (j := 2) rfl) ((q2.below hb q2.lt).at (j := 3) rfl) ((q2.below hb q2.lt).at (j := 4) rfl)) rfl rfl
       | 1, _ =>
        intro val fl w1 a hb ha hd hfl;have ha := ha.s0 (d := 1) rfl
        exact ss_val ha rfl rfl (x_move rfl) rfl rfl
       | 2, _ =>
        intro val fl w1 a hb ha hd hfl;have ha := ha.s0 (d := 11) rfl
        exact ss_val ha rfl rfl (x_move rfl) rfl rfl
       | 3, _ =>
        intro val fl w1 a hb ha hd hfl;have e1 : val 1 = .slice At us.length ct := hd 1 (memB_mem.1 rfl);have e2 : val 2 = .int .i64 (i : Nat) := hd 2 (memB_mem.1 rfl);have ha := ha.s2 (d := 90) (e := 89) rfl e2 rfl e1
        exact ss_val ha rfl rfl (ix_64 (by show some (Value.slice At _ _) = _; rw [eT]) rfl hlti) rfl rfl
       | 4, _ =>
        intro val fl w1 a hb ha hd hfl;have e3 : val 3 = .pointer (some ⟨bt, ot + i * 2, none⟩) := hd 3 (memB_mem.1 rfl);have ha := ha.s1 (d := 91) rfl e3
        exact ss_val ha rfl rfl (ld_62 rfl (below_load hb d0) (below_load hb d1)) rfl rfl
       | 5, _ =>
        intro val fl w1 a hb ha hd hfl;have ha := ha.sub (Sub.nil _)
        exact ss_newP ha rfl rfl al_67 (fun g w' hq _ hge => ⟨g, rfl, Nat.le_trans hb.size hge, fun _ => hq⟩)
       | 6, _ =>
        intro val fl w1 a hb ha hd hfl;have ha := ha.sub (Sub.nil _)
        exact ss_newP ha rfl rfl al_62 (fun g w' hq _ hge => ⟨g, rfl, Nat.le_trans hb.size hge, hq⟩)
       | 7, _ =>
        exact absurd (by simp) hs_
       | k + 8, h => exact absurd h (by omega)
      ·simp only [List.mem_singleton] at hi_; subst hi_
       intro val fl w1 a hb hfi ha hd hfl;obtain ⟨g5_, e5, hg5_, q5_⟩ := hd 5 (memB_mem.1 rfl);change val 5 = _ at e5;have e0 : val 0 = .agg #[.bool false, .slice As p.steps.length cs, .int .i64 p.washes, .int .i64 p.cost, .int .i64 0] := hd 0 (memB_mem.1 rfl);have ha := ha.s2 (d := 88) (e := 13) rfl e0 rfl e5;refine ts_store ha rfl rfl rfl (q5_ hfi) sz_67 rfl rfl rfl rfl ?_;intro w' hq hgr;refine ⟨undef, rfl, hgr.size, below_store hb hgr hg5_, ⟨g5_, e5, hq⟩, fun j _ hj hn hA => ?_⟩
       exact phiS_cons_st (C := fun j => j ≠ 7 ∧ 7 ∉ clsAt [[], [], [], [1, 2], [1, 2, 3], [], [], [0, 5, 6], [0, 1, 2, 3, 4, 5, 6, 7]] j ∧ ∀ p ∈ [5, 6], (p = j ∨ p ∈ clsAt [[], [], [], [1, 2], [1, 2, 3], [], [], [0, 5, 6], [0, 1, 2, 3, 4, 5, 6, 7]] j) → ∀ q ∈ [5, 6], (q = 7 ∨ q ∈ clsAt [[], [], [], [1, 2], [1, 2, 3], [], [], [0, 5, 6], [0, 1, 2, 3, 4, 5, 6, 7]] 7) → p ≠ q → val p ≠ val q) (fun _ ⟨g, h1, h2, _⟩ => ⟨g, h1, h2, fun h => by rw [fset_eq] at h; cases h⟩) (phiS_cons_st (C := fun j => j ≠ 7 ∧ 7 ∉ clsAt [[], [], [], [1, 2], [1, 2, 3], [], [], [0, 5, 6], [0, 1, 2, 3, 4, 5, 6, 7]] j ∧ ∀ p ∈ [5, 6], (p = j ∨ p ∈ clsAt [[], [], [], [1, 2], [1, 2, 3], [], [], [0, 5, 6], [0, 1, 2, 3, 4, 5, 6, 7]] j) → ∀ q ∈ [5, 6], (q = 7 ∨ q ∈ clsAt [[], [], [], [1, 2], [1, 2, 3], [], [], [0, 5, 6], [0, 1, 2, 3, 4, 5, 6, 7]] 7) → p ≠ q → val p ≠ val q) (fun hc ⟨g, h1, h2, h3⟩ => ⟨g, h1, h2, h3.grown hgr (fun h => hc.2.2 6 (by simp) (.inl rfl) 5 (by simp) (.inr (memB_mem.1 rfl)) (by simp) (by have h1' : val 6 = _ := h1; rw [h1', e5]; injection h with h; rw [h]))⟩) (phiS_cons_st (C := fun j => j ≠ 7 ∧ 7 ∉ clsAt [[], [], [], [1, 2], [1, 2, 3], [], [], [0, 5, 6], [0, 1, 2, 3, 4, 5, 6, 7]] j ∧ ∀ p ∈ [5, 6], (p = j ∨ p ∈ clsAt [[], [], [], [1, 2], [1, 2, 3], [], [], [0, 5, 6], [0, 1, 2, 3, 4, 5, 6, 7]] j) → ∀ q ∈ [5, 6], (q = 7 ∨ q ∈ clsAt [[], [], [], [1, 2], [1, 2, 3], [], [], [0, 5, 6], [0, 1, 2, 3, 4, 5, 6, 7]] 7) → p ≠ q → val p ≠ val q) (fun hc => absurd rfl hc.1) (fun _ _ h => h))) j ⟨hj, hn, hA⟩
      ·intro val fl wR12 hfl hb halc hd
       have e0 : val 0 = .agg #[.bool false, .slice As p.steps.length cs, .int .i64 p.washes, .int .i64 p.cost, .int .i64 0] := hd 0 (by omega)
       have e1 : val 1 = .slice At us.length ct := hd 1 (by omega)
       have e2 : val 2 = .int .i64 (i : Nat) := hd 2 (by omega)
       have e3 : val 3 = .pointer (some ⟨bt, ot + i * 2, none⟩) := hd 3 (by omega)
       have e4 : val 4 = .agg #[.slice U1 ru.levels.length x1, .slice U2 ru.levels.length x2] := hd 4 (by omega)
       obtain ⟨ga5_12, e5, qa5_12⟩ := hd 7 (by omega)
       change val 5 = _ at e5;obtain ⟨ga6_12, e6, _, qa6_12⟩ := hd 6 (by omega)
       change val 6 = _ at e6;refine EL.ends (cs := [.agg #[.bool false, .slice As p.steps.length cs, .int .i64 p.washes, .int .i64 p.cost, .int .i64 0], .slice At us.length ct, .int .i64 (i : Nat), .pointer (some ⟨bt, ot + i * 2, none⟩), .agg #[.slice U1 ru.levels.length x1, .slice U2 ru.levels.length x2], .pointer (some ⟨ga5_12, 0, none⟩), .pointer (some ⟨ga6_12, 0, none⟩), val 7]) ⟨e0, e1, e2, e3, e4, e5, e6, rfl, trivial⟩ rfl ?_;replace q1 := q1.bl hb;replace q2 := q2.bl hb;replace qb := qb.bl hb;replace hgx := gw_below hgx hb;replace hu1 := own_below hu1 hb (Nat.le_refl _);replace hu2 := own_below hu2 hb (Nat.le_refl _);have bge10 := alc_ge halc (i := 5) rfl rfl e5;have n1_10 : g1 ≠ ga5_12 := Nat.ne_of_lt (Nat.lt_of_lt_of_le lt_1 bge10);have n2_10 : g2 ≠ ga5_12 := Nat.ne_of_lt (Nat.lt_of_lt_of_le lt_2 bge10);have n0_10 : gb ≠ ga5_12 := Nat.ne_of_lt (Nat.lt_of_lt_of_le lt_0 bge10);have bge11 := alc_ge halc (i := 6) rfl rfl e6;have n1_11 : g1 ≠ ga6_12 := Nat.ne_of_lt (Nat.lt_of_lt_of_le lt_1 bge11);have n2_11 : g2 ≠ ga6_12 := Nat.ne_of_lt (Nat.lt_of_lt_of_le lt_2 bge11);have n0_11 : gb ≠ ga6_12 := Nat.ne_of_lt (Nat.lt_of_lt_of_le lt_0 bge11);have n10_11 : ga5_12 ≠ ga6_12 := alc_ne halc (i := 5) (j := 6) rfl rfl rfl rfl rfl e5 e6;have bx10 := Nat.le_trans hsz bge10;have bx11 := Nat.le_trans hsz bge11;refine EL.store rfl rfl qa6_12 sz_62 rfl rfl rfl rfl ?_;intro w12 hq12 hg12;replace q1 := q1.gr hg12 n1_11;replace q2 := q2.gr hg12 n2_11;replace qb := qb.gr hg12 n0_11;replace qa5_12 := qa5_12.gr hg12 n10_11;replace hgx := gw_store hgx hg12 bx11;replace hu1 := own_type hu1 qa6_12 rfl hg12;replace hu2 := own_type hu2 qa6_12 rfl hg12;replace qa6_12 := hq12;clear hg12 hq12;refine EL.nil (EX.seq ?_);refine EC.cutD [93, 94, 95, 96, 97, 98, 99, 100, 101, 102, 103, 104, 105, 106, 107, 108, 109, 110, 111, 112, 113] (fun x : Option Addr × Nat × Option Addr × Nat => []) (fun x W => Blk W ga5_12 67 #[.bool false, .slice As p.steps.length cs, .int .i64 (p.washes + numK k), .int .i64 (p.cost + kcost ru k), .int .i64 0] ∧ Blk W ga6_12 62 #[.slice x.1 ru.levels.length x.2.1, .slice x.2.2.1 ru.levels.length x.2.2.2] ∧ W.ownsRow 0 24 2 (.slice x.1 ru.levels.length x.2.1) ru.levels.length (bdsC (wayR ru u k).res) ∧ W.ownsRow 0 3 1 (.slice x.2.2.1 ru.levels.length x.2.2.2) ru.levels.length (ints (wayR ru u k).aft) ∧ Blk W gb 67 #[.bool av.1.isSome, .slice A (bp av).steps.length c, .int .i64 (bp av).washes, .int .i64 (bp av).cost, .int .i64 (av.2 : Nat)] ∧ Blk W g1 28 #[.slice Al ru.levels.length cl, .int .i64 ru.fade.lo, .int .i64 ru.fade.hi, .slice Aa ru.allow.length ca, .slice Ap ru.apart.length cp, .slice Ak ru.kinds.length ck] ∧ Blk W g2 67 #[.bool false, .slice As p.steps.length cs, .int .i64 p.washes, .int .i64 p.cost, .int .i64 0] ∧ wk.grownBy W (some gb)) ?_ ?_
       ·
        cases bb
        ·
         have hkn : k < 0 := by have := of_decide_eq_false hbb; omega
         have hnk : numK k = 0 := if_pos hkn;have hck : kcost ru k = 0 := if_pos hkn;have hwk : wayR ru u k = u := if_pos hkn;refine EC.seq (EC.region (EL.mv rfl rfl (EL.val (x_geq rfl rfl hbb) rfl (EL.nil (EX.seq (EC.no rfl (EC.skip ?_)))))))
         exact EX.cutE (U1, x1, U2, x2) trivial (by repeat first | with_reducible exact (Sub.refl _).del _ | refine sub_past rfl ?_ | exact (Sub.refl _).del _ | refine sub_del rfl ?_ | refine sub_insL_nil ?_) ⟨by rw [hnk, hck, Int.add_zero, Int.add_zero]; exact qa5_12, qa6_12, by rw [hwk]; exact hu1, by rw [hwk]; exact hu2, qb, q1, q2, hgx⟩
        ·
         have hkn : ¬k < 0 := by have := of_decide_eq_true hbb; omega
         have hnk : numK k = 1 := if_neg hkn;have hck : kcost ru k = (ru.kinds.getD k.toNat kd0).cost := if_neg hkn;have hwk : wayR ru u k = stepR ru u ⟨2, k⟩ := if_neg hkn;obtain ⟨j, hj, ekj⟩ : ∃ j : Nat, j < ru.kinds.length ∧ k = ((j : Nat) : Int) := by rcases kinds_in hkin with h | h; omega; exact h
         have hkd := kd_bd hro k.toNat;obtain ⟨hp1, hp2, hp3, hp4, hp5⟩ := hp;refine EC.seq (EC.region (EL.mv rfl rfl (EL.val (x_geq rfl rfl hbb) rfl (EL.nil (EX.seq (EC.yes rfl (EC.seq (EC.region (EL.val (ld_28 rfl (q1.at (j := 0) rfl) (q1.at (j := 1) rfl) (q1.at (j := 2) rfl) (q1.at (j := 3) rfl) (q1.at (j := 4) rfl) (q1.at (j := 5) rfl)) rfl ?_)))))))));refine EL.val (ld_62 rfl (qa6_12.at (j := 0) rfl) (qa6_12.at (j := 1) rfl)) rfl (EL.mv rfl rfl (EL.val (bd_50_0_1 rfl rfl) rfl ?_));refine EL.call (cl_58 rfl rfl rfl) rfl (Step_any (x := ⟨2, k⟩) (hrk.below (gw_B hgx hBg hBk)) (Nat.le_trans hBk hgx.size) hro hur (by omega) (Rd.of_own hu1) (Rd.of_own hu2) (Nat.le_refl _) (by rw [ekj]; exact ev_wash hj)) ?_
         rintro e w13 ⟨⟨B1, f1, B2, f2, rfl, p1, p2⟩, hc13⟩
         refine ⟨_, rfl, ?_⟩;replace p1 := own_less p1 (Nat.zero_le _);replace p2 := own_less p2 (Nat.zero_le _);replace q1 := q1.bl hc13;replace q2 := q2.bl hc13;replace qb := qb.bl hc13;replace qa5_12 := qa5_12.bl hc13;replace qa6_12 := qa6_12.bl hc13;replace hgx := gw_below hgx hc13;replace hu1 := own_below hu1 hc13 (Nat.le_refl _);replace hu2 := own_below hu2 hc13 (Nat.le_refl _);clear hc13 hu1 hu2;refine EL.store rfl rfl qa6_12 sz_62 rfl rfl rfl rfl ?_;intro w14 hq14 hg14;replace q1 := q1.gr hg14 n1_11;replace q2 := q2.gr hg14 n2_11;replace qb := qb.gr hg14 n0_11;replace qa5_12 := qa5_12.gr hg14 n10_11;replace hgx := gw_store hgx hg14 bx11;replace p1 := own_type p1 qa6_12 rfl hg14;replace p2 := own_type p2 qa6_12 rfl hg14;replace qa6_12 := hq14;clear hg14 hq14;refine EL.nil (EX.seq ?_);have hrz := hrk.below (gw_B hgx hBg hBk);obtain ⟨bk, ok, eAk, hbk, hkc⟩ := kds_cells ru.kinds j hj w14 B _ _ _ hrz.kinds;have hszk := Nat.le_trans hBk hgx.size;have hnk1 : bk < w14.heap.size := Nat.lt_of_lt_of_le hbk hszk;have hnk2 : some bk ≠ some ga5_12 := fun e => by injection e with e; have := bx10; omega
         have hkj : k.toNat = j := by rw [ekj]; exact Int.toNat_natCast j
         rw [hkj] at hkd hck;have qz_ := qa5_12;have lt_1 := q1.lt;have lt_2 := q2.lt;have lt_0 := qb.lt;have lt_10 := qa5_12.lt;have lt_11 := qa6_12.lt;refine EC.regionS [[], [0], [0, 1], [], [3], [], [5], [], [5, 6, 7], [5, 6, 7, 8], [5, 6, 7, 8, 9], [3, 4, 5, 6, 7, 8, 9, 10], [0, 1, 2, 3, 4], [0, 1, 2, 3, 4, 12], [0, 1, 2, 3, 4, 5, 6, 7, 8, 9, 10, 11, 12, 13], [0, 1, 2, 3, 4, 5, 6, 7, 8, 9, 10, 11, 12, 13, 14]] 14 [] [13] (fun fl w_ => w14.grownBy w_ (some ga5_12) ∧ (fl 13 = false → Blk w_ ga5_12 67 _)) (phiS (fun i_ r => match i_ with | 0 => r 0 = .pointer (some ⟨ga5_12, 2, none⟩) | 1 => r 1 = .int .i64 p.washes | 2 => r 2 = .int .i64 (p.washes + 1) | 3 => r 3 = .pointer (some ⟨ga5_12, 3, none⟩) | 4 => r 4 = .int .i64 p.cost | 5 => r 5 = .pointer (some ⟨g1, 5, none⟩) | 6 => r 6 = .slice Ak ru.kinds.length ck | 7 => r 7 = .int .i64 k | 8 => r 8 = .pointer (some ⟨bk, ok + j * 5, none⟩) | 9 => r 9 = .pointer (some ⟨bk, ok + j * 5 + 4, none⟩) | 10 => r 10 = .int .i64 (ru.kinds.getD j kd0).cost | 11 => r 11 = .int .i64 (p.cost + (ru.kinds.getD j kd0).cost) | 12 => r 12 = .pointer (some ⟨ga5_12, 2, none⟩) | _ => True) [(13, fun _ r w_ => Blk w_ ga5_12 67 #[.bool false, .slice As p.steps.length cs, .int .i64 (p.washes + 1), .int .i64 p.cost, .int .i64 0])]) (by kernel_rfl) rfl rfl (by intro i hi; simp at hi; first | (subst hi; exact ⟨by simp, by omega⟩) | (rcases hi with rfl | rfl | rfl <;> exact ⟨by simp, by omega⟩) | (rcases hi with rfl | rfl <;> exact ⟨by simp, by omega⟩)) (base_own qa5_12) (phiS_cons monoS_own (phiS_nil)) (fun i_ hi_ hs_ => ?_) (fun i_ hi_ => ?_) ?_
         ·match i_, hi_ with
          | 0, _ =>
           intro val fl w1 a hb ha hd hfl;obtain ⟨hb, hg0⟩ := hb;have ha := ha.s0 (d := 13) rfl
           exact ss_val ha rfl rfl (fa_67_2 rfl) rfl rfl
          | 1, _ =>
           intro val fl w1 a hb ha hd hfl;obtain ⟨hb, hg0⟩ := hb;have e0 : val 0 = .pointer (some ⟨ga5_12, 2, none⟩) := hd 0 (memB_mem.1 rfl);have ha := ha.s1 (d := 100) rfl e0
           exact ss_val ha rfl rfl (ld_3 rfl ((hg0 (hfl 13 (by simp) (memB_mem.1 rfl))).at (j := 2) rfl)) rfl rfl
          | 2, _ =>
           intro val fl w1 a hb ha hd hfl;obtain ⟨hb, hg0⟩ := hb;have e1 : val 1 = .int .i64 p.washes := hd 1 (memB_mem.1 rfl);have ha := ha.s1 (d := 101) rfl e1
           exact ss_val ha rfl rfl (x_add rfl rfl (by first | assumption | exact IntWalk.i64_in _ ⟨by omega, by omega⟩)) rfl rfl
          | 3, _ =>
           intro val fl w1 a hb ha hd hfl;obtain ⟨hb, hg0⟩ := hb;have ha := ha.s0 (d := 13) rfl
           exact ss_val ha rfl rfl (fa_67_3 rfl) rfl rfl
          | 4, _ =>
           intro val fl w1 a hb ha hd hfl;obtain ⟨hb, hg0⟩ := hb;have e3 : val 3 = .pointer (some ⟨ga5_12, 3, none⟩) := hd 3 (memB_mem.1 rfl);have ha := ha.s1 (d := 103) rfl e3
           exact ss_val ha rfl rfl (ld_3 rfl ((hg0 (hfl 13 (by simp) (memB_mem.1 rfl))).at (j := 3) rfl)) rfl rfl
          | 5, _ =>
           intro val fl w1 a hb ha hd hfl;obtain ⟨hb, hg0⟩ := hb;have ha := ha.s0 (d := 5) rfl
           exact ss_val ha rfl rfl (fa_28_4 rfl) rfl rfl
          | 6, _ =>
           intro val fl w1 a hb ha hd hfl;obtain ⟨hb, hg0⟩ := hb;have e5 : val 5 = .pointer (some ⟨g1, 5, none⟩) := hd 5 (memB_mem.1 rfl);have ha := ha.s1 (d := 105) rfl e5
           exact ss_val ha rfl rfl (ld_26 rfl ((q1.grown hb (fun h => n1_10 (Option.some.inj h))).at (j := 5) rfl)) rfl rfl
          | 7, _ =>
           intro val fl w1 a hb ha hd hfl;obtain ⟨hb, hg0⟩ := hb;have ha := ha.s0 (d := 12) rfl
           exact ss_val ha rfl rfl (x_move rfl) rfl rfl
          | 8, _ =>
           intro val fl w1 a hb ha hd hfl;obtain ⟨hb, hg0⟩ := hb;have e6 : val 6 = .slice Ak ru.kinds.length ck := hd 6 (memB_mem.1 rfl);have e7 : val 7 = .int .i64 k := hd 7 (memB_mem.1 rfl);have ha := ha.s2 (d := 107) (e := 106) rfl e7 rfl e6
           exact ss_val ha rfl rfl (ix_26 (by show some (Value.slice Ak _ _) = _; rw [eAk]) (by show some (Value.int .i64 k) = _; rw [ekj]) hj) rfl rfl
          | 9, _ =>
           intro val fl w1 a hb ha hd hfl;obtain ⟨hb, hg0⟩ := hb;have e8 : val 8 = .pointer (some ⟨bk, ok + j * 5, none⟩) := hd 8 (memB_mem.1 rfl);have ha := ha.s1 (d := 108) rfl e8
           exact ss_val ha rfl rfl (fa_52_3 rfl) rfl rfl
          | 10, _ =>
           intro val fl w1 a hb ha hd hfl;obtain ⟨hb, hg0⟩ := hb;have e9 : val 9 = .pointer (some ⟨bk, ok + j * 5 + 4, none⟩) := hd 9 (memB_mem.1 rfl);have ha := ha.s1 (d := 109) rfl e9
           exact ss_val ha rfl rfl (ld_3 rfl ((hb.cell_far ⟨bk, ok + j * 5 + 4, none⟩ hnk1 hnk2).trans hkc.c4)) rfl rfl
          | 11, _ =>
           intro val fl w1 a hb ha hd hfl;obtain ⟨hb, hg0⟩ := hb;have e4 : val 4 = .int .i64 p.cost := hd 4 (memB_mem.1 rfl);have e10 : val 10 = .int .i64 (ru.kinds.getD j kd0).cost := hd 10 (memB_mem.1 rfl);have ha := ha.s2 (d := 110) (e := 104) rfl e10 rfl e4
           exact ss_val ha rfl rfl (x_add rfl rfl (by first | assumption | exact IntWalk.i64_in _ ⟨by omega, by omega⟩)) rfl rfl
          | 12, _ =>
           intro val fl w1 a hb ha hd hfl;obtain ⟨hb, hg0⟩ := hb;have ha := ha.s0 (d := 13) rfl
           exact ss_val ha rfl rfl (fa_67_2 rfl) rfl rfl
          | 13, _ =>
           exact absurd (by simp) hs_
          | k + 14, h => exact absurd h (by omega)
         ·simp only [List.mem_singleton] at hi_; subst hi_
          intro val fl w1 a hb hfi ha hd hfl;obtain ⟨hb, hg0⟩ := hb;have e12 : val 12 = .pointer (some ⟨ga5_12, 2, none⟩) := hd 12 (memB_mem.1 rfl);have e2 : val 2 = .int .i64 (p.washes + 1) := hd 2 (memB_mem.1 rfl);have ha := ha.s2 (d := 102) (e := 112) rfl e2 rfl e12;refine ts_store ha rfl rfl rfl (hg0 hfi) sz_3 rfl rfl rfl rfl ?_;intro w' hq hgr;refine ⟨undef, rfl, hgr.size, ⟨grown_two hb hgr, fun h => by rw [fset_eq] at h; cases h⟩, hq, fun j _ hj hn hA => ?_⟩
          exact phiS_cons_st (C := fun j => j ≠ 13 ∧ 13 ∉ clsAt [[], [0], [0, 1], [], [3], [], [5], [], [5, 6, 7], [5, 6, 7, 8], [5, 6, 7, 8, 9], [3, 4, 5, 6, 7, 8, 9, 10], [0, 1, 2, 3, 4], [0, 1, 2, 3, 4, 12], [0, 1, 2, 3, 4, 5, 6, 7, 8, 9, 10, 11, 12, 13], [0, 1, 2, 3, 4, 5, 6, 7, 8, 9, 10, 11, 12, 13, 14]] j ∧ ∀ p ∈ [], (p = j ∨ p ∈ clsAt [[], [0], [0, 1], [], [3], [], [5], [], [5, 6, 7], [5, 6, 7, 8], [5, 6, 7, 8, 9], [3, 4, 5, 6, 7, 8, 9, 10], [0, 1, 2, 3, 4], [0, 1, 2, 3, 4, 12], [0, 1, 2, 3, 4, 5, 6, 7, 8, 9, 10, 11, 12, 13], [0, 1, 2, 3, 4, 5, 6, 7, 8, 9, 10, 11, 12, 13, 14]] j) → ∀ q ∈ [], (q = 13 ∨ q ∈ clsAt [[], [0], [0, 1], [], [3], [], [5], [], [5, 6, 7], [5, 6, 7, 8], [5, 6, 7, 8, 9], [3, 4, 5, 6, 7, 8, 9, 10], [0, 1, 2, 3, 4], [0, 1, 2, 3, 4, 12], [0, 1, 2, 3, 4, 5, 6, 7, 8, 9, 10, 11, 12, 13], [0, 1, 2, 3, 4, 5, 6, 7, 8, 9, 10, 11, 12, 13, 14]] 13) → p ≠ q → val p ≠ val q) (fun hc => absurd rfl hc.1) (fun _ _ h => h) j ⟨hj, hn, hA⟩
         ·intro val fl wR15 hfl hb halc hd
          obtain ⟨hb, _⟩ := hb;have e0 : val 0 = .pointer (some ⟨ga5_12, 2, none⟩) := hd 0 (by omega)
          have e1 : val 1 = .int .i64 p.washes := hd 1 (by omega)
          have e2 : val 2 = .int .i64 (p.washes + 1) := hd 2 (by omega)
          have e3 : val 3 = .pointer (some ⟨ga5_12, 3, none⟩) := hd 3 (by omega)
          have e4 : val 4 = .int .i64 p.cost := hd 4 (by omega)
          have e5 : val 5 = .pointer (some ⟨g1, 5, none⟩) := hd 5 (by omega)
          have e6 : val 6 = .slice Ak ru.kinds.length ck := hd 6 (by omega)
          have e7 : val 7 = .int .i64 k := hd 7 (by omega)
          have e8 : val 8 = .pointer (some ⟨bk, ok + j * 5, none⟩) := hd 8 (by omega)
          have e9 : val 9 = .pointer (some ⟨bk, ok + j * 5 + 4, none⟩) := hd 9 (by omega)
          have e10 : val 10 = .int .i64 (ru.kinds.getD j kd0).cost := hd 10 (by omega)
          have e11 : val 11 = .int .i64 (p.cost + (ru.kinds.getD j kd0).cost) := hd 11 (by omega)
          have e12 : val 12 = .pointer (some ⟨ga5_12, 2, none⟩) := hd 12 (by omega)
          refine EL.ends (cs := [.pointer (some ⟨ga5_12, 2, none⟩), .int .i64 p.washes, .int .i64 (p.washes + 1), .pointer (some ⟨ga5_12, 3, none⟩), .int .i64 p.cost, .pointer (some ⟨g1, 5, none⟩), .slice Ak ru.kinds.length ck, .int .i64 k, .pointer (some ⟨bk, ok + j * 5, none⟩), .pointer (some ⟨bk, ok + j * 5 + 4, none⟩), .int .i64 (ru.kinds.getD j kd0).cost, .int .i64 (p.cost + (ru.kinds.getD j kd0).cost), .pointer (some ⟨ga5_12, 2, none⟩), val 13]) ⟨e0, e1, e2, e3, e4, e5, e6, e7, e8, e9, e10, e11, e12, rfl, trivial⟩ rfl ?_;replace q1 := q1.gr hb n1_10;replace q2 := q2.gr hb n2_10;replace qb := qb.gr hb n0_10;have qa5_12 : Blk wR15 ga5_12 67 #[.bool false, .slice As p.steps.length cs, .int .i64 (p.washes + 1), .int .i64 p.cost, .int .i64 0] := hd 13 (by omega)
          replace qa6_12 := qa6_12.gr hb n10_11.symm;replace hgx := gw_store hgx hb bx10;replace p1 := own_type p1 qz_ rfl hb;replace p2 := own_type p2 qz_ rfl hb;refine EL.val (fa_67_3 rfl) rfl (EL.store rfl rfl qa5_12 sz_3 rfl rfl rfl rfl ?_);intro w15 hq15 hg15;replace q1 := q1.gr hg15 n1_10;replace q2 := q2.gr hg15 n2_10;replace qb := qb.gr hg15 n0_10;replace qa6_12 := qa6_12.gr hg15 n10_11.symm;replace hgx := gw_store hgx hg15 bx10;replace p1 := own_type p1 qa5_12 rfl hg15;replace p2 := own_type p2 qa5_12 rfl hg15;replace qa5_12 := hq15;clear hg15 hq15;refine EL.nil ?_
          exact EX.cutE (B1, f1, B2, f2) trivial (by repeat first | with_reducible exact (Sub.refl _).del _ | refine sub_past rfl ?_ | exact (Sub.refl _).del _ | refine sub_del rfl ?_ | refine sub_insL_nil ?_) ⟨by rw [hnk, hck]; exact qa5_12, qa6_12, by rw [hwk]; exact p1, by rw [hwk]; exact p2, qb, q1, q2, hgx⟩
       ·
        clear qb q1 q2 qa5_12 qa6_12 hu1 hu2 hgx
        rintro ⟨V1, f1, V2, f2⟩ W2 ⟨qa5_12, qa6_12, hu1, hu2, qb, q1, q2, hgx⟩
        dsimp only at qa6_12 hu1 hu2
        refine EC.seq (EC.seq ?_);have hrz := hrk.below (gw_B hgx hBg hBk);have hBz := Nat.le_trans hBk hgx.size;obtain ⟨bj, oj, ej, _, hjc⟩ := ints_cells (jsI js) p.steps.length (by rw [jsI_len]; exact hlt) W2 B _ _ _ (hvk.below (gw_B hgx hBg hBk))
        rw [jsI_at hlt, ← ecg] at hjc;have hway := way_rt hro hur hkin;have lt_1 := q1.lt;have lt_2 := q2.lt;have lt_0 := qb.lt;have lt_10 := qa5_12.lt;have lt_11 := qa6_12.lt;refine EC.regionP [[], [], [], [], [2, 3], [2, 3, 4], [0, 1, 2, 3, 4, 5], [0, 1, 2, 3, 4, 5, 6], [0, 1, 2, 3, 4, 5, 6, 7], [0, 1, 2, 3, 4, 5, 6, 7], [0, 1, 2, 3, 4, 5, 6, 7, 8], [0, 1, 2, 3, 4, 5, 6, 7, 8, 9, 10]] 11 [] (phi (fun i_ r => match i_ with | 0 => r 0 = .agg #[.slice Al ru.levels.length cl, .int .i64 ru.fade.lo, .int .i64 ru.fade.hi, .slice Aa ru.allow.length ca, .slice Ap ru.apart.length cp, .slice Ak ru.kinds.length ck] | 1 => r 1 = .agg #[.slice V1 ru.levels.length f1, .slice V2 ru.levels.length f2] | 2 => r 2 = .slice Aj js.length cj | 3 => r 3 = .int .i64 (p.steps.length : Nat) | 4 => r 4 = .pointer (some ⟨bj, oj + p.steps.length, none⟩) | 5 => r 5 = .int .i64 (cg : Nat) | 6 => r 6 = .tuple #[.bool (mayR ru (wayR ru u k) cg ru.levels.length).1, .bool (mayR ru (wayR ru u k) cg ru.levels.length).2] | 7 => r 7 = .tuple #[.bool (mayR ru (wayR ru u k) cg ru.levels.length).1, .bool (mayR ru (wayR ru u k) cg ru.levels.length).2] | 8 => r 8 = .bool (mayR ru (wayR ru u k) cg ru.levels.length).1 | 9 => r 9 = .bool (mayR ru (wayR ru u k) cg ru.levels.length).2 | 10 => r 10 = .bool (mayR ru (wayR ru u k) cg ru.levels.length).1 | _ => True) []) (by kernel_rfl) rfl rfl (phi_nil) (fun i_ hi_ => ?_) ?_
        ·match i_, hi_ with
         | 0, _ =>
          intro val w1 a hb ha hd;have ha := ha.s0 (d := 5) rfl
          exact hs_val ha rfl rfl (ld_28 rfl ((q1.below hb q1.lt).at (j := 0) rfl) ((q1.below hb q1.lt).at (j := 1) rfl) ((q1.below hb q1.lt).at (j := 2) rfl) ((q1.below hb q1.lt).at (j := 3) rfl) ((q1.below hb q1.lt).at (j := 4) rfl) ((q1.below hb q1.lt).at (j := 5) rfl)) rfl rfl
         | 1, _ =>
          intro val w1 a hb ha hd;have ha := ha.s0 (d := 14) rfl
          exact hs_val ha rfl rfl (ld_62 rfl ((qa6_12.below hb qa6_12.lt).at (j := 0) rfl) ((qa6_12.below hb qa6_12.lt).at (j := 1) rfl)) rfl rfl
         | 2, _ =>
          intro val w1 a hb ha hd;have ha := ha.s0 (d := 2) rfl
          exact hs_val ha rfl rfl (x_move rfl) rfl rfl
         | 3, _ =>
          intro val w1 a hb ha hd;have ha := ha.s0 (d := 10) rfl
          exact hs_val ha rfl rfl (x_move rfl) rfl rfl
         | 4, _ =>
          intro val w1 a hb ha hd;have e2 : val 2 = .slice Aj js.length cj := hd 2 (memB_mem.1 rfl);have e3 : val 3 = .int .i64 (p.steps.length : Nat) := hd 3 (memB_mem.1 rfl);have ha := ha.s2 (d := 118) (e := 117) rfl e3 rfl e2
          exact hs_val ha rfl rfl (ix_22 (by show some (Value.slice Aj _ _) = _; rw [ej]) rfl hlt) rfl rfl
         | 5, _ =>
          intro val w1 a hb ha hd;have e4 : val 4 = .pointer (some ⟨bj, oj + p.steps.length, none⟩) := hd 4 (memB_mem.1 rfl);have ha := ha.s1 (d := 119) rfl e4
          exact hs_val ha rfl rfl (ld_3 rfl (below_load hb hjc)) rfl rfl
         | 6, _ =>
          intro val w1 a hb ha hd;have e0 : val 0 = .agg #[.slice Al ru.levels.length cl, .int .i64 ru.fade.lo, .int .i64 ru.fade.hi, .slice Aa ru.allow.length ca, .slice Ap ru.apart.length cp, .slice Ak ru.kinds.length ck] := hd 0 (memB_mem.1 rfl);have e1 : val 1 = .agg #[.slice V1 ru.levels.length f1, .slice V2 ru.levels.length f2] := hd 1 (memB_mem.1 rfl);have e5 : val 5 = .int .i64 (cg : Nat) := hd 5 (memB_mem.1 rfl);have ha := ha.sub (Sub.ins (d := 120) (Sub.ins (d := 116) (Sub.ins (d := 115) (Sub.nil _) (dep_get rfl e0)) (dep_get rfl e1)) (dep_get rfl e5));refine hs_call ha rfl rfl (cl_36 rfl rfl rfl) (rMay_any (hrz.below (hb.mono hBz)) (Nat.le_trans hBz hb.size) hro hway (Rd.of_own (own_below hu1 hb (Nat.le_refl _))) (Rd.of_own (own_below hu2 hb (Nat.le_refl _))) (Nat.le_refl _) hcg) rfl ?_
          rintro e w' ⟨rfl, hb'⟩
          exact ⟨_, rfl, hb', rfl⟩
         | 7, _ =>
          intro val w1 a hb ha hd;have e6 : val 6 = .tuple #[.bool (mayR ru (wayR ru u k) cg ru.levels.length).1, .bool (mayR ru (wayR ru u k) cg ru.levels.length).2] := hd 6 (memB_mem.1 rfl);have ha := ha.s1 (d := 121) rfl e6
          exact hs_val ha rfl rfl (x_move rfl) rfl rfl
         | 8, _ =>
          intro val w1 a hb ha hd;have e7 : val 7 = .tuple #[.bool (mayR ru (wayR ru u k) cg ru.levels.length).1, .bool (mayR ru (wayR ru u k) cg ru.levels.length).2] := hd 7 (memB_mem.1 rfl);have ha := ha.s1 (d := 114) rfl e7
          exact hs_val ha rfl rfl (x_extract rfl rfl) rfl rfl
         | 9, _ =>
          intro val w1 a hb ha hd;have e7 : val 7 = .tuple #[.bool (mayR ru (wayR ru u k) cg ru.levels.length).1, .bool (mayR ru (wayR ru u k) cg ru.levels.length).2] := hd 7 (memB_mem.1 rfl);have ha := ha.s1 (d := 114) rfl e7
          exact hs_val ha rfl rfl (x_extract rfl rfl) rfl rfl
         | 10, _ =>
          intro val w1 a hb ha hd;have e8 : val 8 = .bool (mayR ru (wayR ru u k) cg ru.levels.length).1 := hd 8 (memB_mem.1 rfl);have ha := ha.s1 (d := 122) rfl e8
          exact hs_val ha rfl rfl (x_assign rfl) rfl rfl
         | k + 11, h => exact absurd h (by omega)
        ·intro val wR16 hb halc hd
         have e0 : val 0 = .agg #[.slice Al ru.levels.length cl, .int .i64 ru.fade.lo, .int .i64 ru.fade.hi, .slice Aa ru.allow.length ca, .slice Ap ru.apart.length cp, .slice Ak ru.kinds.length ck] := hd 0 (by omega)
         have e1 : val 1 = .agg #[.slice V1 ru.levels.length f1, .slice V2 ru.levels.length f2] := hd 1 (by omega)
         have e2 : val 2 = .slice Aj js.length cj := hd 2 (by omega)
         have e3 : val 3 = .int .i64 (p.steps.length : Nat) := hd 3 (by omega)
         have e4 : val 4 = .pointer (some ⟨bj, oj + p.steps.length, none⟩) := hd 4 (by omega)
         have e5 : val 5 = .int .i64 (cg : Nat) := hd 5 (by omega)
         have e6 : val 6 = .tuple #[.bool (mayR ru (wayR ru u k) cg ru.levels.length).1, .bool (mayR ru (wayR ru u k) cg ru.levels.length).2] := hd 6 (by omega)
         have e7 : val 7 = .tuple #[.bool (mayR ru (wayR ru u k) cg ru.levels.length).1, .bool (mayR ru (wayR ru u k) cg ru.levels.length).2] := hd 7 (by omega)
         have e8 : val 8 = .bool (mayR ru (wayR ru u k) cg ru.levels.length).1 := hd 8 (by omega)
         have e9 : val 9 = .bool (mayR ru (wayR ru u k) cg ru.levels.length).2 := hd 9 (by omega)
         have e10 : val 10 = .bool (mayR ru (wayR ru u k) cg ru.levels.length).1 := hd 10 (by omega)
         refine EL.ends (cs := [.agg #[.slice Al ru.levels.length cl, .int .i64 ru.fade.lo, .int .i64 ru.fade.hi, .slice Aa ru.allow.length ca, .slice Ap ru.apart.length cp, .slice Ak ru.kinds.length ck], .agg #[.slice V1 ru.levels.length f1, .slice V2 ru.levels.length f2], .slice Aj js.length cj, .int .i64 (p.steps.length : Nat), .pointer (some ⟨bj, oj + p.steps.length, none⟩), .int .i64 (cg : Nat), .tuple #[.bool (mayR ru (wayR ru u k) cg ru.levels.length).1, .bool (mayR ru (wayR ru u k) cg ru.levels.length).2], .tuple #[.bool (mayR ru (wayR ru u k) cg ru.levels.length).1, .bool (mayR ru (wayR ru u k) cg ru.levels.length).2], .bool (mayR ru (wayR ru u k) cg ru.levels.length).1, .bool (mayR ru (wayR ru u k) cg ru.levels.length).2, .bool (mayR ru (wayR ru u k) cg ru.levels.length).1]) ⟨e0, e1, e2, e3, e4, e5, e6, e7, e8, e9, e10, trivial⟩ rfl ?_;replace q1 := q1.bl hb;replace q2 := q2.bl hb;replace qb := qb.bl hb;replace qa5_12 := qa5_12.bl hb;replace qa6_12 := qa6_12.bl hb;replace hgx := gw_below hgx hb;replace hu1 := own_below hu1 hb (Nat.le_refl _);replace hu2 := own_below hu2 hb (Nat.le_refl _);clear hb;refine EL.as rfl rfl (EL.nil (EX.seq (EC.seq (EC.region (EL.mv rfl rfl (EL.val (x_not rfl) rfl (EL.nil (EX.seq ?_))))))))
         cases hmay : (mayR ru (wayR ru u k) cg ru.levels.length).1
         ·
          refine EC.yes rfl (EC.exit (EX.seq_exit (EX.blk_here (EX.seq (EC.region (EL.mv rfl rfl ?_))))));refine EL.val (x_add rfl rfl (c := k + 1) (IntWalk.i64_in _ ⟨by omega, by omega⟩)) rfl ?_
          refine EL.as rfl rfl (EL.nil ?_);refine EX.roundD (kk + 1) ⟨agree_i (by omega) rfl, trivial⟩ (by repeat first | with_reducible exact Sub.refl _ | refine sub_past rfl ?_ | exact Sub.refl _ | refine sub_del rfl ?_ | refine sub_insL_nil ?_) ⟨hltk, by rw [acc_no hltk ek (by unfold goR; rw [eui, if_neg (by rw [hmay]; decide)]), ← eav]; exact ⟨A, c, qb, own_type hbs qbk rfl hgx⟩, q1, q2, grown_two hgw hgx⟩ (by omega)
         ·
          refine EC.no rfl (EC.skip (EX.seq (EC.seq (EC.region (EL.newS (bs_65_0) rfl ?_)))));intro g16 w16 q16 hb16 hg16 hl16;have n1_16 := q1.na hg16;have n2_16 := q2.na hg16;have n0_16 := qb.na hg16;have n10_16 := qa5_12.na hg16;have n11_16 := qa6_12.na hg16;have bx16 : wk.heap.size ≤ g16 := Nat.le_trans hgx.size hg16;replace q1 := q1.bl hb16;replace q2 := q2.bl hb16;replace qb := qb.bl hb16;replace qa5_12 := qa5_12.bl hb16;replace qa6_12 := qa6_12.bl hb16;replace hgx := gw_below hgx hb16;replace hu1 := own_below hu1 hb16 (Nat.le_refl _);replace hu2 := own_below hu2 hb16 (Nat.le_refl _);clear hb16 hg16 hl16;have hst := own_empty (base := 0) 2 q16 (Nat.zero_le _);have hstf : ∀ b_, (Value.slice (some ⟨g16, 0, none⟩) 0 0).ownBlock = some b_ → wk.heap.size ≤ b_ := slice_fr bx16;refine EL.val (fa_67_1 rfl) rfl (EL.val (ld_65 rfl (q2.at (j := 1) rfl)) rfl ?_);have hgz := hgx.size;refine EL.push st_elem rfl rfl hst (Rd.of_own (own_type hSk qbk rfl hgx)) (stsC_one _) (by omega) rfl (Nat.zero_le _) rfl ?_
          intro v17 w17 hst2 hgr _ hat;replace q1 := blk_grown q1 hst rfl hgr;replace q2 := blk_grown q2 hst rfl hgr;replace qb := blk_grown qb hst rfl hgr;replace qa5_12 := blk_grown qa5_12 hst rfl hgr;replace qa6_12 := blk_grown qa6_12 hst rfl hgr;replace hgx := gw_row hgx hgr hstf;replace hu1 := own_grown hu1 hst rfl hgr;replace hu2 := own_grown hu2 hst rfl hgr;have hstg := fr_push hstf hat hgz;clear hstf hst hgr hat;have hstf := hstg;clear hstg;have hst := hst2;clear hst2;rw [Nat.zero_add, List.nil_append] at hst;obtain ⟨Ast, cst, rfl, _⟩ := (Rd.of_own hst).shape;refine EL.mv rfl rfl (EL.mv rfl rfl (EL.val (bd_70_0_1 rfl rfl) rfl (EL.newS (bs_65_1 rfl) rfl ?_)));intro g18 w18 q18 hb18 hg18 hl18;have n1_18 := q1.na hg18;have n2_18 := q2.na hg18;have n0_18 := qb.na hg18;have n10_18 := qa5_12.na hg18;have n11_18 := qa6_12.na hg18;have bx18 : wk.heap.size ≤ g18 := Nat.le_trans hgx.size hg18;replace q1 := q1.bl hb18;replace q2 := q2.bl hb18;replace qb := qb.bl hb18;replace qa5_12 := qa5_12.bl hb18;replace qa6_12 := qa6_12.bl hb18;replace hgx := gw_below hgx hb18;replace hu1 := own_below hu1 hb18 (Nat.le_refl _);replace hu2 := own_below hu2 hb18 (Nat.le_refl _);replace hst := own_below hst hb18 (Nat.le_refl _);clear hb18 hg18 hl18;have hgz := hgx.size;refine EL.push st_elem rfl rfl hst (rd_one (l := [.int .i64 (i : Nat), .int .i64 k]) q18 rfl) (by intro u hu; simp only [List.mem_cons, List.not_mem_nil, or_false] at hu; rcases hu with rfl | rfl <;> rfl) (by omega) rfl (Nat.zero_le _) rfl ?_
          intro v19 w19 hst2 hgr _ hat;replace q1 := blk_grown q1 hst rfl hgr;replace q2 := blk_grown q2 hst rfl hgr;replace qb := blk_grown qb hst rfl hgr;replace qa5_12 := blk_grown qa5_12 hst rfl hgr;replace qa6_12 := blk_grown qa6_12 hst rfl hgr;replace hgx := gw_row hgx hgr hstf;replace hu1 := own_grown hu1 hst rfl hgr;replace hu2 := own_grown hu2 hst rfl hgr;have hstg := fr_push hstf hat hgz;clear hstf hst hgr hat;have hstf := hstg;clear hstg;have hst := hst2;clear hst2;obtain ⟨Ast2, cst2, rfl, _⟩ := (Rd.of_own hst).shape;refine EL.val (fa_67_1 rfl) rfl (EL.store rfl rfl qa5_12 sz_65 rfl rfl rfl rfl ?_);intro w20 hq20 hg20;replace q1 := q1.gr hg20 n1_10;replace q2 := q2.gr hg20 n2_10;replace qb := qb.gr hg20 n0_10;replace qa6_12 := qa6_12.gr hg20 n10_11.symm;replace hgx := gw_store hgx hg20 bx10;replace hu1 := own_type hu1 qa5_12 rfl hg20;replace hu2 := own_type hu2 qa5_12 rfl hg20;replace hst := own_type hst qa5_12 rfl hg20;replace qa5_12 := hq20;clear hg20 hq20;refine EL.nil (EX.seq (EC.seq (EC.region (EL.newS (bs_64_0) rfl ?_))));intro g21 w21 q21 hb21 hg21 hl21;have n1_21 := q1.na hg21;have n2_21 := q2.na hg21;have n0_21 := qb.na hg21;have n10_21 := qa5_12.na hg21;have n11_21 := qa6_12.na hg21;have bx21 : wk.heap.size ≤ g21 := Nat.le_trans hgx.size hg21;replace q1 := q1.bl hb21;replace q2 := q2.bl hb21;replace qb := qb.bl hb21;replace qa5_12 := qa5_12.bl hb21;replace qa6_12 := qa6_12.bl hb21;replace hgx := gw_below hgx hb21;replace hu1 := own_below hu1 hb21 (Nat.le_refl _);replace hu2 := own_below hu2 hb21 (Nat.le_refl _);replace hst := own_below hst hb21 (Nat.le_refl _);clear hb21 hg21 hl21;have hmo := own_empty (base := 0) 2 q21 (Nat.zero_le _);have hmof : ∀ b_, (Value.slice (some ⟨g21, 0, none⟩) 0 0).ownBlock = some b_ → wk.heap.size ≤ b_ := slice_fr bx21;refine EL.mv rfl rfl ?_;have hgz := hgx.size;refine EL.push rk_elem rfl rfl hmo (Rd.of_own (hTk.type qbk rfl rfl rfl hgx).own) (rksC_one _) (by omega) rfl (Nat.zero_le _) rfl ?_
          intro v22 w22 hmo2 hgr _ hat;have hmnf := ne_push n11_21 qa6_12 hat;replace q1 := q1.gr hgr n1_21;replace q2 := q2.gr hgr n2_21;replace qb := qb.gr hgr n0_21;replace qa5_12 := qa5_12.gr hgr n10_21;replace qa6_12 := qa6_12.gr hgr n11_21;replace hgx := gw_row hgx hgr hmof;replace hu1 := own_grown hu1 hmo rfl hgr;replace hu2 := own_grown hu2 hmo rfl hgr;replace hst := own_grown hst hmo rfl hgr;have hmog := fr_push hmof hat hgz;clear hmof hmo hgr hat;have hmof := hmog;clear hmog;have hmo := hmo2;clear hmo2;rw [Nat.zero_add, List.nil_append] at hmo;obtain ⟨gm, cm, rfl⟩ := own_slice_v hmo (by omega)
          have hmne := hmnf gm rfl;refine EL.as rfl rfl (EL.nil (EX.seq (EC.seq ?_)));have hmn : ga6_12 ≠ gm := hmne;have hrz := hrk.below (gw_B hgx hBg hBk);have hBz := Nat.le_trans hBk hgx.size;obtain ⟨bj, oj, ej, _, hjc⟩ := ints_cells (jsI js) p.steps.length (by rw [jsI_len]; exact hlt) w22 B _ _ _ (hvk.below (gw_B hgx hBg hBk))
          rw [jsI_at hlt, ← ecg] at hjc;have lt_1 := q1.lt;have lt_2 := q2.lt;have lt_0 := qb.lt;have lt_10 := qa5_12.lt;have lt_11 := qa6_12.lt;refine EC.regionP [[], [], [], [], [], [], [4, 5], [4, 5, 6], [4, 5, 6, 7], [2, 3, 4, 5, 6, 7, 8], [0, 1, 2, 3, 4, 5, 6, 7, 8, 9], [0, 1, 2, 3, 4, 5, 6, 7, 8, 9, 10]] 10 [] (phi (fun i_ r => match i_ with | 0 => r 0 = .slice (some ⟨gm, 0, none⟩) us.length cm | 1 => r 1 = .int .i64 (i : Nat) | 2 => r 2 = .agg #[.slice Al ru.levels.length cl, .int .i64 ru.fade.lo, .int .i64 ru.fade.hi, .slice Aa ru.allow.length ca, .slice Ap ru.apart.length cp, .slice Ak ru.kinds.length ck] | 3 => r 3 = .agg #[.slice V1 ru.levels.length f1, .slice V2 ru.levels.length f2] | 4 => r 4 = .slice Aj js.length cj | 5 => r 5 = .int .i64 (p.steps.length : Nat) | 6 => r 6 = .pointer (some ⟨bj, oj + p.steps.length, none⟩) | 7 => r 7 = .int .i64 (cg : Nat) | 8 => r 8 = .agg #[.int .i64 1, .int .i64 (cg : Nat)] | _ => True) [(9, fun r w_ => ∃ A1 c1 A2 c2, r 9 = .agg #[.slice A1 ru.levels.length c1, .slice A2 ru.levels.length c2] ∧ w_.ownsRow 0 24 2 (.slice A1 ru.levels.length c1) ru.levels.length (bdsC (loadR ru (wayR ru u k) cg).res) ∧ w_.ownsRow 0 3 1 (.slice A2 ru.levels.length c2) ru.levels.length (ints (loadR ru (wayR ru u k) cg).aft))]) (by kernel_rfl) rfl rfl (phi_cons mono_rt (phi_nil)) (fun i_ hi_ => ?_) ?_
          ·match i_, hi_ with
           | 0, _ =>
            intro val w1 a hb ha hd;have ha := ha.s0 (d := 17) rfl
            exact hs_val ha rfl rfl (x_move rfl) rfl rfl
           | 1, _ =>
            intro val w1 a hb ha hd;have ha := ha.s0 (d := 11) rfl
            exact hs_val ha rfl rfl (x_move rfl) rfl rfl
           | 2, _ =>
            intro val w1 a hb ha hd;have ha := ha.s0 (d := 5) rfl
            exact hs_val ha rfl rfl (ld_28 rfl ((q1.below hb q1.lt).at (j := 0) rfl) ((q1.below hb q1.lt).at (j := 1) rfl) ((q1.below hb q1.lt).at (j := 2) rfl) ((q1.below hb q1.lt).at (j := 3) rfl) ((q1.below hb q1.lt).at (j := 4) rfl) ((q1.below hb q1.lt).at (j := 5) rfl)) rfl rfl
           | 3, _ =>
            intro val w1 a hb ha hd;have ha := ha.s0 (d := 14) rfl
            exact hs_val ha rfl rfl (ld_62 rfl ((qa6_12.below hb qa6_12.lt).at (j := 0) rfl) ((qa6_12.below hb qa6_12.lt).at (j := 1) rfl)) rfl rfl
           | 4, _ =>
            intro val w1 a hb ha hd;have ha := ha.s0 (d := 2) rfl
            exact hs_val ha rfl rfl (x_move rfl) rfl rfl
           | 5, _ =>
            intro val w1 a hb ha hd;have ha := ha.s0 (d := 10) rfl
            exact hs_val ha rfl rfl (x_move rfl) rfl rfl
           | 6, _ =>
            intro val w1 a hb ha hd;have e4 : val 4 = .slice Aj js.length cj := hd 4 (memB_mem.1 rfl);have e5 : val 5 = .int .i64 (p.steps.length : Nat) := hd 5 (memB_mem.1 rfl);have ha := ha.s2 (d := 144) (e := 143) rfl e5 rfl e4
            exact hs_val ha rfl rfl (ix_22 (by show some (Value.slice Aj _ _) = _; rw [ej]) rfl hlt) rfl rfl
           | 7, _ =>
            intro val w1 a hb ha hd;have e6 : val 6 = .pointer (some ⟨bj, oj + p.steps.length, none⟩) := hd 6 (memB_mem.1 rfl);have ha := ha.s1 (d := 145) rfl e6
            exact hs_val ha rfl rfl (ld_3 rfl (below_load hb hjc)) rfl rfl
           | 8, _ =>
            intro val w1 a hb ha hd;have e7 : val 7 = .int .i64 (cg : Nat) := hd 7 (memB_mem.1 rfl);have ha := ha.s1 (d := 146) rfl e7
            exact hs_val ha rfl rfl (bd_50_0_1 rfl rfl) rfl rfl
           | 9, _ =>
            intro val w1 a hb ha hd;have e2 : val 2 = .agg #[.slice Al ru.levels.length cl, .int .i64 ru.fade.lo, .int .i64 ru.fade.hi, .slice Aa ru.allow.length ca, .slice Ap ru.apart.length cp, .slice Ak ru.kinds.length ck] := hd 2 (memB_mem.1 rfl);have e3 : val 3 = .agg #[.slice V1 ru.levels.length f1, .slice V2 ru.levels.length f2] := hd 3 (memB_mem.1 rfl);have e8 : val 8 = .agg #[.int .i64 1, .int .i64 (cg : Nat)] := hd 8 (memB_mem.1 rfl);have ha := ha.sub (Sub.ins (d := 147) (Sub.ins (d := 142) (Sub.ins (d := 141) (Sub.nil _) (dep_get rfl e2)) (dep_get rfl e3)) (dep_get rfl e8));refine hs_call ha rfl rfl (cl_58 rfl rfl rfl) (Step_any (x := ⟨1, ((cg : Nat) : Int)⟩) (hrz.below (hb.mono hBz)) (Nat.le_trans hBz hb.size) hro hway (by omega) (Rd.of_own (own_below hu1 hb (Nat.le_refl _))) (Rd.of_own (own_below hu2 hb (Nat.le_refl _))) (Nat.le_refl _) (ev_load hcg)) rfl ?_
            rintro e w' ⟨⟨B1, d1, B2, d2, rfl, p1, p2⟩, hb'⟩
            exact ⟨_, rfl, hb', ⟨B1, d1, B2, d2, rfl, own_less p1 (Nat.zero_le _), own_less p2 (Nat.zero_le _)⟩⟩
           | k + 10, h => exact absurd h (by omega)
          ·intro val wR20 hb halc hd
           have e0 : val 0 = .slice (some ⟨gm, 0, none⟩) us.length cm := hd 0 (by omega)
           have e1 : val 1 = .int .i64 (i : Nat) := hd 1 (by omega)
           have e2 : val 2 = .agg #[.slice Al ru.levels.length cl, .int .i64 ru.fade.lo, .int .i64 ru.fade.hi, .slice Aa ru.allow.length ca, .slice Ap ru.apart.length cp, .slice Ak ru.kinds.length ck] := hd 2 (by omega)
           have e3 : val 3 = .agg #[.slice V1 ru.levels.length f1, .slice V2 ru.levels.length f2] := hd 3 (by omega)
           have e4 : val 4 = .slice Aj js.length cj := hd 4 (by omega)
           have e5 : val 5 = .int .i64 (p.steps.length : Nat) := hd 5 (by omega)
           have e6 : val 6 = .pointer (some ⟨bj, oj + p.steps.length, none⟩) := hd 6 (by omega)
           have e7 : val 7 = .int .i64 (cg : Nat) := hd 7 (by omega)
           have e8 : val 8 = .agg #[.int .i64 1, .int .i64 (cg : Nat)] := hd 8 (by omega)
           obtain ⟨X1, y1, X2, y2, e9, ho1, ho2⟩ := hd 9 (by omega)
           refine EL.ends (cs := [.slice (some ⟨gm, 0, none⟩) us.length cm, .int .i64 (i : Nat), .agg #[.slice Al ru.levels.length cl, .int .i64 ru.fade.lo, .int .i64 ru.fade.hi, .slice Aa ru.allow.length ca, .slice Ap ru.apart.length cp, .slice Ak ru.kinds.length ck], .agg #[.slice V1 ru.levels.length f1, .slice V2 ru.levels.length f2], .slice Aj js.length cj, .int .i64 (p.steps.length : Nat), .pointer (some ⟨bj, oj + p.steps.length, none⟩), .int .i64 (cg : Nat), .agg #[.int .i64 1, .int .i64 (cg : Nat)], .agg #[.slice X1 ru.levels.length y1, .slice X2 ru.levels.length y2]]) ⟨e0, e1, e2, e3, e4, e5, e6, e7, e8, e9, trivial⟩ rfl ?_;replace q1 := q1.bl hb;replace q2 := q2.bl hb;replace qb := qb.bl hb;replace qa5_12 := qa5_12.bl hb;replace qa6_12 := qa6_12.bl hb;replace hgx := gw_below hgx hb;replace hu1 := own_below hu1 hb (Nat.le_refl _);replace hu2 := own_below hu2 hb (Nat.le_refl _);replace hst := own_below hst hb (Nat.le_refl _);replace hmo := own_below hmo hb (Nat.le_refl _);clear hb;refine EL.val (ix_64 rfl rfl hlti) rfl ?_;refine EL.storeRow (l' := rkC ru.levels.length ((loadR ru (wayR ru u k) cg), (X1, y1), (X2, y2))) rfl rfl hmo sz_62 rfl rfl (by rw [rksC_len, Nat.zero_add]; omega) rfl ?_
           intro w23 hmo2 hgr;rw [Nat.zero_add, rks_set hlti] at hmo2;replace q1 := q1.grown hgr (fun h => row_ne2 hmo q1 rfl (Option.some.inj h))
           replace q2 := q2.grown hgr (fun h => row_ne2 hmo q2 rfl (Option.some.inj h))
           replace qb := qb.grown hgr (fun h => row_ne2 hmo qb rfl (Option.some.inj h))
           replace qa5_12 := qa5_12.grown hgr (fun h => row_ne2 hmo qa5_12 rfl (Option.some.inj h))
           replace qa6_12 := qa6_12.gr hgr hmn;replace hgx := gw_row hgx hgr (fun b_ e_ => hmof b_ e_)
           replace hst := own_grown hst hmo rfl hgr;replace ho1 := own_grown ho1 hmo rfl hgr;replace ho2 := own_grown ho2 hmo rfl hgr;clear hmo hgr;have hmo := hmo2;clear hmo2 hu1 hu2;refine EL.nil (EX.seq (EC.region (EL.val (ld_28 rfl (q1.at (j := 0) rfl) (q1.at (j := 1) rfl) (q1.at (j := 2) rfl) (q1.at (j := 3) rfl) (q1.at (j := 4) rfl) (q1.at (j := 5) rfl)) rfl (EL.mv rfl rfl (EL.mv rfl rfl (EL.val (ld_67 rfl (qa5_12.at (j := 0) rfl) (qa5_12.at (j := 1) rfl) (qa5_12.at (j := 2) rfl) (qa5_12.at (j := 3) rfl) (qa5_12.at (j := 4) rfl)) rfl (EL.mv rfl rfl ?_)))))));have hTn : OwnTs w23 ru.levels.length (.slice (some ⟨gm, 0, none⟩) us.length cm) (us.set i ((loadR ru (wayR ru u k) cg), (X1, y1), (X2, y2))) := own_set (hTk.type qbk rfl rfl rfl hgx) (by rw [List.length_set]; exact hmo) ho1 ho2
           have hSn : stsAt w23 (addS p ⟨i, k⟩ (numK k) (kcost ru k)).steps Ast2 cst2 := by unfold stsAt addS; dsimp only; rw [List.length_append, stsC_app]; exact hst
           have hbn : BestM w23 gb av := ⟨A, c, qb, own_type hbs qbk rfl hgx⟩;have hca := IHr (hrk.below (gw_B hgx hBg hBk)) (hvk.below (gw_B hgx hBg hBk)) hBg (Nat.le_trans hBk hgx.size) hTn (by rw [List.length_set]; exact hl3) (m := m + 2) (ok_set (fun x hx => (hok x hx).more (by omega)) (load_rt hro hway hcg)) (p := addS p ⟨i, k⟩ (numK k) (kcost ru k)) (by rw [addS_len]; omega) (by rw [addS_len, erm]) (by rw [addS_len]; omega) (by rw [addS_len]; exact addS_ok hro hp i k) hSn hbn
           rw [List.length_set, addS_len] at hca;refine EL.call (cl_59 rfl rfl rfl rfl rfl) rfl hca ?_
           rintro e w24 ⟨rfl, hgr, hbm⟩
           refine ⟨_, rfl, ?_⟩;replace q1 := q1.gr hgr n0_1.symm;replace q2 := q2.gr hgr n0_2.symm;replace qa5_12 := qa5_12.gr hgr n0_10.symm;replace qa6_12 := qa6_12.gr hgr n0_11.symm;replace hgx := grown_two hgx hgr;clear qb hca;refine EL.nil (EX.blk (EX.seq (EC.region (EL.mv rfl rfl ?_))));refine EL.val (x_add rfl rfl (c := k + 1) (IntWalk.i64_in _ ⟨by omega, by omega⟩)) rfl ?_
           refine EL.as rfl rfl (EL.nil ?_);refine EX.roundD (kk + 1) ⟨agree_i (by omega) rfl, trivial⟩ (by repeat first | with_reducible exact Sub.refl _ | refine sub_past rfl ?_ | exact Sub.refl _ | refine sub_del rfl ?_ | refine sub_insL_nil ?_) ⟨hltk, by rw [acc_yes hltk ek (s := (us.map (·.1)).set i (loadR ru (wayR ru u k) cg)) (by unfold goR; rw [eui, if_pos hmay]), ← eav]; rw [List.map_set] at hbm; simpa [List.length_map] using hbm, q1, q2, grown_two hgw hgx⟩ (by omega)
     ·
      have hxk : kk = (ru.kinds.length + 1) := by omega
      have hbm2 : BestM wk gb (accR ru (us.map (·.1)) cg rem p a1 (i + 1) 0) := by rw [hxk] at hbm; rw [acc_next]; exact hbm
      clear hbm;have hbm := hbm2;clear hbm2;refine EC.seq (EC.seq (EC.region (EL.mv rfl rfl (EL.val (fa_28_4 rfl) rfl (EL.val (ld_26 rfl (q1.at (j := 5) rfl)) rfl (EL.val (ln_26 rfl) rfl ?_))))));refine EL.val (x_lss (r := false) rfl rfl (decide_eq_false (by omega))) rfl ?_
      refine EL.nil (EX.seq (EC.no rfl (EC.exit (EX.seq_exit (EX.seq_exit (EX.blk_here (EX.blk (EX.seq (EC.region ?_)))))))));refine EL.mv rfl rfl ?_;refine EL.val (x_add rfl rfl (c := ((i + 1 : Nat) : Int)) ((IntWalk.i64_in _ ⟨by first | omega | (simp only; omega), by first | omega | (simp only; omega)⟩).trans (by first | omega | (simp only; omega)))) rfl ?_
      refine EL.as rfl rfl (EL.nil ?_);refine EX.roundD (i + 1) ⟨rfl, trivial⟩ (by repeat first | with_reducible exact Sub.refl _ | refine sub_past rfl ?_ | exact Sub.refl _ | refine sub_del rfl ?_ | refine sub_insL_nil ?_) ⟨hlti, hbm, q1, q2, hgw⟩ (by omega)
    ·
     have hxe : i = us.length := by omega
     refine EC.seq (EC.seq (EC.region (EL.mv rfl rfl (EL.mv rfl rfl (EL.val (ln_64 rfl) rfl ?_)))));refine EL.val (x_lss rfl rfl (decide_eq_false (show ¬(((i : Nat) : Int) < ((us.length : Nat) : Int)) by omega))) rfl ?_
     refine EL.nil (EX.seq (EC.no rfl (EC.exit (EX.seq_exit (EX.seq_exit (EX.blk_here ?_))))));have hlm : us.length = (us.map (·.1)).length := by rw [List.length_map]
     rw [hxe, hlm, ea1, acc_end hwo] at hbm
     exact EX.done' (v := .tuple #[]) (res0 rfl) ⟨rfl, hgw, by rw [hrm, hlm]; exact hbm⟩
  ·
   have hwo : worse b.1 p = true := by rw [← hx]
   refine EC.yes rfl (EC.ret (EX.seq_ret ?_))
   exact EX.done (v := .tuple #[]) (res0 rfl) ⟨rfl, hgw, by rw [try_worse hwo]; exact ⟨A, c, qb, own_type hbs qb0 rfl hgw⟩⟩
section
variable {n : Nat} {σ : Sg} {w : World} {dst : Option Tmp} {ty : TypeId} {pos : String} {af : Array Edge} {g : Option (Nat × Bool)} {x y z : Operand} {at' : Array TypeId}
theorem bd_67_    : Gives Try.prog n σ w ⟨dst, .build 67 #[], ty, pos, af, g⟩ (.agg #[.bool false, .slice none 0 0, .int .i64 0, .int .i64 0, .int .i64 0]) := fun a _ => by
 simp only [execOp, List.map_toArray, List.map_nil]
 go_simp
theorem lv_67 {b o : Nat} {v0 v1 v2 v3 v4 : Value} (c0 : w.cell? ⟨b, o, none⟩ = some v0) (c1 : w.cell? ⟨b, o + 1, none⟩ = some v1) (c2 : w.cell? ⟨b, o + 2, none⟩ = some v2) (c3 : w.cell? ⟨b, o + 3, none⟩ = some v3) (c4 : w.cell? ⟨b, o + 4, none⟩ = some v4) : (loadVar 67 ⟨b, o, none⟩).run Try.prog w = .ok (.agg #[v0, v1, v2, v3, v4]) w := by
 simp [go_sem, loadVar, c0, c1, c2, c3, c4]
end
theorem try_any {ru : Rules} (hro : RulesOk ru) {js : List Nat} (hjs : ∀ i, i < js.length → js.getD i 0 < ru.levels.length) (hj10 : js.length ≤ 10) : ∀ rem, TrySpec ru js rem := fun rem => by
 induction rem with
 | nil => exact @try_step ru hro js hjs hj10 [] (fun c rem h => by cases h)
 | cons d rem ih => exact @try_step ru hro js hjs hj10 (d :: rem) (fun c rem' h => by injection h with h1 h2; subst h2; exact @ih)
set_option maxHeartbeats 1000000 in
theorem rFleet_any {ru : Rules} {ua up : List Value} {vl va vp vk : Value} {w : World} {B : Nat} (hr : RdRules w B vl va vp vk ru ua up) (hB : B ≤ w.heap.size) (hro : RulesOk ru) {js : List Nat} (hjs : ∀ i, i < js.length → js.getD i 0 < ru.levels.length) (hj10 : js.length ≤ 10) {us : List Tk} {vt : Value} (hT : OwnTs w ru.levels.length vt us) (hl3 : us.length ≤ 3) {m : Nat} (hok : ∀ x ∈ us, RtOk ru.levels.length m x.1) (hm : m ≤ 900) {vj : Value} (hv : Rd w B 1 vj js.length (ints (jsI js))) :
  Calls Try.prog 28 #[rulesV vl va vp vk ru, vt, vj] w fun e w' => (∃ A c, e = .returned (.agg #[.bool (bestR ru js (us.map (·.1))).1.isSome, .slice A (bp (bestR ru js (us.map (·.1)))).steps.length c, .int .i64 (bp (bestR ru js (us.map (·.1)))).washes, .int .i64 (bp (bestR ru js (us.map (·.1)))).cost, .int .i64 ((bestR ru js (us.map (·.1))).2 : Nat)]) ∧ stsAt w' (bp (bestR ru js (us.map (·.1)))).steps A c) ∧ Below w.heap.size w w' := by
 obtain ⟨Al, cl, rfl, _⟩ := hr.levels.shape;obtain ⟨Aa, ca, rfl, _⟩ := hr.allow.rd.shape;obtain ⟨Ap, cp, rfl, _⟩ := hr.apart.rd.shape;obtain ⟨Ak, ck, rfl, _⟩ := hr.kinds.shape;obtain ⟨Aj, cj, rfl, _⟩ := hv.shape;obtain ⟨At, ct, rfl, _⟩ := (Rd.of_own hT.own).shape;have hbw := Below.refl w.heap.size w
 unfold rulesV
 refine EC.enter 15 Try.func28 rfl rfl rfl (EC.seq (EC.region (EL.newP (bx_28 rfl) rfl ?_)));intro g1 w1 q1 hb1 hg1 hl1;have bhbw_1 := Nat.le_trans hbw.size hg1;replace hbw := bo_ hbw hb1;clear hb1 hg1 hl1;refine EL.newP al_67 rfl ?_;intro g2 w2 q2 hb2 hg2 hl2;have n1_2 := q1.na hg2;have bhbw_2 := Nat.le_trans hbw.size hg2;replace q1 := q1.bl hb2;replace hbw := bo_ hbw hb2;clear hb2 hg2 hl2;refine EL.nil (EX.seq (EC.seq (EC.region (EL.val (bd_67_) rfl (EL.newP al_67 rfl ?_)))));intro g3 w3 q3 hb3 hg3 hl3;have n1_3 := q1.na hg3;have n2_3 := q2.na hg3;have bhbw_3 := Nat.le_trans hbw.size hg3;replace q1 := q1.bl hb3;replace q2 := q2.bl hb3;replace hbw := bo_ hbw hb3;clear hb3 hg3 hl3;refine EL.store rfl rfl q3 sz_67 rfl rfl rfl rfl ?_;intro w4 hq4 hg4;replace q1 := q1.gr hg4 n1_3;replace q2 := q2.gr hg4 n2_3;replace hbw := below_store hbw hg4 bhbw_3;replace q3 := hq4;clear hg4 hq4;refine EL.nil (EX.seq (EC.seq (EC.region (EL.val (ld_28 rfl (q1.at (j := 0) rfl) (q1.at (j := 1) rfl) (q1.at (j := 2) rfl) (q1.at (j := 3) rfl) (q1.at (j := 4) rfl) (q1.at (j := 5) rfl)) rfl (EL.mv rfl rfl (EL.mv rfl rfl (EL.val (bd_67_) rfl ?_)))))));have hbn : BestM w4 g3 ((none, 0) : Option Pl × Nat) := ⟨none, 0, q3, World.ownsRow_nil _ _ _ _⟩;have hge : B ≤ g3 := Nat.le_trans hB bhbw_3;have hca := @try_any ru hro js hjs hj10 js _ _ _ _ _ _ _ _ (hr.below (hbw.mono hB)) _ (hv.below (hbw.mono hB)) g3 hge (Nat.le_trans hB hbw.size) us _ (hT.below hbw) hl3 m hok pl0 (Nat.zero_le _) rfl (show m + 2 * (js.length - 0) ≤ 1000 by omega) ⟨rfl, Int.le_refl _, Int.le_refl _, Int.le_refl _, Int.le_refl _⟩ none 0 (World.ownsRow_nil _ _ _ _) _ hbn
 rw [show tryR (extY (yardR ru us.length)) js ((us.map (·.1)), pl0) (none, 0) = (bestR ru js (us.map (·.1))) by unfold bestR; rw [List.length_map]] at hca
 obtain ⟨bv, ebv⟩ : ∃ z, z = (bestR ru js (us.map (·.1))) := ⟨_, rfl⟩;rw [← ebv] at hca;refine EL.call (cl_59 rfl rfl rfl rfl rfl) rfl hca ?_
 rintro e w5 ⟨rfl, hgr, A, c, q3n, hst⟩
 refine ⟨_, rfl, ?_⟩
 unfold bestC at q3n
 replace q1 := q1.gr hgr n1_3;replace q2 := q2.gr hgr n2_3;replace hbw := below_store hbw hgr bhbw_3;clear q3 hgr hca hbn;have q3 := q3n;clear q3n;refine EL.nil (EX.seq (EC.seq (EC.region (EL.val (ld_67 rfl (q3.at (j := 0) rfl) (q3.at (j := 1) rfl) (q3.at (j := 2) rfl) (q3.at (j := 3) rfl) (q3.at (j := 4) rfl)) rfl (EL.store rfl rfl q2 sz_67 rfl rfl rfl rfl ?_)))));intro w6 hq6 hg6;replace q1 := q1.gr hg6 n1_2;replace q3 := q3.gr hg6 n2_3.symm;replace hst := own_type hst q2 rfl hg6;replace hbw := below_store hbw hg6 bhbw_2;replace q2 := hq6;clear hg6 hq6;refine EL.nil (EX.seq (EC.ret ?_))
 exact EX.done (resc1 rfl rfl (lv_67 (q2.at (j := 0) rfl) (q2.at (j := 1) rfl) (q2.at (j := 2) rfl) (q2.at (j := 3) rfl) (q2.at (j := 4) rfl))) ⟨⟨A, c, by rw [← ebv], by rw [← ebv]; exact hst⟩, hbw⟩
theorem many_any (tn : Int) {kn : Int} (hk0 : 0 ≤ kn) (hk : kn ≤ 1000) {jn : Nat} (hj : jn ≤ 1000000) (w : World) :
  Calls Try.prog 22 #[.int .i64 tn, .int .i64 kn, .int .i64 (jn : Nat)] w fun e w' => (∃ v, e = .returned (.int .i64 v)) ∧ Below w.heap.size w w' := by
 have hbw := Below.refl w.heap.size w;refine EC.enter 25 Try.func22 rfl rfl rfl (EC.seq (EC.region (EL.as rfl rfl (EL.nil (EX.seq (EC.seq (EC.region (EL.as rfl rfl (EL.nil ?_)))))))));refine EX.seq (EC.seq (EC.seq (EC.region (EL.as rfl rfl (EL.nil (EX.seq (EC.block ?_)))))));refine EC.loopD [7, 8, 9, 10, 11, 12, 13, 14, 15, 16, 17, 18, 19, 20, 21, 22, 23] (fun x : Nat × Int => [(8, .int .i64 (x.1 : Nat)), (7, .int .i64 x.2)]) (fun x W => x.1 ≤ jn ∧ Below w.heap.size w W) (fun x => jn - x.1) (0, 1) ⟨Nat.zero_le _, hbw⟩ ⟨rfl, rfl, trivial⟩ ?_
 clear hbw
 rintro ⟨i, nv⟩ wx ⟨hi, hbw⟩
 dsimp only at hi
 by_cases hlt : i < jn
 ·
  by_cases hle : nv ≤ 60000
  ·
   refine EC.seq (EC.seq (EC.region (EL.mv rfl rfl (EL.mv rfl rfl ?_))));refine EL.val (x_lss rfl rfl (decide_eq_true (show (((i : Nat) : Int) < ((jn : Nat) : Int)) by omega))) rfl ?_
   refine EL.mv rfl rfl (EL.valg rfl rfl (x_move rfl) rfl (EL.valg rfl rfl (x_leq (r := true) rfl rfl (decide_eq_true hle)) rfl (EL.val (x_pick_t rfl rfl) rfl (EL.nil (EX.seq (EC.yes rfl (EC.skip (EX.seq (EC.seq ?_)))))))));refine EC.block (EC.region (EL.mv rfl rfl (EL.mv rfl rfl (EL.val (x_mul rfl rfl (c := IntKind.i64.wrap (nv * tn)) rfl) rfl (EL.mv rfl rfl ?_)))));refine EL.val (x_add rfl rfl (c := kn + 1) (IntWalk.i64_in _ ⟨by omega, by omega⟩)) rfl ?_
   refine EL.val (x_mul rfl rfl (c := IntKind.i64.wrap (IntKind.i64.wrap (nv * tn) * (kn + 1))) rfl) rfl (EL.as rfl rfl (EL.nil (EX.blk (EX.seq (EC.region (EL.mv rfl rfl ?_))))));refine EL.val (x_add rfl rfl (c := ((i + 1 : Nat) : Int)) ((IntWalk.i64_in _ ⟨by first | omega | (simp only; omega), by first | omega | (simp only; omega)⟩).trans (by first | omega | (simp only; omega)))) rfl ?_
   refine EL.as rfl rfl (EL.nil ?_);refine EX.roundD (i + 1, _) ⟨rfl, rfl, trivial⟩ (by repeat first | with_reducible exact Sub.refl _ | refine sub_past rfl ?_ | exact Sub.refl _ | refine sub_del rfl ?_ | refine sub_insL_nil ?_) ⟨hlt, hbw⟩ (by simp only; omega)
  ·
   refine EC.seq (EC.seq (EC.region (EL.mv rfl rfl (EL.mv rfl rfl ?_))));refine EL.val (x_lss rfl rfl (decide_eq_true (show (((i : Nat) : Int) < ((jn : Nat) : Int)) by omega))) rfl ?_
   refine EL.mv rfl rfl (EL.valg rfl rfl (x_move rfl) rfl (EL.valg rfl rfl (x_leq (r := false) rfl rfl (decide_eq_false hle)) rfl (EL.val (x_pick_t rfl rfl) rfl (EL.nil (EX.seq (EC.no rfl (EC.exit (EX.seq_exit (EX.seq_exit ?_)))))))));refine EX.blk_here (EX.seq (EC.seq (EC.region (EL.mv rfl rfl (EL.as rfl rfl (EL.nil (EX.seq (EC.ret ?_))))))))
   exact EX.done (res1 rfl rfl) ⟨⟨_, rfl⟩, hbw⟩
 ·
  refine EC.seq (EC.seq (EC.region (EL.mv rfl rfl (EL.mv rfl rfl ?_))));refine EL.val (x_lss rfl rfl (decide_eq_false (show ¬(((i : Nat) : Int) < ((jn : Nat) : Int)) by omega))) rfl ?_
  refine EL.mv rfl rfl (EL.skip rfl rfl rfl rfl (EL.skip rfl rfl rfl rfl (EL.val (x_pick_f rfl rfl) rfl (EL.nil (EX.seq (EC.no rfl (EC.exit (EX.seq_exit (EX.seq_exit ?_)))))))));refine EX.blk_here (EX.seq (EC.seq (EC.region (EL.mv rfl rfl (EL.as rfl rfl (EL.nil (EX.seq (EC.ret ?_))))))))
  exact EX.done (res1 rfl rfl) ⟨⟨_, rfl⟩, hbw⟩
section
variable {n : Nat} {σ : Sg} {w : World} {dst : Option Tmp} {ty : TypeId} {pos : String} {af : Array Edge} {g : Option (Nat × Bool)} {x y z : Operand} {at' : Array TypeId}
theorem cl_22 {x0 x1 x2 : Operand} {v0 v1 v2 : Value} (h0 : evS σ x0 = some v0) (h1 : evS σ x1 = some v1) (h2 : evS σ x2 = some v2) (a : Act) (ha : Env n σ a) : (execOp a.eval ⟨dst, .call { callee := .value (.func 22), args := #[x0, x1, x2], argTypes := at' }, ty, pos, af, g⟩).run Try.prog w = .ok (.enter 22 #[v0, v1, v2]) w := by
 simp only [execOp, resolve, List.map_toArray, List.map_cons, List.map_nil, ha.eval h0, ha.eval h1, ha.eval h2]
 simp [go_sem, Act.eval]
theorem cl_25 {x0 x1 x2 : Operand} {v0 v1 v2 : Value} (h0 : evS σ x0 = some v0) (h1 : evS σ x1 = some v1) (h2 : evS σ x2 = some v2) (a : Act) (ha : Env n σ a) : (execOp a.eval ⟨dst, .call { callee := .value (.func 25), args := #[x0, x1, x2], argTypes := at' }, ty, pos, af, g⟩).run Try.prog w = .ok (.enter 25 #[v0, v1, v2]) w := by
 simp only [execOp, resolve, List.map_toArray, List.map_cons, List.map_nil, ha.eval h0, ha.eval h1, ha.eval h2]
 simp [go_sem, Act.eval]
theorem cl_26 {x0 x1 x2 : Operand} {v0 v1 v2 : Value} (h0 : evS σ x0 = some v0) (h1 : evS σ x1 = some v1) (h2 : evS σ x2 = some v2) (a : Act) (ha : Env n σ a) : (execOp a.eval ⟨dst, .call { callee := .value (.func 26), args := #[x0, x1, x2], argTypes := at' }, ty, pos, af, g⟩).run Try.prog w = .ok (.enter 26 #[v0, v1, v2]) w := by
 simp only [execOp, resolve, List.map_toArray, List.map_cons, List.map_nil, ha.eval h0, ha.eval h1, ha.eval h2]
 simp [go_sem, Act.eval]
theorem bs_64_1 {x0 : Operand} {v0_0 v0_1 : Value} (h0 : evS σ x0 = some (.agg #[v0_0, v0_1]))  (a : Act) (ha : Env n σ a) : (execOp a.eval ⟨dst, .buildSlice 64 1 #[(0, x0)], ty, pos, af, g⟩).run Try.prog w = .ok (.value (.slice (some ⟨w.heap.size, 0, none⟩) 1 1)) (w.alloc (.cells #[v0_0, v0_1] 62)) := by
 simp only [execOp, List.map_toArray, List.map_cons, List.map_nil, ha.eval h0]
 go_simp
theorem cl_28 {x0 x1 x2 : Operand} {v0 v1 v2 : Value} (h0 : evS σ x0 = some v0) (h1 : evS σ x1 = some v1) (h2 : evS σ x2 = some v2) (a : Act) (ha : Env n σ a) : (execOp a.eval ⟨dst, .call { callee := .value (.func 28), args := #[x0, x1, x2], argTypes := at' }, ty, pos, af, g⟩).run Try.prog w = .ok (.enter 28 #[v0, v1, v2]) w := by
 simp only [execOp, resolve, List.map_toArray, List.map_cons, List.map_nil, ha.eval h0, ha.eval h1, ha.eval h2]
 simp [go_sem, Act.eval]
theorem slh_22 {b o m c hi : Nat} (hx : evS σ x = some (.slice (some ⟨b, o, none⟩) m c)) (hh : evS σ y = some (.int .i64 (hi : Int))) (h2 : hi ≤ c) : Gives Try.prog n σ w ⟨dst, .slice 22 x none (some y) none, ty, pos, af, g⟩ (.slice (some ⟨b, o, none⟩) hi c) := fun a ha => by
 have k1 : (0 : Int) ≤ (hi : Int) := Int.natCast_nonneg _;have k3 : (hi : Int) ≤ (c : Int) := by omega
 simp only [execOp, Option.map_some, Option.map_none, ha.eval hx, ha.eval hh]
 by_cases e : c = 0
 ·subst e; obtain rfl : hi = 0 := by omega
  simp [go_sem]
 ·simp [go_sem, k1, k3, h2, e]
theorem fd_67_2 {v0 v1 v2 v3 v4 : Value} (hx : evS σ x = some (.agg #[v0, v1, v2, v3, v4])) : Gives Try.prog n σ w ⟨dst, .field 67 x 2, ty, pos, af, g⟩ (v2) := fun a ha => by
 simp only [execOp, ha.eval hx, Sem.run_bind]
 have e : ∀ w : World, Sem.run Try.prog (Instr.field 67 (.agg #[v0, v1, v2, v3, v4]) 2) w = .ok (v2) w := fun _ => by kernel_rfl
 rw [e]
 rfl
end
end Go.Proofs.Ytdkedhcbdbpccaa
