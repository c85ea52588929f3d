/- River: the law RiverDepths, its walk (printed by gen_w16.py). -/
import Derived.Test.YtncnlhkmdljgpaaW15
import Derived.Test.YtncnlhkmdljgpaaLaw0
import Derived.Test.YtncnlhkmdljgpaaExR16
set_option linter.unusedVariables false
set_option linter.unusedSimpArgs false
namespace Go.Proofs.Ytncnlhkmdljgpaa
open Go Go.RowKit

set_option maxRecDepth 100000 in
theorem depths_law (rv : River) (sides : List (List Bd)) (v u s : Value) (vs ss : List Value) (p t : Int) (w : World) (B : Nat) (hr : RdRiver w B v u rv vs) (hs : RdSides w B s sides ss) (hB : B ≤ w.heap.size) :
    Calls Try.prog 6 #[.agg #[v, u, s], .int .i64 p, .int .i64 t] w fun e w' => e = .returned (.bool true) ∧ Below w.heap.size w w' := by
  obtain ⟨A, c, rfl, _⟩ := hr.reaches.shape
  obtain ⟨A', c', rfl, _⟩ := hr.shoals.shape
  obtain ⟨D, d, rfl, _⟩ := hs.rd.shape
  have hbw := Below.refl w.heap.size w
  refine EC.enter 146 Try.func6 rfl rfl rfl ?_
  refine EC.seq ?_
  refine EC.region ?_
  refine EL.newP (bx_54 rfl) rfl ?_
  intro g1 w1 q1 hb1 hg1 hl1
  have bhbw_1 := Nat.le_trans hbw.size hg1
  replace hbw := Below.on hbw hb1 hbw.size
  clear hb1 hg1 hl1
  refine EL.val (x_assign rfl) rfl ?_
  refine EL.nil ?_
  refine EX.seq ?_
  refine EC.seq ?_
  refine EC.seq ?_
  refine EC.region ?_
  refine EL.val (ld_54 rfl (q1.at (j := 0) rfl) (q1.at (j := 1) rfl) (q1.at (j := 2) rfl)) rfl ?_
  refine EL.call (cl_23 rfl) rfl (large_any rv sides _ _ _ vs ss _ _ (hr.below (hbw.mono hB)) (hs.below (hbw.mono hB)) (Nat.le_trans hB hbw.size)) ?_
  rintro e w_l ⟨rfl | ⟨rfl, hfine⟩, hc_⟩
  ·
    refine ⟨_, rfl, ?_⟩
    replace q1 := q1.below hc_ q1.lt
    replace hbw := Below.on hbw hc_ hbw.size
    clear hc_
    refine EL.nil ?_
    refine EX.seq ?_
    refine EC.yes rfl ?_
    refine EC.seq ?_
    refine EC.region ?_
    refine EL.call cl_16 rfl (known_any _) ?_
    rintro e w2 ⟨rfl, hc2⟩
    refine ⟨_, rfl, ?_⟩
    replace q1 := q1.below hc2 q1.lt
    replace hbw := Below.on hbw hc2 hbw.size
    clear hc2
    refine EL.val (x_assign rfl) rfl ?_
    refine EL.nil ?_
    refine EX.seq ?_
    refine EC.ret ?_
    refine EX.seq_ret ?_
    exact EX.done (res1 rfl rfl) ⟨rfl, hbw⟩
  ·
    have f1 := hfine.nreaches
    have f2 := hfine.nshoals
    have f3 := hfine.curves
    have f4 := hfine.sidesB
    have f5 := hfine.nsides
    refine ⟨_, rfl, ?_⟩
    replace q1 := q1.below hc_ q1.lt
    replace hbw := Below.on hbw hc_ hbw.size
    clear hc_
    refine EL.nil ?_
    refine EX.seq ?_
    refine EC.no rfl ?_
    refine EC.skip ?_
    refine EX.seq ?_
    refine EC.seq ?_
    refine EC.region ?_
    refine EL.val (fa_54_0 rfl) rfl ?_
    refine EL.val (ld_47 rfl (q1.at (j := 0) rfl) (q1.at (j := 1) rfl)) rfl ?_
    refine EL.call (cl_24 rfl) rfl (copied_any rv _ _ vs _ B (hr.below (hbw.mono hB)) (Nat.le_trans hB hbw.size) (by omega) (by omega) f3) ?_
    rintro e w3 ⟨⟨v1, u1, vs1, rfl, hcp⟩, hc3⟩
    refine ⟨_, rfl, ?_⟩
    replace q1 := q1.below hc3 q1.lt
    replace hbw := Below.on hbw hc3 hbw.size
    clear hc3
    refine EL.val (x_move rfl) rfl ?_
    refine EL.val (x_move rfl) rfl ?_
    refine EL.call (cl_32 rfl rfl rfl) rfl (pbed_any rv _ _ vs1 p t _ _ hcp (Nat.le_refl _) (by omega) (by omega) f3) ?_
    rintro e w4 ⟨rfl, hc4⟩
    refine ⟨_, rfl, ?_⟩
    replace q1 := q1.below hc4 q1.lt
    replace hbw := Below.on hbw hc4 hbw.size
    clear hc4
    refine EL.val (x_move rfl) rfl ?_
    refine EL.val (x_extract rfl rfl) rfl ?_
    refine EL.val (x_extract rfl rfl) rfl ?_
    refine EL.newP al_23 rfl ?_
    intro g5 w5 q5 hb5 hg5 hl5
    have n1_5 : g1 ≠ g5 := Nat.ne_of_lt (Nat.lt_of_lt_of_le q1.lt hg5)
    have bhbw_5 := Nat.le_trans hbw.size hg5
    replace q1 := q1.below hb5 q1.lt
    replace hbw := Below.on hbw hb5 hbw.size
    clear hb5 hg5 hl5
    refine EL.store rfl rfl q5 sz_23 rfl rfl rfl rfl ?_
    intro w6 hq6 hg6
    replace q1 := q1.grown hg6 (fun h => n1_5 (Option.some.inj h))
    replace hbw := below_store hbw hg6 bhbw_5
    replace q5 := hq6
    clear hg6 hq6
    refine EL.val (x_assign rfl) rfl ?_
    refine EL.nil ?_
    refine EX.seq ?_
    refine EC.seq ?_
    have lt_1 := q1.lt
    have lt_5 := q5.lt
    refine EC.regionS [[], [0], [0, 1], [], [3], [0, 1, 2, 3, 4], [], [], [0, 1, 2, 3, 4, 5, 6, 7], [0, 1, 2, 3, 4, 5, 6, 7, 8], [0, 1, 2, 3, 4, 5, 6, 7, 8, 9], [0, 1, 2, 3, 4, 5, 6, 7, 8, 9], [], [0, 1, 2, 3, 4, 5, 6, 7, 8, 9, 10, 12], [0, 1, 2, 3, 4, 5, 6, 7, 8, 9, 10, 11, 12, 13]] 14 [12] [13] (fun _ w_ => Below w6.heap.size w6 w_) (phiS (fun i_ r => match i_ with | 0 => r 0 = .pointer (some ⟨g1, 0, none⟩) | 1 => r 1 = .agg #[.slice A rv.reaches.length c, .slice A' rv.shoals.length c'] | 3 => r 3 = .pointer (some ⟨g1, 2, none⟩) | 4 => r 4 = .slice D sides.length d | 6 => r 6 = .int .i64 p | 7 => r 7 = .int .i64 t | 8 => r 8 = .tuple #[.agg #[.int .i64 (depRes rv sides p t).lo, .int .i64 (depRes rv sides p t).hi], .int .i64 (depErr rv sides p t)] | 9 => r 9 = .tuple #[.agg #[.int .i64 (depRes rv sides p t).lo, .int .i64 (depRes rv sides p t).hi], .int .i64 (depErr rv sides p t)] | 10 => r 10 = .agg #[.int .i64 (depRes rv sides p t).lo, .int .i64 (depRes rv sides p t).hi] | 11 => r 11 = .int .i64 (depErr rv sides p t) | _ => True) [(2, fun fl r w_ => fl 13 = false → (∃ a b vs, r 2 = .agg #[a, b] ∧ RdRiver w_ w_.heap.size a b rv vs)), (5, fun fl r w_ => fl 13 = false → (∃ v ss, r 5 = v ∧ RdSides w_ w_.heap.size v sides ss)), (12, fun fl r w_ => ∃ g_, r 12 = .pointer (some ⟨g_, 0, none⟩) ∧ w6.heap.size ≤ g_ ∧ (fl 13 = false → Blk w_ g_ 23 #[.int .i64 0, .int .i64 0])), (13, fun _ r w_ => ∃ g_, r 12 = .pointer (some ⟨g_, 0, none⟩) ∧ Blk w_ g_ 23 #[.int .i64 (depRes rv sides p t).lo, .int .i64 (depRes rv sides p t).hi])]) (by kernel_rfl) rfl rfl (by intro i hi; simp at hi; first | (subst hi; exact ⟨by simp, by omega⟩) | (rcases hi with rfl | rfl | rfl <;> exact ⟨by simp, by omega⟩) | (rcases hi with rfl | rfl <;> exact ⟨by simp, by omega⟩)) (base_below w6) (phiS_cons (monoS_till mono_riv) (phiS_cons (monoS_till mono_sid) (phiS_cons monoS_alloc (phiS_cons monoS_store (phiS_nil))))) (fun i_ hi_ hs_ => ?_) (fun i_ hi_ => ?_) ?_
    · match i_, hi_ with
      | 0, _ =>
        intro val fl w1 a hb ha hd hfl
        have ha := ha.sub (Sub.ins (d := 3) (Sub.nil _) rfl)
        exact ss_val ha rfl rfl (fa_54_0 rfl) rfl rfl
      | 1, _ =>
        intro val fl w1 a hb ha hd hfl
        have e0 : val 0 = .pointer (some ⟨g1, 0, none⟩) := hd 0 (memB_mem.1 rfl)
        have ha := ha.sub (Sub.ins (d := 26) (Sub.nil _) (dep_get rfl e0))
        exact ss_val ha rfl rfl (ld_47 rfl ((q1.below hb q1.lt).at (j := 0) rfl) ((q1.below hb q1.lt).at (j := 1) rfl)) rfl rfl
      | 2, _ =>
        intro val fl w1 a hb ha hd hfl
        have e1 : val 1 = .agg #[.slice A rv.reaches.length c, .slice A' rv.shoals.length c'] := hd 1 (memB_mem.1 rfl)
        have ha := ha.sub (Sub.ins (d := 27) (Sub.nil _) (dep_get rfl e1))
        refine ss_call ha rfl rfl (cl_24 rfl) (copied_any rv _ _ vs _ B (hr.below ((Below.on hbw hb hbw.size).mono hB)) (Nat.le_trans hB (Below.on hbw hb hbw.size).size) (by omega) (by omega) f3) rfl ?_
        rintro e w' ⟨⟨v1, u1, vs1, rfl, hcp⟩, hb'⟩
        exact ⟨_, rfl, hb', fun _ => ⟨_, _, _, rfl, hcp⟩⟩
      | 3, _ =>
        intro val fl w1 a hb ha hd hfl
        have ha := ha.sub (Sub.ins (d := 3) (Sub.nil _) rfl)
        exact ss_val ha rfl rfl (fa_54_1 rfl) rfl rfl
      | 4, _ =>
        intro val fl w1 a hb ha hd hfl
        have e3 : val 3 = .pointer (some ⟨g1, 2, none⟩) := hd 3 (memB_mem.1 rfl)
        have ha := ha.sub (Sub.ins (d := 29) (Sub.nil _) (dep_get rfl e3))
        exact ss_val ha rfl rfl (ld_52 rfl ((q1.below hb q1.lt).at (j := 2) rfl)) rfl rfl
      | 5, _ =>
        intro val fl w1 a hb ha hd hfl
        have e4 : val 4 = .slice D sides.length d := hd 4 (memB_mem.1 rfl)
        have ha := ha.sub (Sub.ins (d := 30) (Sub.nil _) (dep_get rfl e4))
        refine ss_call ha rfl rfl (cl_34 rfl) (forecast_any sides _ ss _ B (hs.below ((Below.on hbw hb hbw.size).mono hB)) (Nat.le_trans hB (Below.on hbw hb hbw.size).size) (by omega) f4) rfl ?_
        rintro e w' ⟨⟨v1, ss1, rfl, hcp⟩, hb'⟩
        exact ⟨_, rfl, hb', fun _ => ⟨_, _, rfl, hcp⟩⟩
      | 6, _ =>
        intro val fl w1 a hb ha hd hfl
        have ha := ha.sub (Sub.ins (d := 1) (Sub.nil _) rfl)
        exact ss_val ha rfl rfl (x_move rfl) rfl rfl
      | 7, _ =>
        intro val fl w1 a hb ha hd hfl
        have ha := ha.sub (Sub.ins (d := 2) (Sub.nil _) rfl)
        exact ss_val ha rfl rfl (x_move rfl) rfl rfl
      | 8, _ =>
        intro val fl w1 a hb ha hd hfl
        obtain ⟨a2_, b2_, vs2_, e2, q2_⟩ := hd 2 (memB_mem.1 rfl) (hfl 13 (by simp) (memB_mem.1 rfl))
        obtain ⟨v5_, ss5_, e5, q5_⟩ := hd 5 (memB_mem.1 rfl) (hfl 13 (by simp) (memB_mem.1 rfl))
        have e6 : val 6 = .int .i64 p := hd 6 (memB_mem.1 rfl)
        have e7 : val 7 = .int .i64 t := hd 7 (memB_mem.1 rfl)
        have ha := ha.sub (Sub.ins (d := 33) (Sub.ins (d := 32) (Sub.ins (d := 31) (Sub.ins (d := 28) (Sub.nil _) (dep_get rfl e2)) (dep_get rfl e5)) (dep_get rfl e6)) (dep_get rfl e7))
        refine ss_call ha rfl rfl (cl_33 rfl rfl rfl rfl) (dep_any rv sides _ _ _ _ _ _ w1.heap.size q2_ q5_ (Nat.le_refl _) (by omega) (by omega) f3 (by omega) f4 p t) rfl ?_
        rintro e w' ⟨rfl, hb'⟩
        exact ⟨_, rfl, hb', rfl⟩
      | 9, _ =>
        intro val fl w1 a hb ha hd hfl
        have e8 : val 8 = .tuple #[.agg #[.int .i64 (depRes rv sides p t).lo, .int .i64 (depRes rv sides p t).hi], .int .i64 (depErr rv sides p t)] := hd 8 (memB_mem.1 rfl)
        have ha := ha.sub (Sub.ins (d := 34) (Sub.nil _) (dep_get rfl e8))
        exact ss_val ha rfl rfl (x_move rfl) rfl rfl
      | 10, _ =>
        intro val fl w1 a hb ha hd hfl
        have e9 : val 9 = .tuple #[.agg #[.int .i64 (depRes rv sides p t).lo, .int .i64 (depRes rv sides p t).hi], .int .i64 (depErr rv sides p t)] := hd 9 (memB_mem.1 rfl)
        have ha := ha.sub (Sub.ins (d := 25) (Sub.nil _) (dep_get rfl e9))
        exact ss_val ha rfl rfl (x_extract rfl rfl) rfl rfl
      | 11, _ =>
        intro val fl w1 a hb ha hd hfl
        have e9 : val 9 = .tuple #[.agg #[.int .i64 (depRes rv sides p t).lo, .int .i64 (depRes rv sides p t).hi], .int .i64 (depErr rv sides p t)] := hd 9 (memB_mem.1 rfl)
        have ha := ha.sub (Sub.ins (d := 25) (Sub.nil _) (dep_get rfl e9))
        exact ss_val ha rfl rfl (x_extract rfl rfl) rfl rfl
      | 12, _ =>
        intro val fl w1 a hb ha hd hfl
        have ha := ha.sub (Sub.nil _)
        exact ss_newP ha rfl rfl al_23 (fun g w' hq _ hge => ⟨g, rfl, Nat.le_trans hb.size hge, fun _ => hq⟩)
      | 13, _ =>
        exact absurd (by simp) hs_
      | k + 14, h => exact absurd h (by omega)
    · simp only [List.mem_singleton] at hi_; subst hi_
      intro val fl w1 a hb hfi ha hd hfl
      obtain ⟨g12_, e12, hg12_, q12_⟩ := hd 12 (memB_mem.1 rfl)
      change val 12 = _ at e12
      have e10 : val 10 = .agg #[.int .i64 (depRes rv sides p t).lo, .int .i64 (depRes rv sides p t).hi] := hd 10 (memB_mem.1 rfl)
      have ha := ha.sub (Sub.ins (d := 35) (Sub.ins (d := 9) (Sub.nil _) (dep_get rfl e12)) (dep_get rfl e10))
      refine ts_store ha rfl rfl rfl (q12_ hfi) sz_23 rfl rfl rfl rfl ?_
      intro w' hq hgr
      refine ⟨undef, rfl, hgr.size, below_store hb hgr hg12_, ⟨g12_, e12, hq⟩, fun j _ hj hn hA => ?_⟩
      exact phiS_cons_st (C := fun j => j ≠ 13 ∧ 13 ∉ clsAt [[], [0], [0, 1], [], [3], [0, 1, 2, 3, 4], [], [], [0, 1, 2, 3, 4, 5, 6, 7], [0, 1, 2, 3, 4, 5, 6, 7, 8], [0, 1, 2, 3, 4, 5, 6, 7, 8, 9], [0, 1, 2, 3, 4, 5, 6, 7, 8, 9], [], [0, 1, 2, 3, 4, 5, 6, 7, 8, 9, 10, 12], [0, 1, 2, 3, 4, 5, 6, 7, 8, 9, 10, 11, 12, 13]] j ∧ ∀ p ∈ [12], (p = j ∨ p ∈ clsAt [[], [0], [0, 1], [], [3], [0, 1, 2, 3, 4], [], [], [0, 1, 2, 3, 4, 5, 6, 7], [0, 1, 2, 3, 4, 5, 6, 7, 8], [0, 1, 2, 3, 4, 5, 6, 7, 8, 9], [0, 1, 2, 3, 4, 5, 6, 7, 8, 9], [], [0, 1, 2, 3, 4, 5, 6, 7, 8, 9, 10, 12], [0, 1, 2, 3, 4, 5, 6, 7, 8, 9, 10, 11, 12, 13]] j) → ∀ q ∈ [12], (q = 13 ∨ q ∈ clsAt [[], [0], [0, 1], [], [3], [0, 1, 2, 3, 4], [], [], [0, 1, 2, 3, 4, 5, 6, 7], [0, 1, 2, 3, 4, 5, 6, 7, 8], [0, 1, 2, 3, 4, 5, 6, 7, 8, 9], [0, 1, 2, 3, 4, 5, 6, 7, 8, 9], [], [0, 1, 2, 3, 4, 5, 6, 7, 8, 9, 10, 12], [0, 1, 2, 3, 4, 5, 6, 7, 8, 9, 10, 11, 12, 13]] 13) → p ≠ q → val p ≠ val q) (fun _ _ h => by rw [fset_eq] at h; cases h) (phiS_cons_st (C := fun j => j ≠ 13 ∧ 13 ∉ clsAt [[], [0], [0, 1], [], [3], [0, 1, 2, 3, 4], [], [], [0, 1, 2, 3, 4, 5, 6, 7], [0, 1, 2, 3, 4, 5, 6, 7, 8], [0, 1, 2, 3, 4, 5, 6, 7, 8, 9], [0, 1, 2, 3, 4, 5, 6, 7, 8, 9], [], [0, 1, 2, 3, 4, 5, 6, 7, 8, 9, 10, 12], [0, 1, 2, 3, 4, 5, 6, 7, 8, 9, 10, 11, 12, 13]] j ∧ ∀ p ∈ [12], (p = j ∨ p ∈ clsAt [[], [0], [0, 1], [], [3], [0, 1, 2, 3, 4], [], [], [0, 1, 2, 3, 4, 5, 6, 7], [0, 1, 2, 3, 4, 5, 6, 7, 8], [0, 1, 2, 3, 4, 5, 6, 7, 8, 9], [0, 1, 2, 3, 4, 5, 6, 7, 8, 9], [], [0, 1, 2, 3, 4, 5, 6, 7, 8, 9, 10, 12], [0, 1, 2, 3, 4, 5, 6, 7, 8, 9, 10, 11, 12, 13]] j) → ∀ q ∈ [12], (q = 13 ∨ q ∈ clsAt [[], [0], [0, 1], [], [3], [0, 1, 2, 3, 4], [], [], [0, 1, 2, 3, 4, 5, 6, 7], [0, 1, 2, 3, 4, 5, 6, 7, 8], [0, 1, 2, 3, 4, 5, 6, 7, 8, 9], [0, 1, 2, 3, 4, 5, 6, 7, 8, 9], [], [0, 1, 2, 3, 4, 5, 6, 7, 8, 9, 10, 12], [0, 1, 2, 3, 4, 5, 6, 7, 8, 9, 10, 11, 12, 13]] 13) → p ≠ q → val p ≠ val q) (fun _ _ h => by rw [fset_eq] at h; cases h) (phiS_cons_st (C := fun j => j ≠ 13 ∧ 13 ∉ clsAt [[], [0], [0, 1], [], [3], [0, 1, 2, 3, 4], [], [], [0, 1, 2, 3, 4, 5, 6, 7], [0, 1, 2, 3, 4, 5, 6, 7, 8], [0, 1, 2, 3, 4, 5, 6, 7, 8, 9], [0, 1, 2, 3, 4, 5, 6, 7, 8, 9], [], [0, 1, 2, 3, 4, 5, 6, 7, 8, 9, 10, 12], [0, 1, 2, 3, 4, 5, 6, 7, 8, 9, 10, 11, 12, 13]] j ∧ ∀ p ∈ [12], (p = j ∨ p ∈ clsAt [[], [0], [0, 1], [], [3], [0, 1, 2, 3, 4], [], [], [0, 1, 2, 3, 4, 5, 6, 7], [0, 1, 2, 3, 4, 5, 6, 7, 8], [0, 1, 2, 3, 4, 5, 6, 7, 8, 9], [0, 1, 2, 3, 4, 5, 6, 7, 8, 9], [], [0, 1, 2, 3, 4, 5, 6, 7, 8, 9, 10, 12], [0, 1, 2, 3, 4, 5, 6, 7, 8, 9, 10, 11, 12, 13]] j) → ∀ q ∈ [12], (q = 13 ∨ q ∈ clsAt [[], [0], [0, 1], [], [3], [0, 1, 2, 3, 4], [], [], [0, 1, 2, 3, 4, 5, 6, 7], [0, 1, 2, 3, 4, 5, 6, 7, 8], [0, 1, 2, 3, 4, 5, 6, 7, 8, 9], [0, 1, 2, 3, 4, 5, 6, 7, 8, 9], [], [0, 1, 2, 3, 4, 5, 6, 7, 8, 9, 10, 12], [0, 1, 2, 3, 4, 5, 6, 7, 8, 9, 10, 11, 12, 13]] 13) → p ≠ q → val p ≠ val q) (fun _ ⟨g, h1, h2, _⟩ => ⟨g, h1, h2, fun h => by rw [fset_eq] at h; cases h⟩) (phiS_cons_st (C := fun j => j ≠ 13 ∧ 13 ∉ clsAt [[], [0], [0, 1], [], [3], [0, 1, 2, 3, 4], [], [], [0, 1, 2, 3, 4, 5, 6, 7], [0, 1, 2, 3, 4, 5, 6, 7, 8], [0, 1, 2, 3, 4, 5, 6, 7, 8, 9], [0, 1, 2, 3, 4, 5, 6, 7, 8, 9], [], [0, 1, 2, 3, 4, 5, 6, 7, 8, 9, 10, 12], [0, 1, 2, 3, 4, 5, 6, 7, 8, 9, 10, 11, 12, 13]] j ∧ ∀ p ∈ [12], (p = j ∨ p ∈ clsAt [[], [0], [0, 1], [], [3], [0, 1, 2, 3, 4], [], [], [0, 1, 2, 3, 4, 5, 6, 7], [0, 1, 2, 3, 4, 5, 6, 7, 8], [0, 1, 2, 3, 4, 5, 6, 7, 8, 9], [0, 1, 2, 3, 4, 5, 6, 7, 8, 9], [], [0, 1, 2, 3, 4, 5, 6, 7, 8, 9, 10, 12], [0, 1, 2, 3, 4, 5, 6, 7, 8, 9, 10, 11, 12, 13]] j) → ∀ q ∈ [12], (q = 13 ∨ q ∈ clsAt [[], [0], [0, 1], [], [3], [0, 1, 2, 3, 4], [], [], [0, 1, 2, 3, 4, 5, 6, 7], [0, 1, 2, 3, 4, 5, 6, 7, 8], [0, 1, 2, 3, 4, 5, 6, 7, 8, 9], [0, 1, 2, 3, 4, 5, 6, 7, 8, 9], [], [0, 1, 2, 3, 4, 5, 6, 7, 8, 9, 10, 12], [0, 1, 2, 3, 4, 5, 6, 7, 8, 9, 10, 11, 12, 13]] 13) → p ≠ q → val p ≠ val q) (fun hc => absurd rfl hc.1) (fun _ _ h => h)))) j ⟨hj, hn, hA⟩
    · intro val fl w' hfl hb halc hd
      have e0 : val 0 = .pointer (some ⟨g1, 0, none⟩) := hd 0 (by omega)
      have e1 : val 1 = .agg #[.slice A rv.reaches.length c, .slice A' rv.shoals.length c'] := hd 1 (by omega)
      have e3 : val 3 = .pointer (some ⟨g1, 2, none⟩) := hd 3 (by omega)
      have e4 : val 4 = .slice D sides.length d := hd 4 (by omega)
      have e6 : val 6 = .int .i64 p := hd 6 (by omega)
      have e7 : val 7 = .int .i64 t := hd 7 (by omega)
      have e8 : val 8 = .tuple #[.agg #[.int .i64 (depRes rv sides p t).lo, .int .i64 (depRes rv sides p t).hi], .int .i64 (depErr rv sides p t)] := hd 8 (by omega)
      have e9 : val 9 = .tuple #[.agg #[.int .i64 (depRes rv sides p t).lo, .int .i64 (depRes rv sides p t).hi], .int .i64 (depErr rv sides p t)] := hd 9 (by omega)
      have e10 : val 10 = .agg #[.int .i64 (depRes rv sides p t).lo, .int .i64 (depRes rv sides p t).hi] := hd 10 (by omega)
      have e11 : val 11 = .int .i64 (depErr rv sides p t) := hd 11 (by omega)
      obtain ⟨ga12, e12, qa12⟩ := hd 13 (by omega)
      change val 12 = _ at e12
      refine EL.ends (cs := [.pointer (some ⟨g1, 0, none⟩), .agg #[.slice A rv.reaches.length c, .slice A' rv.shoals.length c'], val 2, .pointer (some ⟨g1, 2, none⟩), .slice D sides.length d, val 5, .int .i64 p, .int .i64 t, .tuple #[.agg #[.int .i64 (depRes rv sides p t).lo, .int .i64 (depRes rv sides p t).hi], .int .i64 (depErr rv sides p t)], .tuple #[.agg #[.int .i64 (depRes rv sides p t).lo, .int .i64 (depRes rv sides p t).hi], .int .i64 (depErr rv sides p t)], .agg #[.int .i64 (depRes rv sides p t).lo, .int .i64 (depRes rv sides p t).hi], .int .i64 (depErr rv sides p t), .pointer (some ⟨ga12, 0, none⟩), val 13]) ⟨e0, e1, rfl, e3, e4, rfl, e6, e7, e8, e9, e10, e11, e12, rfl, trivial⟩ rfl ?_
      replace q1 := q1.below hb q1.lt
      replace q5 := q5.below hb q5.lt
      have bge7 := alc_ge halc (i := 12) rfl rfl e12
      have n1_7 : g1 ≠ ga12 := Nat.ne_of_lt (Nat.lt_of_lt_of_le lt_1 bge7)
      have n5_7 : g5 ≠ ga12 := Nat.ne_of_lt (Nat.lt_of_lt_of_le lt_5 bge7)
      have bhbw_7 := Nat.le_trans hbw.size bge7
      replace hbw := Below.on hbw hb hbw.size
      refine EL.val (x_assign rfl) rfl ?_
      refine EL.nil ?_
      refine EX.seq ?_
      refine EC.seq ?_
      refine EC.region ?_
      refine EL.val (fa_54_0 rfl) rfl ?_
      refine EL.val (ld_47 rfl (q1.at (j := 0) rfl) (q1.at (j := 1) rfl)) rfl ?_
      cases hok : riverB rv
      ·
        have hse := start2 (sides := sides) hok
        obtain ⟨hbe, hbb⟩ := bed_bad (p := p) (t := t) hok
        refine EL.call (cl_26 rfl) rfl (by have key := rriver_any rv _ _ vs _ B (hr.below (hbw.mono hB)) (Nat.le_trans hB hbw.size) (by omega) (by omega) f3; rw [hok] at key; exact key) ?_
        rintro e w8 ⟨rfl, hc8⟩
        refine ⟨_, rfl, ?_⟩
        replace q1 := q1.below hc8 q1.lt
        replace q5 := q5.below hc8 q5.lt
        replace qa12 := qa12.below hc8 qa12.lt
        replace hbw := Below.on hbw hc8 hbw.size
        clear hc8
        refine EL.val (x_not rfl) rfl ?_
        refine EL.val (x_move rfl) rfl ?_
        refine EL.skip rfl rfl rfl rfl ?_
        refine EL.skip rfl rfl rfl rfl ?_
        refine EL.skip rfl rfl rfl rfl ?_
        refine EL.skip rfl rfl rfl rfl ?_
        refine EL.skip rfl rfl rfl rfl ?_
        refine EL.skip rfl rfl rfl rfl ?_
        refine EL.skip rfl rfl rfl rfl ?_
        refine EL.val (x_pick_t rfl rfl) rfl ?_
        refine EL.val (x_assign rfl) rfl ?_
        refine EL.nil ?_
        refine EX.seq ?_
        refine EC.seq ?_
        refine EC.block ?_
        refine EC.seq ?_
        refine EC.region ?_
        refine EL.val (fa_54_0 rfl) rfl ?_
        refine EL.val (ld_47 rfl (q1.at (j := 0) rfl) (q1.at (j := 1) rfl)) rfl ?_
        refine EL.call (cl_26 rfl) rfl (by have key := rriver_any rv _ _ vs _ B (hr.below (hbw.mono hB)) (Nat.le_trans hB hbw.size) (by omega) (by omega) f3; rw [hok] at key; exact key) ?_
        rintro e w9 ⟨rfl, hc9⟩
        refine ⟨_, rfl, ?_⟩
        replace q1 := q1.below hc9 q1.lt
        replace q5 := q5.below hc9 q5.lt
        replace qa12 := qa12.below hc9 qa12.lt
        replace hbw := Below.on hbw hc9 hbw.size
        clear hc9
        refine EL.val (x_not rfl) rfl ?_
        refine EL.val (x_assign rfl) rfl ?_
        refine EL.nil ?_
        refine EX.seq ?_
        refine EC.yes rfl ?_
        refine EC.seq ?_
        refine EC.region ?_
        refine EL.val (x_move rfl) rfl ?_
        refine EL.val (x_neq rfl rfl (by first | assumption | exact decide_eq_false (by omega))) rfl ?_
        refine EL.val (x_move rfl) rfl ?_
        refine EL.valg rfl rfl (ld_23 rfl (q5.at (j := 0) rfl) (q5.at (j := 1) rfl)) rfl ?_
        refine EL.valg rfl rfl (bd_23_) rfl ?_
        refine EL.valg rfl rfl (neq_23 (r := false) rfl rfl (by simp [hbb, bd0])) rfl ?_
        refine EL.val (x_pick_f rfl rfl) rfl ?_
        refine EL.nil ?_
        refine EX.seq ?_
        refine EC.no rfl ?_
        refine EC.skip ?_
        refine EX.blk ?_
        refine EX.seq ?_
        refine EC.seq ?_
        refine EC.region ?_
        refine EL.val (fa_54_0 rfl) rfl ?_
        refine EL.val (ld_47 rfl (q1.at (j := 0) rfl) (q1.at (j := 1) rfl)) rfl ?_
        refine EL.val (fa_54_1 rfl) rfl ?_
        refine EL.val (ld_52 rfl (q1.at (j := 2) rfl)) rfl ?_
        ·
          have hst : startErr rv sides ≠ 0 := by omega
          obtain ⟨hde, hdb⟩ := depr_open (p := p) (t := t) hst
          refine EL.call (cl_38 rfl rfl) rfl (rstart_any rv sides _ _ _ vs ss _ B (hr.below (hbw.mono hB)) (hs.below (hbw.mono hB)) (Nat.le_trans hB hbw.size) (by omega) (by omega) f3 (by omega) f4) ?_
          rintro e w10 ⟨rfl, hc10⟩
          refine ⟨_, rfl, ?_⟩
          replace q1 := q1.below hc10 q1.lt
          replace q5 := q5.below hc10 q5.lt
          replace qa12 := qa12.below hc10 qa12.lt
          replace hbw := Below.on hbw hc10 hbw.size
          clear hc10
          refine EL.val (x_assign rfl) rfl ?_
          refine EL.nil ?_
          refine EX.seq ?_
          refine EC.seq ?_
          refine EC.seq ?_
          refine EC.region ?_
          refine EL.val (x_move rfl) rfl ?_
          refine EL.val (x_eql rfl rfl (by first | assumption | exact decide_eq_false (by omega))) rfl ?_
          refine EL.val (x_move rfl) rfl ?_
          refine EL.skip rfl rfl rfl rfl ?_
          refine EL.val (x_pick_f rfl rfl) rfl ?_
          refine EL.nil ?_
          refine EX.seq ?_
          refine EC.no rfl ?_
          refine EC.skip ?_
          refine EX.seq ?_
          refine EC.seq ?_
          refine EC.seq ?_
          refine EC.region ?_
          refine EL.val (x_move rfl) rfl ?_
          refine EL.val (x_eql rfl rfl (by first | assumption | exact decide_eq_false (by omega))) rfl ?_
          refine EL.val (x_move rfl) rfl ?_
          refine EL.skip rfl rfl rfl rfl ?_
          refine EL.skip rfl rfl rfl rfl ?_
          refine EL.skip rfl rfl rfl rfl ?_
          refine EL.skip rfl rfl rfl rfl ?_
          refine EL.skip rfl rfl rfl rfl ?_
          refine EL.skip rfl rfl rfl rfl ?_
          refine EL.skip rfl rfl rfl rfl ?_
          refine EL.skip rfl rfl rfl rfl ?_
          refine EL.skip rfl rfl rfl rfl ?_
          refine EL.val (x_pick_f rfl rfl) rfl ?_
          refine EL.nil ?_
          refine EX.seq ?_
          refine EC.no rfl ?_
          refine EC.skip ?_
          refine EX.seq ?_
          refine EC.seq ?_
          refine EC.seq ?_
          refine EC.region ?_
          refine EL.val (x_move rfl) rfl ?_
          refine EL.val (x_neq rfl rfl (by first | assumption | exact decide_eq_true (by omega))) rfl ?_
          refine EL.nil ?_
          refine EX.seq ?_
          refine EC.yes rfl ?_
          refine EC.seq ?_
          refine EC.region ?_
          refine EL.val (x_move rfl) rfl ?_
          refine EL.val (x_move rfl) rfl ?_
          refine EL.val (x_eql rfl rfl (by first | assumption | exact decide_eq_true (by omega))) rfl ?_
          refine EL.val (x_move rfl) rfl ?_
          refine EL.valg rfl rfl (ld_23 rfl (qa12.at (j := 0) rfl) (qa12.at (j := 1) rfl)) rfl ?_
          refine EL.valg rfl rfl (bd_23_) rfl ?_
          refine EL.valg rfl rfl (eql_23 (r := true) rfl rfl (by simp [hdb, bd0])) rfl ?_
          refine EL.val (x_pick_t rfl rfl) rfl ?_
          refine EL.val (x_move rfl) rfl ?_
          refine EL.callg rfl rfl cl_16 rfl (known_any _) ?_
          rintro e w11 ⟨rfl, hc11⟩
          refine ⟨_, rfl, ?_⟩
          replace q1 := q1.below hc11 q1.lt
          replace q5 := q5.below hc11 q5.lt
          replace qa12 := qa12.below hc11 qa12.lt
          replace hbw := Below.on hbw hc11 hbw.size
          clear hc11
          refine EL.val (x_pick_t rfl rfl) rfl ?_
          refine EL.val (x_assign rfl) rfl ?_
          refine EL.nil ?_
          refine EX.seq ?_
          refine EC.ret ?_
          refine EX.seq_ret ?_
          exact EX.done (res1 rfl rfl) ⟨rfl, hbw⟩
      ·
        have hR := riverB_ok hok
        have hpl := hR.places
        refine EL.call (cl_26 rfl) rfl (by have key := rriver_any rv _ _ vs _ B (hr.below (hbw.mono hB)) (Nat.le_trans hB hbw.size) (by omega) (by omega) f3; rw [hok] at key; exact key) ?_
        rintro e w12 ⟨rfl, hc12⟩
        refine ⟨_, rfl, ?_⟩
        replace q1 := q1.below hc12 q1.lt
        replace q5 := q5.below hc12 q5.lt
        replace qa12 := qa12.below hc12 qa12.lt
        replace hbw := Below.on hbw hc12 hbw.size
        clear hc12
        refine EL.val (x_not rfl) rfl ?_
        refine EL.val (x_move rfl) rfl ?_
        refine EL.valg rfl rfl (x_move rfl) rfl ?_
        refine EL.valg rfl rfl (fa_54_0 rfl) rfl ?_
        refine EL.valg rfl rfl (ld_47 rfl (q1.at (j := 0) rfl) (q1.at (j := 1) rfl)) rfl ?_
        refine EL.callg rfl rfl (cl_36 rfl) rfl (places_any rv _ _ vs _ B (hr.below (hbw.mono hB)) (Nat.le_trans hB hbw.size) (by omega) (river_lens hok)) ?_
        rintro e w13 ⟨rfl, hc13⟩
        refine ⟨_, rfl, ?_⟩
        replace q1 := q1.below hc13 q1.lt
        replace q5 := q5.below hc13 q5.lt
        replace qa12 := qa12.below hc13 qa12.lt
        replace hbw := Below.on hbw hc13 hbw.size
        clear hc13
        refine EL.valg rfl rfl (x_sub rfl rfl (by first | assumption | exact IntWalk.i64_in _ ⟨by omega, by omega⟩)) rfl ?_
        cases hp : inB 0 (placesOf rv.reaches - 1) p
        ·
          obtain ⟨hbe, hbb⟩ := bed_none (t := t) hok hp
          refine EL.callg rfl rfl (cl_35 rfl rfl rfl) rfl (by have key := in_bel p 0 (placesOf rv.reaches - 1) w13; rw [hp] at key; exact key) ?_
          rintro e w14 ⟨rfl, hc14⟩
          refine ⟨_, rfl, ?_⟩
          replace q1 := q1.below hc14 q1.lt
          replace q5 := q5.below hc14 q5.lt
          replace qa12 := qa12.below hc14 qa12.lt
          replace hbw := Below.on hbw hc14 hbw.size
          clear hc14
          refine EL.valg rfl rfl (x_not rfl) rfl ?_
          refine EL.val (x_pick_f rfl rfl) rfl ?_
          refine EL.val (x_assign rfl) rfl ?_
          refine EL.nil ?_
          refine EX.seq ?_
          refine EC.seq ?_
          refine EC.block ?_
          refine EC.seq ?_
          refine EC.region ?_
          refine EL.val (fa_54_0 rfl) rfl ?_
          refine EL.val (ld_47 rfl (q1.at (j := 0) rfl) (q1.at (j := 1) rfl)) rfl ?_
          refine EL.call (cl_26 rfl) rfl (by have key := rriver_any rv _ _ vs _ B (hr.below (hbw.mono hB)) (Nat.le_trans hB hbw.size) (by omega) (by omega) f3; rw [hok] at key; exact key) ?_
          rintro e w15 ⟨rfl, hc15⟩
          refine ⟨_, rfl, ?_⟩
          replace q1 := q1.below hc15 q1.lt
          replace q5 := q5.below hc15 q5.lt
          replace qa12 := qa12.below hc15 qa12.lt
          replace hbw := Below.on hbw hc15 hbw.size
          clear hc15
          refine EL.val (x_not rfl) rfl ?_
          refine EL.val (x_assign rfl) rfl ?_
          refine EL.nil ?_
          refine EX.seq ?_
          refine EC.no rfl ?_
          refine EC.seq ?_
          refine EC.region ?_
          refine EL.val (x_move rfl) rfl ?_
          refine EL.val (x_assign rfl) rfl ?_
          refine EL.nil ?_
          refine EX.seq ?_
          refine EC.yes rfl ?_
          refine EC.seq ?_
          refine EC.region ?_
          refine EL.val (x_move rfl) rfl ?_
          refine EL.val (x_neq rfl rfl (by first | assumption | exact decide_eq_false (by omega))) rfl ?_
          refine EL.val (x_move rfl) rfl ?_
          refine EL.valg rfl rfl (ld_23 rfl (q5.at (j := 0) rfl) (q5.at (j := 1) rfl)) rfl ?_
          refine EL.valg rfl rfl (bd_23_) rfl ?_
          refine EL.valg rfl rfl (neq_23 (r := false) rfl rfl (by simp [hbb, bd0])) rfl ?_
          refine EL.val (x_pick_f rfl rfl) rfl ?_
          refine EL.nil ?_
          refine EX.seq ?_
          refine EC.no rfl ?_
          refine EC.skip ?_
          refine EX.blk ?_
          refine EX.seq ?_
          refine EC.seq ?_
          refine EC.region ?_
          refine EL.val (fa_54_0 rfl) rfl ?_
          refine EL.val (ld_47 rfl (q1.at (j := 0) rfl) (q1.at (j := 1) rfl)) rfl ?_
          refine EL.val (fa_54_1 rfl) rfl ?_
          refine EL.val (ld_52 rfl (q1.at (j := 2) rfl)) rfl ?_
          by_cases hst : startErr rv sides = 0
          ·
            obtain ⟨_, hS⟩ := startErr_ok hst
            have hhr := hS.hours
            obtain ⟨hde, hdb⟩ := depr_none (t := t) hst hp
            refine EL.call (cl_38 rfl rfl) rfl (rstart_any rv sides _ _ _ vs ss _ B (hr.below (hbw.mono hB)) (hs.below (hbw.mono hB)) (Nat.le_trans hB hbw.size) (by omega) (by omega) f3 (by omega) f4) ?_
            rintro e w16 ⟨rfl, hc16⟩
            refine ⟨_, rfl, ?_⟩
            replace q1 := q1.below hc16 q1.lt
            replace q5 := q5.below hc16 q5.lt
            replace qa12 := qa12.below hc16 qa12.lt
            replace hbw := Below.on hbw hc16 hbw.size
            clear hc16
            refine EL.val (x_assign rfl) rfl ?_
            refine EL.nil ?_
            refine EX.seq ?_
            refine EC.seq ?_
            refine EC.seq ?_
            refine EC.region ?_
            refine EL.val (x_move rfl) rfl ?_
            refine EL.val (x_eql rfl rfl (by first | assumption | exact decide_eq_true (by omega))) rfl ?_
            refine EL.val (x_move rfl) rfl ?_
            refine EL.valg rfl rfl (x_move rfl) rfl ?_
            refine EL.val (x_pick_t rfl rfl) rfl ?_
            refine EL.nil ?_
            refine EX.seq ?_
            refine EC.yes rfl ?_
            refine EC.region ?_
            refine EL.val (x_assign rfl) rfl ?_
            refine EL.nil ?_
            refine EX.seq ?_
            refine EC.seq ?_
            refine EC.seq ?_
            refine EC.region ?_
            refine EL.val (x_move rfl) rfl ?_
            refine EL.val (x_eql rfl rfl (by first | assumption | exact decide_eq_false (by omega))) rfl ?_
            refine EL.val (x_move rfl) rfl ?_
            refine EL.skip rfl rfl rfl rfl ?_
            refine EL.skip rfl rfl rfl rfl ?_
            refine EL.skip rfl rfl rfl rfl ?_
            refine EL.skip rfl rfl rfl rfl ?_
            refine EL.skip rfl rfl rfl rfl ?_
            refine EL.skip rfl rfl rfl rfl ?_
            refine EL.skip rfl rfl rfl rfl ?_
            refine EL.skip rfl rfl rfl rfl ?_
            refine EL.skip rfl rfl rfl rfl ?_
            refine EL.val (x_pick_f rfl rfl) rfl ?_
            refine EL.nil ?_
            refine EX.seq ?_
            refine EC.no rfl ?_
            refine EC.skip ?_
            refine EX.seq ?_
            refine EC.seq ?_
            refine EC.seq ?_
            refine EC.region ?_
            refine EL.val (x_move rfl) rfl ?_
            refine EL.val (x_neq rfl rfl (by first | assumption | exact decide_eq_true (by omega))) rfl ?_
            refine EL.nil ?_
            refine EX.seq ?_
            refine EC.yes rfl ?_
            refine EC.seq ?_
            refine EC.region ?_
            refine EL.val (x_move rfl) rfl ?_
            refine EL.val (x_move rfl) rfl ?_
            refine EL.val (x_eql rfl rfl (by first | assumption | exact decide_eq_true (by omega))) rfl ?_
            refine EL.val (x_move rfl) rfl ?_
            refine EL.valg rfl rfl (ld_23 rfl (qa12.at (j := 0) rfl) (qa12.at (j := 1) rfl)) rfl ?_
            refine EL.valg rfl rfl (bd_23_) rfl ?_
            refine EL.valg rfl rfl (eql_23 (r := true) rfl rfl (by simp [hdb, bd0])) rfl ?_
            refine EL.val (x_pick_t rfl rfl) rfl ?_
            refine EL.val (x_move rfl) rfl ?_
            refine EL.callg rfl rfl cl_16 rfl (known_any _) ?_
            rintro e w17 ⟨rfl, hc17⟩
            refine ⟨_, rfl, ?_⟩
            replace q1 := q1.below hc17 q1.lt
            replace q5 := q5.below hc17 q5.lt
            replace qa12 := qa12.below hc17 qa12.lt
            replace hbw := Below.on hbw hc17 hbw.size
            clear hc17
            refine EL.val (x_pick_t rfl rfl) rfl ?_
            refine EL.val (x_assign rfl) rfl ?_
            refine EL.nil ?_
            refine EX.seq ?_
            refine EC.ret ?_
            refine EX.seq_ret ?_
            exact EX.done (res1 rfl rfl) ⟨rfl, hbw⟩
          ·
            obtain ⟨hde, hdb⟩ := depr_open (p := p) (t := t) hst
            refine EL.call (cl_38 rfl rfl) rfl (rstart_any rv sides _ _ _ vs ss _ B (hr.below (hbw.mono hB)) (hs.below (hbw.mono hB)) (Nat.le_trans hB hbw.size) (by omega) (by omega) f3 (by omega) f4) ?_
            rintro e w18 ⟨rfl, hc18⟩
            refine ⟨_, rfl, ?_⟩
            replace q1 := q1.below hc18 q1.lt
            replace q5 := q5.below hc18 q5.lt
            replace qa12 := qa12.below hc18 qa12.lt
            replace hbw := Below.on hbw hc18 hbw.size
            clear hc18
            refine EL.val (x_assign rfl) rfl ?_
            refine EL.nil ?_
            refine EX.seq ?_
            refine EC.seq ?_
            refine EC.seq ?_
            refine EC.region ?_
            refine EL.val (x_move rfl) rfl ?_
            refine EL.val (x_eql rfl rfl (by first | assumption | exact decide_eq_false (by omega))) rfl ?_
            refine EL.val (x_move rfl) rfl ?_
            refine EL.skip rfl rfl rfl rfl ?_
            refine EL.val (x_pick_f rfl rfl) rfl ?_
            refine EL.nil ?_
            refine EX.seq ?_
            refine EC.no rfl ?_
            refine EC.skip ?_
            refine EX.seq ?_
            refine EC.seq ?_
            refine EC.seq ?_
            refine EC.region ?_
            refine EL.val (x_move rfl) rfl ?_
            refine EL.val (x_eql rfl rfl (by first | assumption | exact decide_eq_false (by omega))) rfl ?_
            refine EL.val (x_move rfl) rfl ?_
            refine EL.skip rfl rfl rfl rfl ?_
            refine EL.skip rfl rfl rfl rfl ?_
            refine EL.skip rfl rfl rfl rfl ?_
            refine EL.skip rfl rfl rfl rfl ?_
            refine EL.skip rfl rfl rfl rfl ?_
            refine EL.skip rfl rfl rfl rfl ?_
            refine EL.skip rfl rfl rfl rfl ?_
            refine EL.skip rfl rfl rfl rfl ?_
            refine EL.skip rfl rfl rfl rfl ?_
            refine EL.val (x_pick_f rfl rfl) rfl ?_
            refine EL.nil ?_
            refine EX.seq ?_
            refine EC.no rfl ?_
            refine EC.skip ?_
            refine EX.seq ?_
            refine EC.seq ?_
            refine EC.seq ?_
            refine EC.region ?_
            refine EL.val (x_move rfl) rfl ?_
            refine EL.val (x_neq rfl rfl (by first | assumption | exact decide_eq_true (by omega))) rfl ?_
            refine EL.nil ?_
            refine EX.seq ?_
            refine EC.yes rfl ?_
            refine EC.seq ?_
            refine EC.region ?_
            refine EL.val (x_move rfl) rfl ?_
            refine EL.val (x_move rfl) rfl ?_
            refine EL.val (x_eql rfl rfl (by first | assumption | exact decide_eq_true (by omega))) rfl ?_
            refine EL.val (x_move rfl) rfl ?_
            refine EL.valg rfl rfl (ld_23 rfl (qa12.at (j := 0) rfl) (qa12.at (j := 1) rfl)) rfl ?_
            refine EL.valg rfl rfl (bd_23_) rfl ?_
            refine EL.valg rfl rfl (eql_23 (r := true) rfl rfl (by simp [hdb, bd0])) rfl ?_
            refine EL.val (x_pick_t rfl rfl) rfl ?_
            refine EL.val (x_move rfl) rfl ?_
            refine EL.callg rfl rfl cl_16 rfl (known_any _) ?_
            rintro e w19 ⟨rfl, hc19⟩
            refine ⟨_, rfl, ?_⟩
            replace q1 := q1.below hc19 q1.lt
            replace q5 := q5.below hc19 q5.lt
            replace qa12 := qa12.below hc19 qa12.lt
            replace hbw := Below.on hbw hc19 hbw.size
            clear hc19
            refine EL.val (x_pick_t rfl rfl) rfl ?_
            refine EL.val (x_assign rfl) rfl ?_
            refine EL.nil ?_
            refine EX.seq ?_
            refine EC.ret ?_
            refine EX.seq_ret ?_
            exact EX.done (res1 rfl rfl) ⟨rfl, hbw⟩
        ·
          have hp_ := inB_iff.1 hp
          refine EL.callg rfl rfl (cl_35 rfl rfl rfl) rfl (by have key := in_bel p 0 (placesOf rv.reaches - 1) w13; rw [hp] at key; exact key) ?_
          rintro e w20 ⟨rfl, hc20⟩
          refine ⟨_, rfl, ?_⟩
          replace q1 := q1.below hc20 q1.lt
          replace q5 := q5.below hc20 q5.lt
          replace qa12 := qa12.below hc20 qa12.lt
          replace hbw := Below.on hbw hc20 hbw.size
          clear hc20
          refine EL.valg rfl rfl (x_not rfl) rfl ?_
          refine EL.val (x_pick_f rfl rfl) rfl ?_
          refine EL.val (x_assign rfl) rfl ?_
          refine EL.nil ?_
          refine EX.seq ?_
          refine EC.seq ?_
          refine EC.block ?_
          refine EC.seq ?_
          refine EC.region ?_
          refine EL.val (fa_54_0 rfl) rfl ?_
          refine EL.val (ld_47 rfl (q1.at (j := 0) rfl) (q1.at (j := 1) rfl)) rfl ?_
          refine EL.call (cl_26 rfl) rfl (by have key := rriver_any rv _ _ vs _ B (hr.below (hbw.mono hB)) (Nat.le_trans hB hbw.size) (by omega) (by omega) f3; rw [hok] at key; exact key) ?_
          rintro e w21 ⟨rfl, hc21⟩
          refine ⟨_, rfl, ?_⟩
          replace q1 := q1.below hc21 q1.lt
          replace q5 := q5.below hc21 q5.lt
          replace qa12 := qa12.below hc21 qa12.lt
          replace hbw := Below.on hbw hc21 hbw.size
          clear hc21
          refine EL.val (x_not rfl) rfl ?_
          refine EL.val (x_assign rfl) rfl ?_
          refine EL.nil ?_
          refine EX.seq ?_
          refine EC.no rfl ?_
          refine EC.seq ?_
          refine EC.region ?_
          refine EL.val (x_move rfl) rfl ?_
          refine EL.val (x_assign rfl) rfl ?_
          refine EL.nil ?_
          refine EX.seq ?_
          refine EC.no rfl ?_
          refine EC.seq ?_
          refine EC.region ?_
          refine EL.val (x_move rfl) rfl ?_
          cases ht4 : inB (-400) 400 t
          ·
            obtain ⟨hbe, hbb⟩ := bed_range hok hp ht4
            refine EL.call (cl_35 rfl rfl rfl) rfl (by have key := in_bel t (-400) 400 w21; rw [ht4] at key; exact key) ?_
            rintro e w22 ⟨rfl, hc22⟩
            refine ⟨_, rfl, ?_⟩
            replace q1 := q1.below hc22 q1.lt
            replace q5 := q5.below hc22 q5.lt
            replace qa12 := qa12.below hc22 qa12.lt
            replace hbw := Below.on hbw hc22 hbw.size
            clear hc22
            refine EL.val (x_not rfl) rfl ?_
            refine EL.val (x_assign rfl) rfl ?_
            refine EL.nil ?_
            refine EX.seq ?_
            refine EC.yes rfl ?_
            refine EC.seq ?_
            refine EC.region ?_
            refine EL.val (x_move rfl) rfl ?_
            refine EL.val (x_neq rfl rfl (by first | assumption | exact decide_eq_false (by omega))) rfl ?_
            refine EL.val (x_move rfl) rfl ?_
            refine EL.valg rfl rfl (ld_23 rfl (q5.at (j := 0) rfl) (q5.at (j := 1) rfl)) rfl ?_
            refine EL.valg rfl rfl (bd_23_) rfl ?_
            refine EL.valg rfl rfl (neq_23 (r := false) rfl rfl (by simp [hbb, bd0])) rfl ?_
            refine EL.val (x_pick_f rfl rfl) rfl ?_
            refine EL.nil ?_
            refine EX.seq ?_
            refine EC.no rfl ?_
            refine EC.skip ?_
            refine EX.blk ?_
            refine EX.seq ?_
            refine EC.seq ?_
            refine EC.region ?_
            refine EL.val (fa_54_0 rfl) rfl ?_
            refine EL.val (ld_47 rfl (q1.at (j := 0) rfl) (q1.at (j := 1) rfl)) rfl ?_
            refine EL.val (fa_54_1 rfl) rfl ?_
            refine EL.val (ld_52 rfl (q1.at (j := 2) rfl)) rfl ?_
            by_cases hst : startErr rv sides = 0
            ·
              obtain ⟨_, hS⟩ := startErr_ok hst
              have hhr := hS.hours
              obtain ⟨bS, oS, rfl, _, c0⟩ := sides_cell hs 0 (by have := hS.many; have := hR.some; omega)
              have hs0 := hs.side 0 (by have := hS.many; have := hR.some; omega)
              obtain ⟨As, cs, es, _⟩ := hs0.shape
              rw [es] at c0
              have hth : inB 0 (((sides.getD 0 []).length : Nat) - 1 : Int) t = false := by
                cases h : inB 0 (((sides.getD 0 []).length : Nat) - 1 : Int) t
                · rfl
                · have h1 := inB_iff.1 h; have h2 : inB (-400) 400 t = true := inB_iff.2 (by omega); rw [h2] at ht4; cases ht4
              obtain ⟨hde, hdb⟩ := depr_range hst hp hth
              refine EL.call (cl_38 rfl rfl) rfl (rstart_any rv sides _ _ _ vs ss _ B (hr.below (hbw.mono hB)) (hs.below (hbw.mono hB)) (Nat.le_trans hB hbw.size) (by omega) (by omega) f3 (by omega) f4) ?_
              rintro e w23 ⟨rfl, hc23⟩
              refine ⟨_, rfl, ?_⟩
              replace q1 := q1.below hc23 q1.lt
              replace q5 := q5.below hc23 q5.lt
              replace qa12 := qa12.below hc23 qa12.lt
              replace hbw := Below.on hbw hc23 hbw.size
              clear hc23
              refine EL.val (x_assign rfl) rfl ?_
              refine EL.nil ?_
              refine EX.seq ?_
              refine EC.seq ?_
              refine EC.seq ?_
              refine EC.region ?_
              refine EL.val (x_move rfl) rfl ?_
              refine EL.val (x_eql rfl rfl (by first | assumption | exact decide_eq_true (by omega))) rfl ?_
              refine EL.val (x_move rfl) rfl ?_
              refine EL.valg rfl rfl (x_move rfl) rfl ?_
              refine EL.val (x_pick_t rfl rfl) rfl ?_
              refine EL.nil ?_
              refine EX.seq ?_
              refine EC.no rfl ?_
              refine EC.skip ?_
              refine EX.seq ?_
              refine EC.seq ?_
              refine EC.seq ?_
              refine EC.region ?_
              refine EL.val (x_move rfl) rfl ?_
              refine EL.val (x_eql rfl rfl (by first | assumption | exact decide_eq_true (by omega))) rfl ?_
              refine EL.val (x_move rfl) rfl ?_
              refine EL.valg rfl rfl (x_move rfl) rfl ?_
              refine EL.valg rfl rfl (fa_54_1 rfl) rfl ?_
              refine EL.valg rfl rfl (ld_52 rfl (q1.at (j := 2) rfl)) rfl ?_
              refine EL.valg rfl rfl (ix_52 (k := 0) rfl rfl (by have := hS.many; have := hR.some; omega)) rfl ?_
              refine EL.valg rfl rfl (ld_28 rfl (below_load hbw c0)) rfl ?_
              refine EL.valg rfl rfl (ln_28 rfl) rfl ?_
              refine EL.valg rfl rfl (x_sub rfl rfl (by first | assumption | exact IntWalk.i64_in _ ⟨by omega, by omega⟩)) rfl ?_
              refine EL.callg rfl rfl (cl_35 rfl rfl rfl) rfl (by have key := in_bel t 0 (((sides.getD 0 []).length : Nat) - 1 : Int) w23; rw [hth] at key; exact key) ?_
              rintro e w24 ⟨rfl, hc24⟩
              refine ⟨_, rfl, ?_⟩
              replace q1 := q1.below hc24 q1.lt
              replace q5 := q5.below hc24 q5.lt
              replace qa12 := qa12.below hc24 qa12.lt
              replace hbw := Below.on hbw hc24 hbw.size
              clear hc24
              refine EL.valg rfl rfl (x_not rfl) rfl ?_
              refine EL.val (x_pick_t rfl rfl) rfl ?_
              refine EL.nil ?_
              refine EX.seq ?_
              refine EC.yes rfl ?_
              refine EC.region ?_
              refine EL.val (x_assign rfl) rfl ?_
              refine EL.nil ?_
              refine EX.seq ?_
              refine EC.seq ?_
              refine EC.seq ?_
              refine EC.region ?_
              refine EL.val (x_move rfl) rfl ?_
              refine EL.val (x_neq rfl rfl (by first | assumption | exact decide_eq_true (by omega))) rfl ?_
              refine EL.nil ?_
              refine EX.seq ?_
              refine EC.yes rfl ?_
              refine EC.seq ?_
              refine EC.region ?_
              refine EL.val (x_move rfl) rfl ?_
              refine EL.val (x_move rfl) rfl ?_
              refine EL.val (x_eql rfl rfl (by first | assumption | exact decide_eq_true (by omega))) rfl ?_
              refine EL.val (x_move rfl) rfl ?_
              refine EL.valg rfl rfl (ld_23 rfl (qa12.at (j := 0) rfl) (qa12.at (j := 1) rfl)) rfl ?_
              refine EL.valg rfl rfl (bd_23_) rfl ?_
              refine EL.valg rfl rfl (eql_23 (r := true) rfl rfl (by simp [hdb, bd0])) rfl ?_
              refine EL.val (x_pick_t rfl rfl) rfl ?_
              refine EL.val (x_move rfl) rfl ?_
              refine EL.callg rfl rfl cl_16 rfl (known_any _) ?_
              rintro e w25 ⟨rfl, hc25⟩
              refine ⟨_, rfl, ?_⟩
              replace q1 := q1.below hc25 q1.lt
              replace q5 := q5.below hc25 q5.lt
              replace qa12 := qa12.below hc25 qa12.lt
              replace hbw := Below.on hbw hc25 hbw.size
              clear hc25
              refine EL.val (x_pick_t rfl rfl) rfl ?_
              refine EL.val (x_assign rfl) rfl ?_
              refine EL.nil ?_
              refine EX.seq ?_
              refine EC.ret ?_
              refine EX.seq_ret ?_
              exact EX.done (res1 rfl rfl) ⟨rfl, hbw⟩
            ·
              obtain ⟨hde, hdb⟩ := depr_open (p := p) (t := t) hst
              refine EL.call (cl_38 rfl rfl) rfl (rstart_any rv sides _ _ _ vs ss _ B (hr.below (hbw.mono hB)) (hs.below (hbw.mono hB)) (Nat.le_trans hB hbw.size) (by omega) (by omega) f3 (by omega) f4) ?_
              rintro e w26 ⟨rfl, hc26⟩
              refine ⟨_, rfl, ?_⟩
              replace q1 := q1.below hc26 q1.lt
              replace q5 := q5.below hc26 q5.lt
              replace qa12 := qa12.below hc26 qa12.lt
              replace hbw := Below.on hbw hc26 hbw.size
              clear hc26
              refine EL.val (x_assign rfl) rfl ?_
              refine EL.nil ?_
              refine EX.seq ?_
              refine EC.seq ?_
              refine EC.seq ?_
              refine EC.region ?_
              refine EL.val (x_move rfl) rfl ?_
              refine EL.val (x_eql rfl rfl (by first | assumption | exact decide_eq_false (by omega))) rfl ?_
              refine EL.val (x_move rfl) rfl ?_
              refine EL.skip rfl rfl rfl rfl ?_
              refine EL.val (x_pick_f rfl rfl) rfl ?_
              refine EL.nil ?_
              refine EX.seq ?_
              refine EC.no rfl ?_
              refine EC.skip ?_
              refine EX.seq ?_
              refine EC.seq ?_
              refine EC.seq ?_
              refine EC.region ?_
              refine EL.val (x_move rfl) rfl ?_
              refine EL.val (x_eql rfl rfl (by first | assumption | exact decide_eq_false (by omega))) rfl ?_
              refine EL.val (x_move rfl) rfl ?_
              refine EL.skip rfl rfl rfl rfl ?_
              refine EL.skip rfl rfl rfl rfl ?_
              refine EL.skip rfl rfl rfl rfl ?_
              refine EL.skip rfl rfl rfl rfl ?_
              refine EL.skip rfl rfl rfl rfl ?_
              refine EL.skip rfl rfl rfl rfl ?_
              refine EL.skip rfl rfl rfl rfl ?_
              refine EL.skip rfl rfl rfl rfl ?_
              refine EL.skip rfl rfl rfl rfl ?_
              refine EL.val (x_pick_f rfl rfl) rfl ?_
              refine EL.nil ?_
              refine EX.seq ?_
              refine EC.no rfl ?_
              refine EC.skip ?_
              refine EX.seq ?_
              refine EC.seq ?_
              refine EC.seq ?_
              refine EC.region ?_
              refine EL.val (x_move rfl) rfl ?_
              refine EL.val (x_neq rfl rfl (by first | assumption | exact decide_eq_true (by omega))) rfl ?_
              refine EL.nil ?_
              refine EX.seq ?_
              refine EC.yes rfl ?_
              refine EC.seq ?_
              refine EC.region ?_
              refine EL.val (x_move rfl) rfl ?_
              refine EL.val (x_move rfl) rfl ?_
              refine EL.val (x_eql rfl rfl (by first | assumption | exact decide_eq_true (by omega))) rfl ?_
              refine EL.val (x_move rfl) rfl ?_
              refine EL.valg rfl rfl (ld_23 rfl (qa12.at (j := 0) rfl) (qa12.at (j := 1) rfl)) rfl ?_
              refine EL.valg rfl rfl (bd_23_) rfl ?_
              refine EL.valg rfl rfl (eql_23 (r := true) rfl rfl (by simp [hdb, bd0])) rfl ?_
              refine EL.val (x_pick_t rfl rfl) rfl ?_
              refine EL.val (x_move rfl) rfl ?_
              refine EL.callg rfl rfl cl_16 rfl (known_any _) ?_
              rintro e w27 ⟨rfl, hc27⟩
              refine ⟨_, rfl, ?_⟩
              replace q1 := q1.below hc27 q1.lt
              replace q5 := q5.below hc27 q5.lt
              replace qa12 := qa12.below hc27 qa12.lt
              replace hbw := Below.on hbw hc27 hbw.size
              clear hc27
              refine EL.val (x_pick_t rfl rfl) rfl ?_
              refine EL.val (x_assign rfl) rfl ?_
              refine EL.nil ?_
              refine EX.seq ?_
              refine EC.ret ?_
              refine EX.seq_ret ?_
              exact EX.done (res1 rfl rfl) ⟨rfl, hbw⟩
          ·
            obtain ⟨hbe, hbb⟩ := bed_ok hok hp ht4
            have ht4_ := inB_iff.1 ht4
            refine EL.call (cl_35 rfl rfl rfl) rfl (by have key := in_bel t (-400) 400 w21; rw [ht4] at key; exact key) ?_
            rintro e w28 ⟨rfl, hc28⟩
            refine ⟨_, rfl, ?_⟩
            replace q1 := q1.below hc28 q1.lt
            replace q5 := q5.below hc28 q5.lt
            replace qa12 := qa12.below hc28 qa12.lt
            replace hbw := Below.on hbw hc28 hbw.size
            clear hc28
            refine EL.val (x_not rfl) rfl ?_
            refine EL.val (x_assign rfl) rfl ?_
            refine EL.nil ?_
            refine EX.seq ?_
            refine EC.no rfl ?_
            refine EC.seq ?_
            refine EC.regionQ (by kernel_rfl) (by kernel_rfl) ?_
            refine EQ.val (fun _ hw => (x_move rfl)) rfl ?_
            refine EQ.val (fun _ hw => (x_neq rfl rfl (by first | assumption | exact decide_eq_false (by omega)))) rfl ?_
            refine EQ.val (fun _ hw => (x_move rfl)) rfl ?_
            refine EQ.valg rfl rfl (fun _ hw => (ld_23 rfl (below_load hw (q5.at (j := 0) rfl)) (below_load hw (q5.at (j := 1) rfl)))) rfl ?_
            refine EQ.valg rfl rfl (fun _ hw => (fa_54_0 rfl)) rfl ?_
            refine EQ.valg rfl rfl (fun _ hw => (ld_47 rfl (below_load hw (q1.at (j := 0) rfl)) (below_load hw (q1.at (j := 1) rfl)))) rfl ?_
            refine EQ.valg rfl rfl (fun _ hw => (x_move rfl)) rfl ?_
            refine EQ.valg rfl rfl (fun _ hw => (x_move rfl)) rfl ?_
            refine EQ.callg rfl rfl (fun _ _ _ ha => cl_37 rfl rfl rfl _ ha) rfl (fun W hw => (rbed_any rv _ _ vs p t W B (hr.below ((hbw.trans (hw.mono hbw.size)).mono hB)) (Nat.le_trans hB (Nat.le_trans hbw.size hw.size)) hR (by omega) (by omega) (by omega) (by omega)).mono fun e w' h => ⟨h.1, hw.trans (h.2.mono hw.size)⟩) ?_
            refine EQ.valg rfl rfl (fun _ hw => (neq_23 (r := false) rfl rfl (by simp [hbb, bd0]))) rfl ?_
            refine EQ.val (fun _ hw => (x_pick_f rfl rfl)) rfl ?_
            refine EQ.val (fun _ hw => (x_assign rfl)) rfl ?_
            refine EQ.fin (fun w_ hw_ => ?_)
            replace q1 := q1.below hw_ q1.lt
            replace q5 := q5.below hw_ q5.lt
            replace qa12 := qa12.below hw_ qa12.lt
            replace hbw := Below.on hbw hw_ hbw.size
            clear hw_
            refine EX.seq ?_
            refine EC.no rfl ?_
            refine EC.skip ?_
            refine EX.blk ?_
            refine EX.seq ?_
            refine EC.seq ?_
            refine EC.region ?_
            refine EL.val (fa_54_0 rfl) rfl ?_
            refine EL.val (ld_47 rfl (q1.at (j := 0) rfl) (q1.at (j := 1) rfl)) rfl ?_
            refine EL.val (fa_54_1 rfl) rfl ?_
            refine EL.val (ld_52 rfl (q1.at (j := 2) rfl)) rfl ?_
            by_cases hst : startErr rv sides = 0
            ·
              obtain ⟨_, hS⟩ := startErr_ok hst
              have hhr := hS.hours
              obtain ⟨bS, oS, rfl, _, c0⟩ := sides_cell hs 0 (by have := hS.many; have := hR.some; omega)
              have hs0 := hs.side 0 (by have := hS.many; have := hR.some; omega)
              obtain ⟨As, cs, es, _⟩ := hs0.shape
              rw [es] at c0
              refine EL.call (cl_38 rfl rfl) rfl (rstart_any rv sides _ _ _ vs ss _ B (hr.below (hbw.mono hB)) (hs.below (hbw.mono hB)) (Nat.le_trans hB hbw.size) (by omega) (by omega) f3 (by omega) f4) ?_
              rintro e w29 ⟨rfl, hc29⟩
              refine ⟨_, rfl, ?_⟩
              replace q1 := q1.below hc29 q1.lt
              replace q5 := q5.below hc29 q5.lt
              replace qa12 := qa12.below hc29 qa12.lt
              replace hbw := Below.on hbw hc29 hbw.size
              clear hc29
              refine EL.val (x_assign rfl) rfl ?_
              refine EL.nil ?_
              refine EX.seq ?_
              refine EC.seq ?_
              refine EC.seq ?_
              refine EC.region ?_
              refine EL.val (x_move rfl) rfl ?_
              refine EL.val (x_eql rfl rfl (by first | assumption | exact decide_eq_true (by omega))) rfl ?_
              refine EL.val (x_move rfl) rfl ?_
              refine EL.valg rfl rfl (x_move rfl) rfl ?_
              refine EL.val (x_pick_t rfl rfl) rfl ?_
              refine EL.nil ?_
              refine EX.seq ?_
              refine EC.no rfl ?_
              refine EC.skip ?_
              refine EX.seq ?_
              refine EC.seq ?_
              refine EC.seq ?_
              refine EC.region ?_
              refine EL.val (x_move rfl) rfl ?_
              refine EL.val (x_eql rfl rfl (by first | assumption | exact decide_eq_true (by omega))) rfl ?_
              refine EL.val (x_move rfl) rfl ?_
              refine EL.valg rfl rfl (x_move rfl) rfl ?_
              refine EL.valg rfl rfl (fa_54_1 rfl) rfl ?_
              refine EL.valg rfl rfl (ld_52 rfl (q1.at (j := 2) rfl)) rfl ?_
              refine EL.valg rfl rfl (ix_52 (k := 0) rfl rfl (by have := hS.many; have := hR.some; omega)) rfl ?_
              refine EL.valg rfl rfl (ld_28 rfl (below_load hbw c0)) rfl ?_
              refine EL.valg rfl rfl (ln_28 rfl) rfl ?_
              refine EL.valg rfl rfl (x_sub rfl rfl (by first | assumption | exact IntWalk.i64_in _ ⟨by omega, by omega⟩)) rfl ?_
              cases hth : inB 0 (((sides.getD 0 []).length : Nat) - 1 : Int) t
              ·
                obtain ⟨hde, hdb⟩ := depr_range hst hp hth
                refine EL.callg rfl rfl (cl_35 rfl rfl rfl) rfl (by have key := in_bel t 0 (((sides.getD 0 []).length : Nat) - 1 : Int) w29; rw [hth] at key; exact key) ?_
                rintro e w30 ⟨rfl, hc30⟩
                refine ⟨_, rfl, ?_⟩
                replace q1 := q1.below hc30 q1.lt
                replace q5 := q5.below hc30 q5.lt
                replace qa12 := qa12.below hc30 qa12.lt
                replace hbw := Below.on hbw hc30 hbw.size
                clear hc30
                refine EL.valg rfl rfl (x_not rfl) rfl ?_
                refine EL.val (x_pick_t rfl rfl) rfl ?_
                refine EL.nil ?_
                refine EX.seq ?_
                refine EC.yes rfl ?_
                refine EC.region ?_
                refine EL.val (x_assign rfl) rfl ?_
                refine EL.nil ?_
                refine EX.seq ?_
                refine EC.seq ?_
                refine EC.seq ?_
                refine EC.region ?_
                refine EL.val (x_move rfl) rfl ?_
                refine EL.val (x_neq rfl rfl (by first | assumption | exact decide_eq_true (by omega))) rfl ?_
                refine EL.nil ?_
                refine EX.seq ?_
                refine EC.yes rfl ?_
                refine EC.seq ?_
                refine EC.region ?_
                refine EL.val (x_move rfl) rfl ?_
                refine EL.val (x_move rfl) rfl ?_
                refine EL.val (x_eql rfl rfl (by first | assumption | exact decide_eq_true (by omega))) rfl ?_
                refine EL.val (x_move rfl) rfl ?_
                refine EL.valg rfl rfl (ld_23 rfl (qa12.at (j := 0) rfl) (qa12.at (j := 1) rfl)) rfl ?_
                refine EL.valg rfl rfl (bd_23_) rfl ?_
                refine EL.valg rfl rfl (eql_23 (r := true) rfl rfl (by simp [hdb, bd0])) rfl ?_
                refine EL.val (x_pick_t rfl rfl) rfl ?_
                refine EL.val (x_move rfl) rfl ?_
                refine EL.callg rfl rfl cl_16 rfl (known_any _) ?_
                rintro e w31 ⟨rfl, hc31⟩
                refine ⟨_, rfl, ?_⟩
                replace q1 := q1.below hc31 q1.lt
                replace q5 := q5.below hc31 q5.lt
                replace qa12 := qa12.below hc31 qa12.lt
                replace hbw := Below.on hbw hc31 hbw.size
                clear hc31
                refine EL.val (x_pick_t rfl rfl) rfl ?_
                refine EL.val (x_assign rfl) rfl ?_
                refine EL.nil ?_
                refine EX.seq ?_
                refine EC.ret ?_
                refine EX.seq_ret ?_
                exact EX.done (res1 rfl rfl) ⟨rfl, hbw⟩
              ·
                obtain ⟨hde, hdb⟩ := depr_ok hst hp hth
                have hth_ := inB_iff.1 hth
                refine EL.callg rfl rfl (cl_35 rfl rfl rfl) rfl (by have key := in_bel t 0 (((sides.getD 0 []).length : Nat) - 1 : Int) w29; rw [hth] at key; exact key) ?_
                rintro e w32 ⟨rfl, hc32⟩
                refine ⟨_, rfl, ?_⟩
                replace q1 := q1.below hc32 q1.lt
                replace q5 := q5.below hc32 q5.lt
                replace qa12 := qa12.below hc32 qa12.lt
                replace hbw := Below.on hbw hc32 hbw.size
                clear hc32
                refine EL.valg rfl rfl (x_not rfl) rfl ?_
                refine EL.val (x_pick_t rfl rfl) rfl ?_
                refine EL.nil ?_
                refine EX.seq ?_
                refine EC.no rfl ?_
                refine EC.skip ?_
                refine EX.seq ?_
                refine EC.seq ?_
                refine EC.seq ?_
                refine EC.region ?_
                refine EL.val (x_move rfl) rfl ?_
                refine EL.val (x_neq rfl rfl (by first | assumption | exact decide_eq_false (by omega))) rfl ?_
                refine EL.nil ?_
                refine EX.seq ?_
                refine EC.no rfl ?_
                refine EC.skip ?_
                refine EX.seq ?_
                refine EC.seq ?_
                refine EC.regionQ (by kernel_rfl) (by kernel_rfl) ?_
                refine EQ.val (fun _ hw => (x_move rfl)) rfl ?_
                refine EQ.val (fun _ hw => (x_eql rfl rfl (by first | assumption | exact decide_eq_true (by omega)))) rfl ?_
                refine EQ.val (fun _ hw => (x_move rfl)) rfl ?_
                refine EQ.valg rfl rfl (fun _ hw => (ld_23 rfl (below_load hw (qa12.at (j := 0) rfl)) (below_load hw (qa12.at (j := 1) rfl)))) rfl ?_
                refine EQ.valg rfl rfl (fun _ hw => (fa_54_0 rfl)) rfl ?_
                refine EQ.valg rfl rfl (fun _ hw => (ld_47 rfl (below_load hw (q1.at (j := 0) rfl)) (below_load hw (q1.at (j := 1) rfl)))) rfl ?_
                refine EQ.valg rfl rfl (fun _ hw => (fa_54_1 rfl)) rfl ?_
                refine EQ.valg rfl rfl (fun _ hw => (ld_52 rfl (below_load hw (q1.at (j := 2) rfl)))) rfl ?_
                refine EQ.valg rfl rfl (fun _ hw => (x_move rfl)) rfl ?_
                refine EQ.valg rfl rfl (fun _ hw => (x_move rfl)) rfl ?_
                refine EQ.callg rfl rfl (fun _ _ _ ha => cl_39 rfl rfl rfl rfl _ ha) rfl (fun W hw => (rdepth_any rv sides _ _ _ vs ss p t W B (hr.below ((hbw.trans (hw.mono hbw.size)).mono hB)) (hs.below ((hbw.trans (hw.mono hbw.size)).mono hB)) (Nat.le_trans hB (Nat.le_trans hbw.size hw.size)) hS (by omega) (by omega) (by omega) (by omega)).mono fun e w' h => ⟨h.1, hw.trans (h.2.mono hw.size)⟩) ?_
                refine EQ.valg rfl rfl (fun _ hw => (eql_23 (r := true) rfl rfl (by simp [hdb, bd0]))) rfl ?_
                refine EQ.val (fun _ hw => (x_pick_t rfl rfl)) rfl ?_
                refine EQ.val (fun _ hw => (x_move rfl)) rfl ?_
                refine EQ.callg rfl rfl (fun _ _ _ ha => cl_16 _ ha) rfl (fun W hw => (known_any W).mono fun e w' h => ⟨h.1, hw.trans (h.2.mono hw.size)⟩) ?_
                refine EQ.val (fun _ hw => (x_pick_t rfl rfl)) rfl ?_
                refine EQ.val (fun _ hw => (x_assign rfl)) rfl ?_
                refine EQ.fin (fun w_ hw_ => ?_)
                replace q1 := q1.below hw_ q1.lt
                replace q5 := q5.below hw_ q5.lt
                replace qa12 := qa12.below hw_ qa12.lt
                replace hbw := Below.on hbw hw_ hbw.size
                clear hw_
                refine EX.seq ?_
                refine EC.ret ?_
                exact EX.done (res1 rfl rfl) ⟨rfl, hbw⟩
            ·
              obtain ⟨hde, hdb⟩ := depr_open (p := p) (t := t) hst
              refine EL.call (cl_38 rfl rfl) rfl (rstart_any rv sides _ _ _ vs ss _ B (hr.below (hbw.mono hB)) (hs.below (hbw.mono hB)) (Nat.le_trans hB hbw.size) (by omega) (by omega) f3 (by omega) f4) ?_
              rintro e w33 ⟨rfl, hc33⟩
              refine ⟨_, rfl, ?_⟩
              replace q1 := q1.below hc33 q1.lt
              replace q5 := q5.below hc33 q5.lt
              replace qa12 := qa12.below hc33 qa12.lt
              replace hbw := Below.on hbw hc33 hbw.size
              clear hc33
              refine EL.val (x_assign rfl) rfl ?_
              refine EL.nil ?_
              refine EX.seq ?_
              refine EC.seq ?_
              refine EC.seq ?_
              refine EC.region ?_
              refine EL.val (x_move rfl) rfl ?_
              refine EL.val (x_eql rfl rfl (by first | assumption | exact decide_eq_false (by omega))) rfl ?_
              refine EL.val (x_move rfl) rfl ?_
              refine EL.skip rfl rfl rfl rfl ?_
              refine EL.val (x_pick_f rfl rfl) rfl ?_
              refine EL.nil ?_
              refine EX.seq ?_
              refine EC.no rfl ?_
              refine EC.skip ?_
              refine EX.seq ?_
              refine EC.seq ?_
              refine EC.seq ?_
              refine EC.region ?_
              refine EL.val (x_move rfl) rfl ?_
              refine EL.val (x_eql rfl rfl (by first | assumption | exact decide_eq_false (by omega))) rfl ?_
              refine EL.val (x_move rfl) rfl ?_
              refine EL.skip rfl rfl rfl rfl ?_
              refine EL.skip rfl rfl rfl rfl ?_
              refine EL.skip rfl rfl rfl rfl ?_
              refine EL.skip rfl rfl rfl rfl ?_
              refine EL.skip rfl rfl rfl rfl ?_
              refine EL.skip rfl rfl rfl rfl ?_
              refine EL.skip rfl rfl rfl rfl ?_
              refine EL.skip rfl rfl rfl rfl ?_
              refine EL.skip rfl rfl rfl rfl ?_
              refine EL.val (x_pick_f rfl rfl) rfl ?_
              refine EL.nil ?_
              refine EX.seq ?_
              refine EC.no rfl ?_
              refine EC.skip ?_
              refine EX.seq ?_
              refine EC.seq ?_
              refine EC.seq ?_
              refine EC.region ?_
              refine EL.val (x_move rfl) rfl ?_
              refine EL.val (x_neq rfl rfl (by first | assumption | exact decide_eq_true (by omega))) rfl ?_
              refine EL.nil ?_
              refine EX.seq ?_
              refine EC.yes rfl ?_
              refine EC.seq ?_
              refine EC.region ?_
              refine EL.val (x_move rfl) rfl ?_
              refine EL.val (x_move rfl) rfl ?_
              refine EL.val (x_eql rfl rfl (by first | assumption | exact decide_eq_true (by omega))) rfl ?_
              refine EL.val (x_move rfl) rfl ?_
              refine EL.valg rfl rfl (ld_23 rfl (qa12.at (j := 0) rfl) (qa12.at (j := 1) rfl)) rfl ?_
              refine EL.valg rfl rfl (bd_23_) rfl ?_
              refine EL.valg rfl rfl (eql_23 (r := true) rfl rfl (by simp [hdb, bd0])) rfl ?_
              refine EL.val (x_pick_t rfl rfl) rfl ?_
              refine EL.val (x_move rfl) rfl ?_
              refine EL.callg rfl rfl cl_16 rfl (known_any _) ?_
              rintro e w34 ⟨rfl, hc34⟩
              refine ⟨_, rfl, ?_⟩
              replace q1 := q1.below hc34 q1.lt
              replace q5 := q5.below hc34 q5.lt
              replace qa12 := qa12.below hc34 qa12.lt
              replace hbw := Below.on hbw hc34 hbw.size
              clear hc34
              refine EL.val (x_pick_t rfl rfl) rfl ?_
              refine EL.val (x_assign rfl) rfl ?_
              refine EL.nil ?_
              refine EX.seq ?_
              refine EC.ret ?_
              refine EX.seq_ret ?_
              exact EX.done (res1 rfl rfl) ⟨rfl, hbw⟩
end Go.Proofs.Ytncnlhkmdljgpaa
