/- River: the law RiverVolumes, its walk (printed by gen_w18.py). -/
import Derived.Test.YtncnlhkmdljgpaaW17
import Derived.Test.YtncnlhkmdljgpaaW11
import Derived.Test.YtncnlhkmdljgpaaW12
import Derived.Test.YtncnlhkmdljgpaaExR18
set_option linter.unusedVariables false
set_option linter.unusedSimpArgs false
namespace Go.Proofs.Ytncnlhkmdljgpaa
open Go Go.RowKit

theorem in_eq {n lo hi : Int} {r : Bool} (h : inB lo hi n = r) (w : World) : Calls Try.prog 35 #[.int .i64 n, .int .i64 lo, .int .i64 hi] w fun e w' => e = .returned (.bool r) ∧ Below w.heap.size w w' := by
  subst h
  exact in_bel n lo hi w

set_option maxRecDepth 100000 in
theorem volumes_law (rv : River) (sides : List (List Bd)) (v u s : Value) (vs ss : List Value) (ri ra rb : Int) (w : World) (B : Nat) (hr : RdRiver w B v u rv vs) (hs : RdSides w B s sides ss) (hB : B ≤ w.heap.size) :
    Calls Try.prog 9 #[.agg #[v, u, s], .agg #[.int .i64 ri, .int .i64 ra, .int .i64 rb]] w fun e w' => e = .returned (.bool true) ∧ Below w.heap.size w w' := by
  obtain ⟨A, c, rfl, _⟩ := hr.reaches.shape
  obtain ⟨A', c', rfl, _⟩ := hr.shoals.shape
  obtain ⟨D, d, rfl, _⟩ := hs.rd.shape
  have hbw := Below.refl w.heap.size w
  refine EC.enter 118 Try.func9 rfl rfl rfl ?_
  refine EC.seq ?_
  refine EC.region ?_
  refine EL.newP (bx_54 rfl) rfl ?_
  intro g1 w1 q1 hb1 hg1 hl1
  have bhbw_1 := Nat.le_trans hbw.size hg1
  replace hbw := Below.on hbw hb1 hbw.size
  clear hb1 hg1 hl1
  refine EL.newP (bx_80 rfl) rfl ?_
  intro g2 w2 q2 hb2 hg2 hl2
  have n1_2 : g1 ≠ g2 := Nat.ne_of_lt (Nat.lt_of_lt_of_le q1.lt hg2)
  have bhbw_2 := Nat.le_trans hbw.size hg2
  replace q1 := q1.below hb2 q1.lt
  replace hbw := Below.on hbw hb2 hbw.size
  clear hb2 hg2 hl2
  refine EL.val (x_assign rfl) rfl ?_
  refine EL.nil ?_
  refine EX.seq ?_
  refine EC.seq ?_
  refine EC.seq ?_
  refine EC.region ?_
  refine EL.val (ld_54 rfl (q1.at (j := 0) rfl) (q1.at (j := 1) rfl) (q1.at (j := 2) rfl)) rfl ?_
  refine EL.call (cl_23 rfl) rfl (large_any rv sides _ _ _ vs ss _ _ (hr.below (hbw.mono hB)) (hs.below (hbw.mono hB)) (Nat.le_trans hB hbw.size)) ?_
  rintro e w_l ⟨rfl | ⟨rfl, hfine⟩, hc_⟩
  ·
    refine ⟨_, rfl, ?_⟩
    replace q1 := q1.below hc_ q1.lt
    replace q2 := q2.below hc_ q2.lt
    replace hbw := Below.on hbw hc_ hbw.size
    clear hc_
    refine EL.nil ?_
    refine EX.seq ?_
    refine EC.yes rfl ?_
    refine EC.seq ?_
    refine EC.region ?_
    refine EL.call cl_16 rfl (known_any _) ?_
    rintro e w3 ⟨rfl, hc3⟩
    refine ⟨_, rfl, ?_⟩
    replace q1 := q1.below hc3 q1.lt
    replace q2 := q2.below hc3 q2.lt
    replace hbw := Below.on hbw hc3 hbw.size
    clear hc3
    refine EL.val (x_assign rfl) rfl ?_
    refine EL.nil ?_
    refine EX.seq ?_
    refine EC.ret ?_
    refine EX.seq_ret ?_
    exact EX.done (res1 rfl rfl) ⟨rfl, hbw⟩
  ·
    have f1 := hfine.nreaches
    have f2 := hfine.nshoals
    have f3 := hfine.curves
    have f4 := hfine.sidesB
    have f5 := hfine.nsides
    refine ⟨_, rfl, ?_⟩
    replace q1 := q1.below hc_ q1.lt
    replace q2 := q2.below hc_ q2.lt
    replace hbw := Below.on hbw hc_ hbw.size
    clear hc_
    refine EL.nil ?_
    refine EX.seq ?_
    refine EC.no rfl ?_
    refine EC.skip ?_
    refine EX.seq ?_
    refine EC.seq ?_
    have lt_1 := q1.lt
    have lt_2 := q2.lt
    refine EC.regionS [[], [0], [0, 1], [], [3], [0, 1, 2, 3, 4], [], [6], [], [8], [], [10], [0, 1, 2, 3, 4, 5, 6, 7, 8, 9, 10, 11], [0, 1, 2, 3, 4, 5, 6, 7, 8, 9, 10, 11, 12], [0, 1, 2, 3, 4, 5, 6, 7, 8, 9, 10, 11, 12, 13], [0, 1, 2, 3, 4, 5, 6, 7, 8, 9, 10, 11, 12, 13], [], [0, 1, 2, 3, 4, 5, 6, 7, 8, 9, 10, 11, 12, 13, 14, 16], [0, 1, 2, 3, 4, 5, 6, 7, 8, 9, 10, 11, 12, 13, 14, 15, 16, 17]] 18 [16] [17] (fun _ w_ => Below w_l.heap.size w_l w_) (phiS (fun i_ r => match i_ with | 0 => r 0 = .pointer (some ⟨g1, 0, none⟩) | 1 => r 1 = .agg #[.slice A rv.reaches.length c, .slice A' rv.shoals.length c'] | 3 => r 3 = .pointer (some ⟨g1, 2, none⟩) | 4 => r 4 = .slice D sides.length d | 6 => r 6 = .pointer (some ⟨g2, 0, none⟩) | 7 => r 7 = .int .i64 ri | 8 => r 8 = .pointer (some ⟨g2, 1, none⟩) | 9 => r 9 = .int .i64 ra | 10 => r 10 = .pointer (some ⟨g2, 2, none⟩) | 11 => r 11 = .int .i64 rb | 12 => r 12 = .tuple #[.agg #[.int .i64 (volRes rv sides ri ra rb).lo, .int .i64 (volRes rv sides ri ra rb).hi], .int .i64 (volErr rv sides ri ra rb)] | 13 => r 13 = .tuple #[.agg #[.int .i64 (volRes rv sides ri ra rb).lo, .int .i64 (volRes rv sides ri ra rb).hi], .int .i64 (volErr rv sides ri ra rb)] | 14 => r 14 = .agg #[.int .i64 (volRes rv sides ri ra rb).lo, .int .i64 (volRes rv sides ri ra rb).hi] | 15 => r 15 = .int .i64 (volErr rv sides ri ra rb) | _ => True) [(2, fun fl r w_ => fl 17 = false → (∃ a b vs, r 2 = .agg #[a, b] ∧ RdRiver w_ w_.heap.size a b rv vs)), (5, fun fl r w_ => fl 17 = false → (∃ v ss, r 5 = v ∧ RdSides w_ w_.heap.size v sides ss)), (16, fun fl r w_ => ∃ g_, r 16 = .pointer (some ⟨g_, 0, none⟩) ∧ w_l.heap.size ≤ g_ ∧ (fl 17 = false → Blk w_ g_ 23 #[.int .i64 0, .int .i64 0])), (17, fun _ r w_ => ∃ g_, r 16 = .pointer (some ⟨g_, 0, none⟩) ∧ Blk w_ g_ 23 #[.int .i64 (volRes rv sides ri ra rb).lo, .int .i64 (volRes rv sides ri ra rb).hi])]) (by kernel_rfl) rfl rfl (by intro i hi; simp at hi; first | (subst hi; exact ⟨by simp, by omega⟩) | (rcases hi with rfl | rfl | rfl <;> exact ⟨by simp, by omega⟩) | (rcases hi with rfl | rfl <;> exact ⟨by simp, by omega⟩)) (base_below w_l) (phiS_cons (monoS_till mono_riv) (phiS_cons (monoS_till mono_sid) (phiS_cons monoS_alloc (phiS_cons monoS_store (phiS_nil))))) (fun i_ hi_ hs_ => ?_) (fun i_ hi_ => ?_) ?_
    · match i_, hi_ with
      | 0, _ =>
        intro val fl w1 a hb ha hd hfl
        have ha := ha.sub (Sub.ins (d := 2) (Sub.nil _) rfl)
        exact ss_val ha rfl rfl (fa_54_0 rfl) rfl rfl
      | 1, _ =>
        intro val fl w1 a hb ha hd hfl
        have e0 : val 0 = .pointer (some ⟨g1, 0, none⟩) := hd 0 (memB_mem.1 rfl)
        have ha := ha.sub (Sub.ins (d := 15) (Sub.nil _) (dep_get rfl e0))
        exact ss_val ha rfl rfl (ld_47 rfl ((q1.below hb q1.lt).at (j := 0) rfl) ((q1.below hb q1.lt).at (j := 1) rfl)) rfl rfl
      | 2, _ =>
        intro val fl w1 a hb ha hd hfl
        have e1 : val 1 = .agg #[.slice A rv.reaches.length c, .slice A' rv.shoals.length c'] := hd 1 (memB_mem.1 rfl)
        have ha := ha.sub (Sub.ins (d := 16) (Sub.nil _) (dep_get rfl e1))
        refine ss_call ha rfl rfl (cl_24 rfl) (copied_any rv _ _ vs _ B (hr.below ((Below.on hbw hb hbw.size).mono hB)) (Nat.le_trans hB (Below.on hbw hb hbw.size).size) (by omega) (by omega) f3) rfl ?_
        rintro e w' ⟨⟨v1, u1, vs1, rfl, hcp⟩, hb'⟩
        exact ⟨_, rfl, hb', fun _ => ⟨_, _, _, rfl, hcp⟩⟩
      | 3, _ =>
        intro val fl w1 a hb ha hd hfl
        have ha := ha.sub (Sub.ins (d := 2) (Sub.nil _) rfl)
        exact ss_val ha rfl rfl (fa_54_1 rfl) rfl rfl
      | 4, _ =>
        intro val fl w1 a hb ha hd hfl
        have e3 : val 3 = .pointer (some ⟨g1, 2, none⟩) := hd 3 (memB_mem.1 rfl)
        have ha := ha.sub (Sub.ins (d := 18) (Sub.nil _) (dep_get rfl e3))
        exact ss_val ha rfl rfl (ld_52 rfl ((q1.below hb q1.lt).at (j := 2) rfl)) rfl rfl
      | 5, _ =>
        intro val fl w1 a hb ha hd hfl
        have e4 : val 4 = .slice D sides.length d := hd 4 (memB_mem.1 rfl)
        have ha := ha.sub (Sub.ins (d := 19) (Sub.nil _) (dep_get rfl e4))
        refine ss_call ha rfl rfl (cl_34 rfl) (forecast_any sides _ ss _ B (hs.below ((Below.on hbw hb hbw.size).mono hB)) (Nat.le_trans hB (Below.on hbw hb hbw.size).size) (by omega) f4) rfl ?_
        rintro e w' ⟨⟨v1, ss1, rfl, hcp⟩, hb'⟩
        exact ⟨_, rfl, hb', fun _ => ⟨_, _, rfl, hcp⟩⟩
      | 6, _ =>
        intro val fl w1 a hb ha hd hfl
        have ha := ha.sub (Sub.ins (d := 3) (Sub.nil _) rfl)
        exact ss_val ha rfl rfl (ixa_80 (k := 0) rfl rfl (by omega)) rfl rfl
      | 7, _ =>
        intro val fl w1 a hb ha hd hfl
        have e6 : val 6 = .pointer (some ⟨g2, 0, none⟩) := hd 6 (memB_mem.1 rfl)
        have ha := ha.sub (Sub.ins (d := 21) (Sub.nil _) (dep_get rfl e6))
        exact ss_val ha rfl rfl (ld_3 rfl ((q2.below hb q2.lt).at (j := 0) rfl)) rfl rfl
      | 8, _ =>
        intro val fl w1 a hb ha hd hfl
        have ha := ha.sub (Sub.ins (d := 3) (Sub.nil _) rfl)
        exact ss_val ha rfl rfl (ixa_80 (k := 1) rfl rfl (by omega)) rfl rfl
      | 9, _ =>
        intro val fl w1 a hb ha hd hfl
        have e8 : val 8 = .pointer (some ⟨g2, 1, none⟩) := hd 8 (memB_mem.1 rfl)
        have ha := ha.sub (Sub.ins (d := 23) (Sub.nil _) (dep_get rfl e8))
        exact ss_val ha rfl rfl (ld_3 rfl ((q2.below hb q2.lt).at (j := 1) rfl)) rfl rfl
      | 10, _ =>
        intro val fl w1 a hb ha hd hfl
        have ha := ha.sub (Sub.ins (d := 3) (Sub.nil _) rfl)
        exact ss_val ha rfl rfl (ixa_80 (k := 2) rfl rfl (by omega)) rfl rfl
      | 11, _ =>
        intro val fl w1 a hb ha hd hfl
        have e10 : val 10 = .pointer (some ⟨g2, 2, none⟩) := hd 10 (memB_mem.1 rfl)
        have ha := ha.sub (Sub.ins (d := 25) (Sub.nil _) (dep_get rfl e10))
        exact ss_val ha rfl rfl (ld_3 rfl ((q2.below hb q2.lt).at (j := 2) rfl)) rfl rfl
      | 12, _ =>
        intro val fl w1 a hb ha hd hfl
        obtain ⟨a2_, b2_, vs2_, e2, q2_⟩ := hd 2 (memB_mem.1 rfl) (hfl 17 (by simp) (memB_mem.1 rfl))
        obtain ⟨v5_, ss5_, e5, q5_⟩ := hd 5 (memB_mem.1 rfl) (hfl 17 (by simp) (memB_mem.1 rfl))
        have e7 : val 7 = .int .i64 ri := hd 7 (memB_mem.1 rfl)
        have e9 : val 9 = .int .i64 ra := hd 9 (memB_mem.1 rfl)
        have e11 : val 11 = .int .i64 rb := hd 11 (memB_mem.1 rfl)
        have ha := ha.sub (Sub.ins (d := 26) (Sub.ins (d := 24) (Sub.ins (d := 22) (Sub.ins (d := 20) (Sub.ins (d := 17) (Sub.nil _) (dep_get rfl e2)) (dep_get rfl e5)) (dep_get rfl e7)) (dep_get rfl e9)) (dep_get rfl e11))
        refine ss_call ha rfl rfl (cl_46 rfl rfl rfl rfl rfl) (vol_any rv sides _ _ _ _ _ ri ra rb _ w1.heap.size q2_ q5_ (Nat.le_refl _) (by omega) (by omega) f3 (by omega) f4) rfl ?_
        rintro e w' ⟨rfl, hb'⟩
        exact ⟨_, rfl, hb', rfl⟩
      | 13, _ =>
        intro val fl w1 a hb ha hd hfl
        have e12 : val 12 = .tuple #[.agg #[.int .i64 (volRes rv sides ri ra rb).lo, .int .i64 (volRes rv sides ri ra rb).hi], .int .i64 (volErr rv sides ri ra rb)] := hd 12 (memB_mem.1 rfl)
        have ha := ha.sub (Sub.ins (d := 27) (Sub.nil _) (dep_get rfl e12))
        exact ss_val ha rfl rfl (x_move rfl) rfl rfl
      | 14, _ =>
        intro val fl w1 a hb ha hd hfl
        have e13 : val 13 = .tuple #[.agg #[.int .i64 (volRes rv sides ri ra rb).lo, .int .i64 (volRes rv sides ri ra rb).hi], .int .i64 (volErr rv sides ri ra rb)] := hd 13 (memB_mem.1 rfl)
        have ha := ha.sub (Sub.ins (d := 14) (Sub.nil _) (dep_get rfl e13))
        exact ss_val ha rfl rfl (x_extract rfl rfl) rfl rfl
      | 15, _ =>
        intro val fl w1 a hb ha hd hfl
        have e13 : val 13 = .tuple #[.agg #[.int .i64 (volRes rv sides ri ra rb).lo, .int .i64 (volRes rv sides ri ra rb).hi], .int .i64 (volErr rv sides ri ra rb)] := hd 13 (memB_mem.1 rfl)
        have ha := ha.sub (Sub.ins (d := 14) (Sub.nil _) (dep_get rfl e13))
        exact ss_val ha rfl rfl (x_extract rfl rfl) rfl rfl
      | 16, _ =>
        intro val fl w1 a hb ha hd hfl
        have ha := ha.sub (Sub.nil _)
        exact ss_newP ha rfl rfl al_23 (fun g w' hq _ hge => ⟨g, rfl, Nat.le_trans hb.size hge, fun _ => hq⟩)
      | 17, _ =>
        exact absurd (by simp) hs_
      | k + 18, h => exact absurd h (by omega)
    · simp only [List.mem_singleton] at hi_; subst hi_
      intro val fl w1 a hb hfi ha hd hfl
      obtain ⟨g16_, e16, hg16_, q16_⟩ := hd 16 (memB_mem.1 rfl)
      change val 16 = _ at e16
      have e14 : val 14 = .agg #[.int .i64 (volRes rv sides ri ra rb).lo, .int .i64 (volRes rv sides ri ra rb).hi] := hd 14 (memB_mem.1 rfl)
      have ha := ha.sub (Sub.ins (d := 28) (Sub.ins (d := 5) (Sub.nil _) (dep_get rfl e16)) (dep_get rfl e14))
      refine ts_store ha rfl rfl rfl (q16_ hfi) sz_23 rfl rfl rfl rfl ?_
      intro w' hq hgr
      refine ⟨undef, rfl, hgr.size, below_store hb hgr hg16_, ⟨g16_, e16, hq⟩, fun j _ hj hn hA => ?_⟩
      exact phiS_cons_st (C := fun j => j ≠ 17 ∧ 17 ∉ clsAt [[], [0], [0, 1], [], [3], [0, 1, 2, 3, 4], [], [6], [], [8], [], [10], [0, 1, 2, 3, 4, 5, 6, 7, 8, 9, 10, 11], [0, 1, 2, 3, 4, 5, 6, 7, 8, 9, 10, 11, 12], [0, 1, 2, 3, 4, 5, 6, 7, 8, 9, 10, 11, 12, 13], [0, 1, 2, 3, 4, 5, 6, 7, 8, 9, 10, 11, 12, 13], [], [0, 1, 2, 3, 4, 5, 6, 7, 8, 9, 10, 11, 12, 13, 14, 16], [0, 1, 2, 3, 4, 5, 6, 7, 8, 9, 10, 11, 12, 13, 14, 15, 16, 17]] j ∧ ∀ p ∈ [16], (p = j ∨ p ∈ clsAt [[], [0], [0, 1], [], [3], [0, 1, 2, 3, 4], [], [6], [], [8], [], [10], [0, 1, 2, 3, 4, 5, 6, 7, 8, 9, 10, 11], [0, 1, 2, 3, 4, 5, 6, 7, 8, 9, 10, 11, 12], [0, 1, 2, 3, 4, 5, 6, 7, 8, 9, 10, 11, 12, 13], [0, 1, 2, 3, 4, 5, 6, 7, 8, 9, 10, 11, 12, 13], [], [0, 1, 2, 3, 4, 5, 6, 7, 8, 9, 10, 11, 12, 13, 14, 16], [0, 1, 2, 3, 4, 5, 6, 7, 8, 9, 10, 11, 12, 13, 14, 15, 16, 17]] j) → ∀ q ∈ [16], (q = 17 ∨ q ∈ clsAt [[], [0], [0, 1], [], [3], [0, 1, 2, 3, 4], [], [6], [], [8], [], [10], [0, 1, 2, 3, 4, 5, 6, 7, 8, 9, 10, 11], [0, 1, 2, 3, 4, 5, 6, 7, 8, 9, 10, 11, 12], [0, 1, 2, 3, 4, 5, 6, 7, 8, 9, 10, 11, 12, 13], [0, 1, 2, 3, 4, 5, 6, 7, 8, 9, 10, 11, 12, 13], [], [0, 1, 2, 3, 4, 5, 6, 7, 8, 9, 10, 11, 12, 13, 14, 16], [0, 1, 2, 3, 4, 5, 6, 7, 8, 9, 10, 11, 12, 13, 14, 15, 16, 17]] 17) → p ≠ q → val p ≠ val q) (fun _ _ h => by rw [fset_eq] at h; cases h) (phiS_cons_st (C := fun j => j ≠ 17 ∧ 17 ∉ clsAt [[], [0], [0, 1], [], [3], [0, 1, 2, 3, 4], [], [6], [], [8], [], [10], [0, 1, 2, 3, 4, 5, 6, 7, 8, 9, 10, 11], [0, 1, 2, 3, 4, 5, 6, 7, 8, 9, 10, 11, 12], [0, 1, 2, 3, 4, 5, 6, 7, 8, 9, 10, 11, 12, 13], [0, 1, 2, 3, 4, 5, 6, 7, 8, 9, 10, 11, 12, 13], [], [0, 1, 2, 3, 4, 5, 6, 7, 8, 9, 10, 11, 12, 13, 14, 16], [0, 1, 2, 3, 4, 5, 6, 7, 8, 9, 10, 11, 12, 13, 14, 15, 16, 17]] j ∧ ∀ p ∈ [16], (p = j ∨ p ∈ clsAt [[], [0], [0, 1], [], [3], [0, 1, 2, 3, 4], [], [6], [], [8], [], [10], [0, 1, 2, 3, 4, 5, 6, 7, 8, 9, 10, 11], [0, 1, 2, 3, 4, 5, 6, 7, 8, 9, 10, 11, 12], [0, 1, 2, 3, 4, 5, 6, 7, 8, 9, 10, 11, 12, 13], [0, 1, 2, 3, 4, 5, 6, 7, 8, 9, 10, 11, 12, 13], [], [0, 1, 2, 3, 4, 5, 6, 7, 8, 9, 10, 11, 12, 13, 14, 16], [0, 1, 2, 3, 4, 5, 6, 7, 8, 9, 10, 11, 12, 13, 14, 15, 16, 17]] j) → ∀ q ∈ [16], (q = 17 ∨ q ∈ clsAt [[], [0], [0, 1], [], [3], [0, 1, 2, 3, 4], [], [6], [], [8], [], [10], [0, 1, 2, 3, 4, 5, 6, 7, 8, 9, 10, 11], [0, 1, 2, 3, 4, 5, 6, 7, 8, 9, 10, 11, 12], [0, 1, 2, 3, 4, 5, 6, 7, 8, 9, 10, 11, 12, 13], [0, 1, 2, 3, 4, 5, 6, 7, 8, 9, 10, 11, 12, 13], [], [0, 1, 2, 3, 4, 5, 6, 7, 8, 9, 10, 11, 12, 13, 14, 16], [0, 1, 2, 3, 4, 5, 6, 7, 8, 9, 10, 11, 12, 13, 14, 15, 16, 17]] 17) → p ≠ q → val p ≠ val q) (fun _ _ h => by rw [fset_eq] at h; cases h) (phiS_cons_st (C := fun j => j ≠ 17 ∧ 17 ∉ clsAt [[], [0], [0, 1], [], [3], [0, 1, 2, 3, 4], [], [6], [], [8], [], [10], [0, 1, 2, 3, 4, 5, 6, 7, 8, 9, 10, 11], [0, 1, 2, 3, 4, 5, 6, 7, 8, 9, 10, 11, 12], [0, 1, 2, 3, 4, 5, 6, 7, 8, 9, 10, 11, 12, 13], [0, 1, 2, 3, 4, 5, 6, 7, 8, 9, 10, 11, 12, 13], [], [0, 1, 2, 3, 4, 5, 6, 7, 8, 9, 10, 11, 12, 13, 14, 16], [0, 1, 2, 3, 4, 5, 6, 7, 8, 9, 10, 11, 12, 13, 14, 15, 16, 17]] j ∧ ∀ p ∈ [16], (p = j ∨ p ∈ clsAt [[], [0], [0, 1], [], [3], [0, 1, 2, 3, 4], [], [6], [], [8], [], [10], [0, 1, 2, 3, 4, 5, 6, 7, 8, 9, 10, 11], [0, 1, 2, 3, 4, 5, 6, 7, 8, 9, 10, 11, 12], [0, 1, 2, 3, 4, 5, 6, 7, 8, 9, 10, 11, 12, 13], [0, 1, 2, 3, 4, 5, 6, 7, 8, 9, 10, 11, 12, 13], [], [0, 1, 2, 3, 4, 5, 6, 7, 8, 9, 10, 11, 12, 13, 14, 16], [0, 1, 2, 3, 4, 5, 6, 7, 8, 9, 10, 11, 12, 13, 14, 15, 16, 17]] j) → ∀ q ∈ [16], (q = 17 ∨ q ∈ clsAt [[], [0], [0, 1], [], [3], [0, 1, 2, 3, 4], [], [6], [], [8], [], [10], [0, 1, 2, 3, 4, 5, 6, 7, 8, 9, 10, 11], [0, 1, 2, 3, 4, 5, 6, 7, 8, 9, 10, 11, 12], [0, 1, 2, 3, 4, 5, 6, 7, 8, 9, 10, 11, 12, 13], [0, 1, 2, 3, 4, 5, 6, 7, 8, 9, 10, 11, 12, 13], [], [0, 1, 2, 3, 4, 5, 6, 7, 8, 9, 10, 11, 12, 13, 14, 16], [0, 1, 2, 3, 4, 5, 6, 7, 8, 9, 10, 11, 12, 13, 14, 15, 16, 17]] 17) → p ≠ q → val p ≠ val q) (fun _ ⟨g, h1, h2, _⟩ => ⟨g, h1, h2, fun h => by rw [fset_eq] at h; cases h⟩) (phiS_cons_st (C := fun j => j ≠ 17 ∧ 17 ∉ clsAt [[], [0], [0, 1], [], [3], [0, 1, 2, 3, 4], [], [6], [], [8], [], [10], [0, 1, 2, 3, 4, 5, 6, 7, 8, 9, 10, 11], [0, 1, 2, 3, 4, 5, 6, 7, 8, 9, 10, 11, 12], [0, 1, 2, 3, 4, 5, 6, 7, 8, 9, 10, 11, 12, 13], [0, 1, 2, 3, 4, 5, 6, 7, 8, 9, 10, 11, 12, 13], [], [0, 1, 2, 3, 4, 5, 6, 7, 8, 9, 10, 11, 12, 13, 14, 16], [0, 1, 2, 3, 4, 5, 6, 7, 8, 9, 10, 11, 12, 13, 14, 15, 16, 17]] j ∧ ∀ p ∈ [16], (p = j ∨ p ∈ clsAt [[], [0], [0, 1], [], [3], [0, 1, 2, 3, 4], [], [6], [], [8], [], [10], [0, 1, 2, 3, 4, 5, 6, 7, 8, 9, 10, 11], [0, 1, 2, 3, 4, 5, 6, 7, 8, 9, 10, 11, 12], [0, 1, 2, 3, 4, 5, 6, 7, 8, 9, 10, 11, 12, 13], [0, 1, 2, 3, 4, 5, 6, 7, 8, 9, 10, 11, 12, 13], [], [0, 1, 2, 3, 4, 5, 6, 7, 8, 9, 10, 11, 12, 13, 14, 16], [0, 1, 2, 3, 4, 5, 6, 7, 8, 9, 10, 11, 12, 13, 14, 15, 16, 17]] j) → ∀ q ∈ [16], (q = 17 ∨ q ∈ clsAt [[], [0], [0, 1], [], [3], [0, 1, 2, 3, 4], [], [6], [], [8], [], [10], [0, 1, 2, 3, 4, 5, 6, 7, 8, 9, 10, 11], [0, 1, 2, 3, 4, 5, 6, 7, 8, 9, 10, 11, 12], [0, 1, 2, 3, 4, 5, 6, 7, 8, 9, 10, 11, 12, 13], [0, 1, 2, 3, 4, 5, 6, 7, 8, 9, 10, 11, 12, 13], [], [0, 1, 2, 3, 4, 5, 6, 7, 8, 9, 10, 11, 12, 13, 14, 16], [0, 1, 2, 3, 4, 5, 6, 7, 8, 9, 10, 11, 12, 13, 14, 15, 16, 17]] 17) → p ≠ q → val p ≠ val q) (fun hc => absurd rfl hc.1) (fun _ _ h => h)))) j ⟨hj, hn, hA⟩
    · intro val fl w' hfl hb halc hd
      have e0 : val 0 = .pointer (some ⟨g1, 0, none⟩) := hd 0 (by omega)
      have e1 : val 1 = .agg #[.slice A rv.reaches.length c, .slice A' rv.shoals.length c'] := hd 1 (by omega)
      have e3 : val 3 = .pointer (some ⟨g1, 2, none⟩) := hd 3 (by omega)
      have e4 : val 4 = .slice D sides.length d := hd 4 (by omega)
      have e6 : val 6 = .pointer (some ⟨g2, 0, none⟩) := hd 6 (by omega)
      have e7 : val 7 = .int .i64 ri := hd 7 (by omega)
      have e8 : val 8 = .pointer (some ⟨g2, 1, none⟩) := hd 8 (by omega)
      have e9 : val 9 = .int .i64 ra := hd 9 (by omega)
      have e10 : val 10 = .pointer (some ⟨g2, 2, none⟩) := hd 10 (by omega)
      have e11 : val 11 = .int .i64 rb := hd 11 (by omega)
      have e12 : val 12 = .tuple #[.agg #[.int .i64 (volRes rv sides ri ra rb).lo, .int .i64 (volRes rv sides ri ra rb).hi], .int .i64 (volErr rv sides ri ra rb)] := hd 12 (by omega)
      have e13 : val 13 = .tuple #[.agg #[.int .i64 (volRes rv sides ri ra rb).lo, .int .i64 (volRes rv sides ri ra rb).hi], .int .i64 (volErr rv sides ri ra rb)] := hd 13 (by omega)
      have e14 : val 14 = .agg #[.int .i64 (volRes rv sides ri ra rb).lo, .int .i64 (volRes rv sides ri ra rb).hi] := hd 14 (by omega)
      have e15 : val 15 = .int .i64 (volErr rv sides ri ra rb) := hd 15 (by omega)
      obtain ⟨ga16, e16, qa16⟩ := hd 17 (by omega)
      change val 16 = _ at e16
      refine EL.ends (cs := [.pointer (some ⟨g1, 0, none⟩), .agg #[.slice A rv.reaches.length c, .slice A' rv.shoals.length c'], val 2, .pointer (some ⟨g1, 2, none⟩), .slice D sides.length d, val 5, .pointer (some ⟨g2, 0, none⟩), .int .i64 ri, .pointer (some ⟨g2, 1, none⟩), .int .i64 ra, .pointer (some ⟨g2, 2, none⟩), .int .i64 rb, .tuple #[.agg #[.int .i64 (volRes rv sides ri ra rb).lo, .int .i64 (volRes rv sides ri ra rb).hi], .int .i64 (volErr rv sides ri ra rb)], .tuple #[.agg #[.int .i64 (volRes rv sides ri ra rb).lo, .int .i64 (volRes rv sides ri ra rb).hi], .int .i64 (volErr rv sides ri ra rb)], .agg #[.int .i64 (volRes rv sides ri ra rb).lo, .int .i64 (volRes rv sides ri ra rb).hi], .int .i64 (volErr rv sides ri ra rb), .pointer (some ⟨ga16, 0, none⟩), val 17]) ⟨e0, e1, rfl, e3, e4, rfl, e6, e7, e8, e9, e10, e11, e12, e13, e14, e15, e16, rfl, trivial⟩ rfl ?_
      replace q1 := q1.below hb q1.lt
      replace q2 := q2.below hb q2.lt
      have bge4 := alc_ge halc (i := 16) rfl rfl e16
      have n1_4 : g1 ≠ ga16 := Nat.ne_of_lt (Nat.lt_of_lt_of_le lt_1 bge4)
      have n2_4 : g2 ≠ ga16 := Nat.ne_of_lt (Nat.lt_of_lt_of_le lt_2 bge4)
      have bhbw_4 := Nat.le_trans hbw.size bge4
      replace hbw := Below.on hbw hb hbw.size
      refine EL.val (x_assign rfl) rfl ?_
      refine EL.nil ?_
      refine EX.seq ?_
      refine EC.seq ?_
      refine EC.region ?_
      refine EL.val (fa_54_0 rfl) rfl ?_
      refine EL.val (ld_47 rfl (q1.at (j := 0) rfl) (q1.at (j := 1) rfl)) rfl ?_
      refine EL.val (fa_54_1 rfl) rfl ?_
      refine EL.val (ld_52 rfl (q1.at (j := 2) rfl)) rfl ?_
      by_cases hst : startErr rv sides = 0
      ·
        obtain ⟨hok, hS⟩ := startErr_ok hst
        have hhr := hS.hours
        have hmany := hS.many
        have hsm := hS.river.some
        refine EL.call (cl_38 rfl rfl) rfl (rstart_any rv sides _ _ _ vs ss _ B (hr.below (hbw.mono hB)) (hs.below (hbw.mono hB)) (Nat.le_trans hB hbw.size) (by omega) (by omega) f3 (by omega) f4) ?_
        rintro e w5 ⟨rfl, hc5⟩
        refine ⟨_, rfl, ?_⟩
        replace q1 := q1.below hc5 q1.lt
        replace q2 := q2.below hc5 q2.lt
        replace qa16 := qa16.below hc5 qa16.lt
        replace hbw := Below.on hbw hc5 hbw.size
        clear hc5
        refine EL.val (x_assign rfl) rfl ?_
        refine EL.nil ?_
        refine EX.seq ?_
        refine EC.seq ?_
        refine EC.seq ?_
        refine EC.region ?_
        refine EL.val (x_move rfl) rfl ?_
        refine EL.val (x_eql rfl rfl (by first | assumption | exact decide_eq_true (by omega))) rfl ?_
        refine EL.val (x_move rfl) rfl ?_
        refine EL.valg rfl rfl (ixa_80 (k := 0) rfl rfl (by omega)) rfl ?_
        refine EL.valg rfl rfl (ld_3 rfl (q2.at (j := 0) rfl)) rfl ?_
        refine EL.valg rfl rfl (fa_54_1 rfl) rfl ?_
        refine EL.valg rfl rfl (ld_52 rfl (q1.at (j := 2) rfl)) rfl ?_
        refine EL.valg rfl rfl (ln_52 rfl) rfl ?_
        refine EL.valg rfl rfl (x_sub rfl rfl (by first | assumption | exact IntWalk.i64_in _ ⟨by omega, by omega⟩)) rfl ?_
        cases hi : inB 0 ((sides.length : Nat) - 1 : Int) ri
        ·
          obtain ⟨hve, hvr⟩ := vol_none (a := ra) (b := rb) hst (by rw [← hmany]; exact hi)
          refine EL.callg rfl rfl (cl_35 rfl rfl rfl) rfl (by have key := in_bel ri 0 ((sides.length : Nat) - 1 : Int) w5; rw [hi] at key; exact key) ?_
          rintro e w6 ⟨rfl, hc6⟩
          refine ⟨_, rfl, ?_⟩
          replace q1 := q1.below hc6 q1.lt
          replace q2 := q2.below hc6 q2.lt
          replace qa16 := qa16.below hc6 qa16.lt
          replace hbw := Below.on hbw hc6 hbw.size
          clear hc6
          refine EL.valg rfl rfl (x_not rfl) rfl ?_
          refine EL.val (x_pick_t rfl rfl) rfl ?_
          refine EL.nil ?_
          refine EX.seq ?_
          refine EC.yes rfl ?_
          refine EC.region ?_
          refine EL.val (x_assign rfl) rfl ?_
          refine EL.nil ?_
          refine EX.seq ?_
          refine EC.seq ?_
          refine EC.seq ?_
          refine EC.regionQ (by kernel_rfl) (by kernel_rfl) ?_
          refine EQ.val (fun _ hw => (x_move rfl)) rfl ?_
          refine EQ.val (fun _ hw => (x_eql rfl rfl (by first | assumption | exact decide_eq_false (by omega)))) rfl ?_
          refine EQ.val (fun _ hw => (x_move rfl)) rfl ?_
          refine EQ.skip rfl rfl rfl rfl ?_
          refine EQ.skip rfl rfl rfl rfl ?_
          refine EQ.skip rfl rfl rfl rfl ?_
          refine EQ.skip rfl rfl rfl rfl ?_
          refine EQ.skip rfl rfl rfl rfl ?_
          refine EQ.skip rfl rfl rfl rfl ?_
          refine EQ.skip rfl rfl rfl rfl ?_
          refine EQ.skip rfl rfl rfl rfl ?_
          refine EQ.skip rfl rfl rfl rfl ?_
          refine EQ.skip rfl rfl rfl rfl ?_
          refine EQ.skip rfl rfl rfl rfl ?_
          refine EQ.skip rfl rfl rfl rfl ?_
          refine EQ.skip rfl rfl rfl rfl ?_
          refine EQ.skip rfl rfl rfl rfl ?_
          refine EQ.skip rfl rfl rfl rfl ?_
          refine EQ.skip rfl rfl rfl rfl ?_
          refine EQ.val (fun _ hw => (x_pick_f rfl rfl)) rfl ?_
          refine EQ.fin (fun w_ hw_ => ?_)
          replace q1 := q1.below hw_ q1.lt
          replace q2 := q2.below hw_ q2.lt
          replace qa16 := qa16.below hw_ qa16.lt
          replace hbw := Below.on hbw hw_ hbw.size
          clear hw_
          refine EX.seq ?_
          refine EC.no rfl ?_
          refine EC.skip ?_
          refine EX.seq ?_
          refine EC.seq ?_
          refine EC.seq ?_
          refine EC.region ?_
          refine EL.val (x_move rfl) rfl ?_
          refine EL.val (x_neq rfl rfl (by first | assumption | exact decide_eq_true (by omega))) rfl ?_
          refine EL.nil ?_
          refine EX.seq ?_
          refine EC.yes rfl ?_
          refine EC.seq ?_
          refine EC.region ?_
          refine EL.val (x_move rfl) rfl ?_
          refine EL.val (x_move rfl) rfl ?_
          refine EL.val (x_eql rfl rfl (by first | assumption | exact decide_eq_true (by omega))) rfl ?_
          refine EL.val (x_move rfl) rfl ?_
          refine EL.valg rfl rfl (ld_23 rfl (qa16.at (j := 0) rfl) (qa16.at (j := 1) rfl)) rfl ?_
          refine EL.valg rfl rfl (bd_23_) rfl ?_
          refine EL.valg rfl rfl (eql_23 (r := true) rfl rfl (by simp [hvr, bd0])) rfl ?_
          refine EL.val (x_pick_t rfl rfl) rfl ?_
          refine EL.val (x_move rfl) rfl ?_
          refine EL.callg rfl rfl cl_16 rfl (known_any _) ?_
          rintro e w7 ⟨rfl, hc7⟩
          refine ⟨_, rfl, ?_⟩
          replace q1 := q1.below hc7 q1.lt
          replace q2 := q2.below hc7 q2.lt
          replace qa16 := qa16.below hc7 qa16.lt
          replace hbw := Below.on hbw hc7 hbw.size
          clear hc7
          refine EL.val (x_pick_t rfl rfl) rfl ?_
          refine EL.val (x_assign rfl) rfl ?_
          refine EL.nil ?_
          refine EX.seq ?_
          refine EC.ret ?_
          refine EX.seq_ret ?_
          exact EX.done (res1 rfl rfl) ⟨rfl, hbw⟩
        ·
          have hi_ := inB_iff.1 hi
          have hi2 : inB 0 ((rv.reaches.length : Nat) - 1 : Int) ri = true := by rw [← hmany]; exact hi
          obtain ⟨bS, oS, rfl, _, c0⟩ := sides_cell hs 0 (by omega)
          have hs0 := hs.side 0 (by omega)
          obtain ⟨As, cs, es, _⟩ := hs0.shape
          rw [es] at c0
          refine EL.callg rfl rfl (cl_35 rfl rfl rfl) rfl (by have key := in_bel ri 0 ((sides.length : Nat) - 1 : Int) w5; rw [hi] at key; exact key) ?_
          rintro e w8 ⟨rfl, hc8⟩
          refine ⟨_, rfl, ?_⟩
          replace q1 := q1.below hc8 q1.lt
          replace q2 := q2.below hc8 q2.lt
          replace qa16 := qa16.below hc8 qa16.lt
          replace hbw := Below.on hbw hc8 hbw.size
          clear hc8
          refine EL.valg rfl rfl (x_not rfl) rfl ?_
          refine EL.val (x_pick_t rfl rfl) rfl ?_
          refine EL.nil ?_
          refine EX.seq ?_
          refine EC.no rfl ?_
          refine EC.skip ?_
          refine EX.seq ?_
          refine EC.seq ?_
          refine EC.seq ?_
          have ha3 : (inB 0 rb ra = false) ∨ (inB 0 rb ra = true ∧ ((sides.getD 0 []).length : Nat) < rb) ∨ (inB 0 rb ra = true ∧ rb ≤ ((sides.getD 0 []).length : Nat)) := by
            cases h : inB 0 rb ra
            · exact .inl rfl
            · by_cases h2 : rb ≤ ((sides.getD 0 []).length : Nat)
              · exact .inr (.inr ⟨rfl, h2⟩)
              · exact .inr (.inl ⟨rfl, by omega⟩)
          rcases ha3 with ha | ⟨ha, hb_⟩ | ⟨ha, hb_⟩
          ·
            obtain ⟨hve, hvr⟩ := vol_range hst hi2 (a := ra) (b := rb) (fun h => by rw [inB_iff.2 ⟨h.1, h.2.1⟩] at ha; cases ha)
            refine EC.regionQ (by kernel_rfl) (by kernel_rfl) ?_
            refine EQ.val (fun _ hw => (x_move rfl)) rfl ?_
            refine EQ.val (fun _ hw => (x_eql rfl rfl (by first | assumption | exact decide_eq_true (by omega)))) rfl ?_
            refine EQ.val (fun _ hw => (x_move rfl)) rfl ?_
            refine EQ.valg rfl rfl (fun _ hw => (ixa_80 (k := 1) rfl rfl (by omega))) rfl ?_
            refine EQ.valg rfl rfl (fun _ hw => (ld_3 rfl (below_load hw (q2.at (j := 1) rfl)))) rfl ?_
            refine EQ.valg rfl rfl (fun _ hw => (ixa_80 (k := 2) rfl rfl (by omega))) rfl ?_
            refine EQ.valg rfl rfl (fun _ hw => (ld_3 rfl (below_load hw (q2.at (j := 2) rfl)))) rfl ?_
            refine EQ.callg rfl rfl (fun _ _ _ ha => cl_35 rfl rfl rfl _ ha) rfl (fun W hw => (in_eq ha W).mono fun e w' h => ⟨h.1, hw.trans (h.2.mono hw.size)⟩) ?_
            refine EQ.valg rfl rfl (fun _ hw => (x_not rfl)) rfl ?_
            refine EQ.valg rfl rfl (fun _ hw => (x_move rfl)) rfl ?_
            refine EQ.skip rfl rfl rfl rfl ?_
            refine EQ.skip rfl rfl rfl rfl ?_
            refine EQ.skip rfl rfl rfl rfl ?_
            refine EQ.skip rfl rfl rfl rfl ?_
            refine EQ.skip rfl rfl rfl rfl ?_
            refine EQ.skip rfl rfl rfl rfl ?_
            refine EQ.skip rfl rfl rfl rfl ?_
            refine EQ.skip rfl rfl rfl rfl ?_
            refine EQ.valg rfl rfl (fun _ hw => (x_pick_t rfl rfl)) rfl ?_
            refine EQ.val (fun _ hw => (x_pick_t rfl rfl)) rfl ?_
            refine EQ.fin (fun w_ hw_ => ?_)
            replace q1 := q1.below hw_ q1.lt
            replace q2 := q2.below hw_ q2.lt
            replace qa16 := qa16.below hw_ qa16.lt
            replace hbw := Below.on hbw hw_ hbw.size
            clear hw_
            refine EX.seq ?_
            refine EC.yes rfl ?_
            refine EC.region ?_
            refine EL.val (x_assign rfl) rfl ?_
            refine EL.nil ?_
            refine EX.seq ?_
            refine EC.seq ?_
            refine EC.seq ?_
            refine EC.region ?_
            refine EL.val (x_move rfl) rfl ?_
            refine EL.val (x_neq rfl rfl (by first | assumption | exact decide_eq_true (by omega))) rfl ?_
            refine EL.nil ?_
            refine EX.seq ?_
            refine EC.yes rfl ?_
            refine EC.seq ?_
            refine EC.region ?_
            refine EL.val (x_move rfl) rfl ?_
            refine EL.val (x_move rfl) rfl ?_
            refine EL.val (x_eql rfl rfl (by first | assumption | exact decide_eq_true (by omega))) rfl ?_
            refine EL.val (x_move rfl) rfl ?_
            refine EL.valg rfl rfl (ld_23 rfl (qa16.at (j := 0) rfl) (qa16.at (j := 1) rfl)) rfl ?_
            refine EL.valg rfl rfl (bd_23_) rfl ?_
            refine EL.valg rfl rfl (eql_23 (r := true) rfl rfl (by simp [hvr, bd0])) rfl ?_
            refine EL.val (x_pick_t rfl rfl) rfl ?_
            refine EL.val (x_move rfl) rfl ?_
            refine EL.callg rfl rfl cl_16 rfl (known_any _) ?_
            rintro e w9 ⟨rfl, hc9⟩
            refine ⟨_, rfl, ?_⟩
            replace q1 := q1.below hc9 q1.lt
            replace q2 := q2.below hc9 q2.lt
            replace qa16 := qa16.below hc9 qa16.lt
            replace hbw := Below.on hbw hc9 hbw.size
            clear hc9
            refine EL.val (x_pick_t rfl rfl) rfl ?_
            refine EL.val (x_assign rfl) rfl ?_
            refine EL.nil ?_
            refine EX.seq ?_
            refine EC.ret ?_
            refine EX.seq_ret ?_
            exact EX.done (res1 rfl rfl) ⟨rfl, hbw⟩
          ·
            have ha_ := inB_iff.1 ha
            obtain ⟨hve, hvr⟩ := vol_range hst hi2 (a := ra) (b := rb) (by omega)
            refine EC.regionQ (by kernel_rfl) (by kernel_rfl) ?_
            refine EQ.val (fun _ hw => (x_move rfl)) rfl ?_
            refine EQ.val (fun _ hw => (x_eql rfl rfl (by first | assumption | exact decide_eq_true (by omega)))) rfl ?_
            refine EQ.val (fun _ hw => (x_move rfl)) rfl ?_
            refine EQ.valg rfl rfl (fun _ hw => (ixa_80 (k := 1) rfl rfl (by omega))) rfl ?_
            refine EQ.valg rfl rfl (fun _ hw => (ld_3 rfl (below_load hw (q2.at (j := 1) rfl)))) rfl ?_
            refine EQ.valg rfl rfl (fun _ hw => (ixa_80 (k := 2) rfl rfl (by omega))) rfl ?_
            refine EQ.valg rfl rfl (fun _ hw => (ld_3 rfl (below_load hw (q2.at (j := 2) rfl)))) rfl ?_
            refine EQ.callg rfl rfl (fun _ _ _ ha => cl_35 rfl rfl rfl _ ha) rfl (fun W hw => (in_eq ha W).mono fun e w' h => ⟨h.1, hw.trans (h.2.mono hw.size)⟩) ?_
            refine EQ.valg rfl rfl (fun _ hw => (x_not rfl)) rfl ?_
            refine EQ.valg rfl rfl (fun _ hw => (x_move rfl)) rfl ?_
            refine EQ.valg rfl rfl (fun _ hw => (ixa_80 (k := 2) rfl rfl (by omega))) rfl ?_
            refine EQ.valg rfl rfl (fun _ hw => (ld_3 rfl (below_load hw (q2.at (j := 2) rfl)))) rfl ?_
            refine EQ.valg rfl rfl (fun _ hw => (fa_54_1 rfl)) rfl ?_
            refine EQ.valg rfl rfl (fun _ hw => (ld_52 rfl (below_load hw (q1.at (j := 2) rfl)))) rfl ?_
            refine EQ.valg rfl rfl (fun _ hw => (ix_52 (k := 0) rfl rfl (by omega))) rfl ?_
            refine EQ.valg rfl rfl (fun _ hw => (ld_28 rfl (below_load hw (below_load hbw c0)))) rfl ?_
            refine EQ.valg rfl rfl (fun _ hw => (ln_28 rfl)) rfl ?_
            refine EQ.valg rfl rfl (fun _ hw => (x_gtr rfl rfl (by first | assumption | exact decide_eq_true (by omega)))) rfl ?_
            refine EQ.valg rfl rfl (fun _ hw => (x_pick_f rfl rfl)) rfl ?_
            refine EQ.val (fun _ hw => (x_pick_t rfl rfl)) rfl ?_
            refine EQ.fin (fun w_ hw_ => ?_)
            replace q1 := q1.below hw_ q1.lt
            replace q2 := q2.below hw_ q2.lt
            replace qa16 := qa16.below hw_ qa16.lt
            replace hbw := Below.on hbw hw_ hbw.size
            clear hw_
            refine EX.seq ?_
            refine EC.yes rfl ?_
            refine EC.region ?_
            refine EL.val (x_assign rfl) rfl ?_
            refine EL.nil ?_
            refine EX.seq ?_
            refine EC.seq ?_
            refine EC.seq ?_
            refine EC.region ?_
            refine EL.val (x_move rfl) rfl ?_
            refine EL.val (x_neq rfl rfl (by first | assumption | exact decide_eq_true (by omega))) rfl ?_
            refine EL.nil ?_
            refine EX.seq ?_
            refine EC.yes rfl ?_
            refine EC.seq ?_
            refine EC.region ?_
            refine EL.val (x_move rfl) rfl ?_
            refine EL.val (x_move rfl) rfl ?_
            refine EL.val (x_eql rfl rfl (by first | assumption | exact decide_eq_true (by omega))) rfl ?_
            refine EL.val (x_move rfl) rfl ?_
            refine EL.valg rfl rfl (ld_23 rfl (qa16.at (j := 0) rfl) (qa16.at (j := 1) rfl)) rfl ?_
            refine EL.valg rfl rfl (bd_23_) rfl ?_
            refine EL.valg rfl rfl (eql_23 (r := true) rfl rfl (by simp [hvr, bd0])) rfl ?_
            refine EL.val (x_pick_t rfl rfl) rfl ?_
            refine EL.val (x_move rfl) rfl ?_
            refine EL.callg rfl rfl cl_16 rfl (known_any _) ?_
            rintro e w10 ⟨rfl, hc10⟩
            refine ⟨_, rfl, ?_⟩
            replace q1 := q1.below hc10 q1.lt
            replace q2 := q2.below hc10 q2.lt
            replace qa16 := qa16.below hc10 qa16.lt
            replace hbw := Below.on hbw hc10 hbw.size
            clear hc10
            refine EL.val (x_pick_t rfl rfl) rfl ?_
            refine EL.val (x_assign rfl) rfl ?_
            refine EL.nil ?_
            refine EX.seq ?_
            refine EC.ret ?_
            refine EX.seq_ret ?_
            exact EX.done (res1 rfl rfl) ⟨rfl, hbw⟩
          ·
            have ha_ := inB_iff.1 ha
            obtain ⟨k, rfl⟩ : ∃ k : Nat, ri = k := ⟨ri.toNat, by omega⟩
            obtain ⟨p, rfl⟩ : ∃ k : Nat, ra = k := ⟨ra.toNat, by omega⟩
            obtain ⟨q, rfl⟩ : ∃ k : Nat, rb = k := ⟨rb.toNat, by omega⟩
            obtain ⟨hve, hvr⟩ := vol_nat k p q hst hi2 (by omega) (by omega)
            refine EC.regionQ (by kernel_rfl) (by kernel_rfl) ?_
            refine EQ.val (fun _ hw => (x_move rfl)) rfl ?_
            refine EQ.val (fun _ hw => (x_eql rfl rfl (by first | assumption | exact decide_eq_true (by omega)))) rfl ?_
            refine EQ.val (fun _ hw => (x_move rfl)) rfl ?_
            refine EQ.valg rfl rfl (fun _ hw => (ixa_80 (k := 1) rfl rfl (by omega))) rfl ?_
            refine EQ.valg rfl rfl (fun _ hw => (ld_3 rfl (below_load hw (q2.at (j := 1) rfl)))) rfl ?_
            refine EQ.valg rfl rfl (fun _ hw => (ixa_80 (k := 2) rfl rfl (by omega))) rfl ?_
            refine EQ.valg rfl rfl (fun _ hw => (ld_3 rfl (below_load hw (q2.at (j := 2) rfl)))) rfl ?_
            refine EQ.callg rfl rfl (fun _ _ _ ha => cl_35 rfl rfl rfl _ ha) rfl (fun W hw => (in_eq ha W).mono fun e w' h => ⟨h.1, hw.trans (h.2.mono hw.size)⟩) ?_
            refine EQ.valg rfl rfl (fun _ hw => (x_not rfl)) rfl ?_
            refine EQ.valg rfl rfl (fun _ hw => (x_move rfl)) rfl ?_
            refine EQ.valg rfl rfl (fun _ hw => (ixa_80 (k := 2) rfl rfl (by omega))) rfl ?_
            refine EQ.valg rfl rfl (fun _ hw => (ld_3 rfl (below_load hw (q2.at (j := 2) rfl)))) rfl ?_
            refine EQ.valg rfl rfl (fun _ hw => (fa_54_1 rfl)) rfl ?_
            refine EQ.valg rfl rfl (fun _ hw => (ld_52 rfl (below_load hw (q1.at (j := 2) rfl)))) rfl ?_
            refine EQ.valg rfl rfl (fun _ hw => (ix_52 (k := 0) rfl rfl (by omega))) rfl ?_
            refine EQ.valg rfl rfl (fun _ hw => (ld_28 rfl (below_load hw (below_load hbw c0)))) rfl ?_
            refine EQ.valg rfl rfl (fun _ hw => (ln_28 rfl)) rfl ?_
            refine EQ.valg rfl rfl (fun _ hw => (x_gtr rfl rfl (by first | assumption | exact decide_eq_false (by omega)))) rfl ?_
            refine EQ.valg rfl rfl (fun _ hw => (x_pick_f rfl rfl)) rfl ?_
            refine EQ.val (fun _ hw => (x_pick_t rfl rfl)) rfl ?_
            refine EQ.fin (fun w_ hw_ => ?_)
            replace q1 := q1.below hw_ q1.lt
            replace q2 := q2.below hw_ q2.lt
            replace qa16 := qa16.below hw_ qa16.lt
            replace hbw := Below.on hbw hw_ hbw.size
            clear hw_
            refine EX.seq ?_
            refine EC.no rfl ?_
            refine EC.skip ?_
            refine EX.seq ?_
            refine EC.seq ?_
            refine EC.seq ?_
            refine EC.region ?_
            refine EL.val (x_move rfl) rfl ?_
            refine EL.val (x_neq rfl rfl (by first | assumption | exact decide_eq_false (by omega))) rfl ?_
            refine EL.nil ?_
            refine EX.seq ?_
            refine EC.no rfl ?_
            refine EC.skip ?_
            refine EX.seq ?_
            refine EC.seq ?_
            refine EC.region ?_
            refine EL.val (bd_23_) rfl ?_
            refine EL.newP al_23 rfl ?_
            intro g11 w11 q11 hb11 hg11 hl11
            have n1_11 : g1 ≠ g11 := Nat.ne_of_lt (Nat.lt_of_lt_of_le q1.lt hg11)
            have n2_11 : g2 ≠ g11 := Nat.ne_of_lt (Nat.lt_of_lt_of_le q2.lt hg11)
            have n4_11 : ga16 ≠ g11 := Nat.ne_of_lt (Nat.lt_of_lt_of_le qa16.lt hg11)
            have bhbw_11 := Nat.le_trans hbw.size hg11
            replace q1 := q1.below hb11 q1.lt
            replace q2 := q2.below hb11 q2.lt
            replace qa16 := qa16.below hb11 qa16.lt
            replace hbw := Below.on hbw hb11 hbw.size
            clear hb11 hg11 hl11
            refine EL.store rfl rfl q11 sz_23 rfl rfl rfl rfl ?_
            intro w12 hq12 hg12
            replace q1 := q1.grown hg12 (fun h => n1_11 (Option.some.inj h))
            replace q2 := q2.grown hg12 (fun h => n2_11 (Option.some.inj h))
            replace qa16 := qa16.grown hg12 (fun h => n4_11 (Option.some.inj h))
            replace hbw := below_store hbw hg12 bhbw_11
            replace q11 := hq12
            clear hg12 hq12
            refine EL.nil ?_
            refine EX.seq ?_
            refine EC.seq ?_
            refine EC.seq ?_
            refine EC.region ?_
            refine EL.val (ixa_80 (k := 1) rfl rfl (by omega)) rfl ?_
            refine EL.val (ld_3 rfl (q2.at (j := 1) rfl)) rfl ?_
            refine EL.val (x_assign rfl) rfl ?_
            refine EL.nil ?_
            refine EX.seq ?_
            refine EC.block ?_
            refine EC.loopD [9, 10, 83, 84, 85, 86, 87, 88, 89, 90, 91, 92, 93, 94, 95, 96, 97, 98, 99, 100, 101, 102, 103, 104, 105, 106, 107] (fun x : Nat => [(9, .int .i64 ((p + x : Nat) : Int))]) (fun x W => x ≤ q - p ∧ Blk W g1 54 #[.slice A rv.reaches.length c, .slice A' rv.shoals.length c', .slice (some ⟨bS, oS, none⟩) sides.length d] ∧ Blk W g2 80 #[.int .i64 (k : Nat), .int .i64 (p : Nat), .int .i64 (q : Nat)] ∧ Blk W ga16 23 #[.int .i64 (volRes rv sides (k : Nat) (p : Nat) (q : Nat)).lo, .int .i64 (volRes rv sides (k : Nat) (p : Nat) (q : Nat)).hi] ∧ Blk W g11 23 #[.int .i64 (sumN (flowIn rv.reaches sides k) (p : Int) x).lo, .int .i64 (sumN (flowIn rv.reaches sides k) (p : Int) x).hi] ∧ Below w.heap.size w W) (fun x => q - p - x) 0 ⟨Nat.zero_le _, q1, q2, qa16, q11, hbw⟩ ⟨rfl, trivial⟩ ?_
            clear q1 q2 qa16 q11 hbw
            rintro x wr ⟨hx, q1, q2, qa16, q11, hbw⟩
            by_cases hlt : p + x < q
            ·
              have hb1 := sumN_bd (f := flowIn rv.reaches sides k) (a := (p : Int)) (M := 200000000000) (n := x) (fun y hy => flowIn_small hS k _ (by omega) (by omega))
              have hb2 := flowIn_small hS k ((p : Int) + (x : Nat)) (by omega) (by omega)
              have ex : ((p + x : Nat) : Int) = (p : Int) + (x : Nat) := by omega
              have wlo : IntKind.i64.wrap ((sumN (flowIn rv.reaches sides k) (p : Int) x).lo + (flowIn rv.reaches sides k ((p : Int) + (x : Nat))).lo) = (sumN (flowIn rv.reaches sides k) (p : Int) (x + 1)).lo := IntWalk.i64_in _ ⟨by omega, by omega⟩
              have whi : IntKind.i64.wrap ((sumN (flowIn rv.reaches sides k) (p : Int) x).hi + (flowIn rv.reaches sides k ((p : Int) + (x : Nat))).hi) = (sumN (flowIn rv.reaches sides k) (p : Int) (x + 1)).hi := IntWalk.i64_in _ ⟨by omega, by omega⟩
              refine EC.seq ?_
              refine EC.seq ?_
              refine EC.region ?_
              refine EL.val (x_move rfl) rfl ?_
              refine EL.val (ixa_80 (k := 2) rfl rfl (by omega)) rfl ?_
              refine EL.val (ld_3 rfl (q2.at (j := 2) rfl)) rfl ?_
              refine EL.val (x_lss rfl rfl (by first | assumption | exact decide_eq_true (by omega))) rfl ?_
              refine EL.nil ?_
              refine EX.seq ?_
              refine EC.yes rfl ?_
              refine EC.skip ?_
              refine EX.seq ?_
              refine EC.seq ?_
              refine EC.block ?_
              refine EC.seq ?_
              refine EC.region ?_
              refine EL.val (fa_54_0 rfl) rfl ?_
              refine EL.val (ld_47 rfl (q1.at (j := 0) rfl) (q1.at (j := 1) rfl)) rfl ?_
              refine EL.val (fa_54_1 rfl) rfl ?_
              refine EL.val (ld_52 rfl (q1.at (j := 2) rfl)) rfl ?_
              refine EL.val (ixa_80 (k := 0) rfl rfl (by omega)) rfl ?_
              refine EL.val (ld_3 rfl (q2.at (j := 0) rfl)) rfl ?_
              refine EL.val (x_move rfl) rfl ?_
              refine EL.call (cl_47 rfl rfl rfl rfl) rfl (by have key := rflow_any rv sides _ _ _ vs ss B hS k ((p + x : Nat) : Int) wr (hr.below (hbw.mono hB)) (hs.below (hbw.mono hB)) (Nat.le_trans hB hbw.size) (by omega) (by omega); rw [ex] at key; exact key) ?_
              rintro e w13 ⟨rfl, hc13⟩
              refine ⟨_, rfl, ?_⟩
              replace q1 := q1.below hc13 q1.lt
              replace q2 := q2.below hc13 q2.lt
              replace qa16 := qa16.below hc13 qa16.lt
              replace q11 := q11.below hc13 q11.lt
              replace hbw := Below.on hbw hc13 hbw.size
              clear hc13
              refine EL.newP al_23 rfl ?_
              intro g14 w14 q14 hb14 hg14 hl14
              have n1_14 : g1 ≠ g14 := Nat.ne_of_lt (Nat.lt_of_lt_of_le q1.lt hg14)
              have n2_14 : g2 ≠ g14 := Nat.ne_of_lt (Nat.lt_of_lt_of_le q2.lt hg14)
              have n4_14 : ga16 ≠ g14 := Nat.ne_of_lt (Nat.lt_of_lt_of_le qa16.lt hg14)
              have n11_14 : g11 ≠ g14 := Nat.ne_of_lt (Nat.lt_of_lt_of_le q11.lt hg14)
              have bhbw_14 := Nat.le_trans hbw.size hg14
              replace q1 := q1.below hb14 q1.lt
              replace q2 := q2.below hb14 q2.lt
              replace qa16 := qa16.below hb14 qa16.lt
              replace q11 := q11.below hb14 q11.lt
              replace hbw := Below.on hbw hb14 hbw.size
              clear hb14 hg14 hl14
              refine EL.store rfl rfl q14 sz_23 rfl rfl rfl rfl ?_
              intro w15 hq15 hg15
              replace q1 := q1.grown hg15 (fun h => n1_14 (Option.some.inj h))
              replace q2 := q2.grown hg15 (fun h => n2_14 (Option.some.inj h))
              replace qa16 := qa16.grown hg15 (fun h => n4_14 (Option.some.inj h))
              replace q11 := q11.grown hg15 (fun h => n11_14 (Option.some.inj h))
              replace hbw := below_store hbw hg15 bhbw_14
              replace q14 := hq15
              clear hg15 hq15
              refine EL.nil ?_
              refine EX.seq ?_
              refine EC.region ?_
              refine EL.val (fa_23_0 rfl) rfl ?_
              refine EL.val (ld_3 rfl (q11.at (j := 0) rfl)) rfl ?_
              refine EL.val (fa_23_0 rfl) rfl ?_
              refine EL.val (ld_3 rfl (q14.at (j := 0) rfl)) rfl ?_
              refine EL.val (x_add rfl rfl wlo) rfl ?_
              refine EL.val (fa_23_1 rfl) rfl ?_
              refine EL.val (ld_3 rfl (q11.at (j := 1) rfl)) rfl ?_
              refine EL.val (fa_23_1 rfl) rfl ?_
              refine EL.val (ld_3 rfl (q14.at (j := 1) rfl)) rfl ?_
              refine EL.val (x_add rfl rfl whi) rfl ?_
              refine EL.val (bd_23_0_1 rfl rfl) rfl ?_
              refine EL.store rfl rfl q11 sz_23 rfl rfl rfl rfl ?_
              intro w16 hq16 hg16
              replace q1 := q1.grown hg16 (fun h => n1_11 (Option.some.inj h))
              replace q2 := q2.grown hg16 (fun h => n2_11 (Option.some.inj h))
              replace qa16 := qa16.grown hg16 (fun h => n4_11 (Option.some.inj h))
              replace q14 := q14.grown hg16 (fun h => n11_14.symm (Option.some.inj h))
              replace hbw := below_store hbw hg16 bhbw_11
              replace q11 := hq16
              clear hg16 hq16
              refine EL.nil ?_
              refine EX.blk ?_
              refine EX.seq ?_
              refine EC.region ?_
              refine EL.val (x_move rfl) rfl ?_
              refine EL.val (x_add rfl rfl (IntWalk.i64_in _ ⟨by omega, by omega⟩)) rfl ?_
              refine EL.val (x_assign rfl) rfl ?_
              refine EL.nil ?_
              refine EX.roundD (x + 1) ⟨rfl, trivial⟩ (by repeat first | exact Sub.refl _ | refine sub_past rfl ?_ | refine sub_del rfl ?_ | refine sub_insL_nil ?_) ⟨by omega, q1, q2, qa16, q11, hbw⟩ (by omega)
            ·
              obtain rfl : x = q - p := by omega
              refine EC.seq ?_
              refine EC.seq ?_
              refine EC.region ?_
              refine EL.val (x_move rfl) rfl ?_
              refine EL.val (ixa_80 (k := 2) rfl rfl (by omega)) rfl ?_
              refine EL.val (ld_3 rfl (q2.at (j := 2) rfl)) rfl ?_
              refine EL.val (x_lss rfl rfl (by first | assumption | exact decide_eq_false (by omega))) rfl ?_
              refine EL.nil ?_
              refine EX.seq ?_
              refine EC.no rfl ?_
              refine EC.exit ?_
              refine EX.seq_exit ?_
              refine EX.seq_exit ?_
              refine EX.blk_here ?_
              refine EX.seq ?_
              refine EC.seq ?_
              refine EC.region ?_
              refine EL.val (x_move rfl) rfl ?_
              refine EL.val (x_eql rfl rfl (by first | assumption | exact decide_eq_true (by omega))) rfl ?_
              refine EL.val (x_move rfl) rfl ?_
              refine EL.valg rfl rfl (ld_23 rfl (qa16.at (j := 0) rfl) (qa16.at (j := 1) rfl)) rfl ?_
              refine EL.valg rfl rfl (ld_23 rfl (q11.at (j := 0) rfl) (q11.at (j := 1) rfl)) rfl ?_
              refine EL.valg rfl rfl (eql_23 (r := true) rfl rfl (by rw [hvr]; simp [volOf])) rfl ?_
              refine EL.val (x_pick_t rfl rfl) rfl ?_
              refine EL.val (x_move rfl) rfl ?_
              refine EL.callg rfl rfl cl_16 rfl (known_any _) ?_
              rintro e w17 ⟨rfl, hc17⟩
              refine ⟨_, rfl, ?_⟩
              replace q1 := q1.below hc17 q1.lt
              replace q2 := q2.below hc17 q2.lt
              replace qa16 := qa16.below hc17 qa16.lt
              replace q11 := q11.below hc17 q11.lt
              replace hbw := Below.on hbw hc17 hbw.size
              clear hc17
              refine EL.val (x_pick_t rfl rfl) rfl ?_
              refine EL.val (x_assign rfl) rfl ?_
              refine EL.nil ?_
              refine EX.seq ?_
              refine EC.ret ?_
              exact EX.done (res1 rfl rfl) ⟨rfl, hbw⟩
      ·
        obtain ⟨hve, hvr⟩ := vol_open (i := ri) (a := ra) (b := rb) hst
        refine EL.call (cl_38 rfl rfl) rfl (rstart_any rv sides _ _ _ vs ss _ B (hr.below (hbw.mono hB)) (hs.below (hbw.mono hB)) (Nat.le_trans hB hbw.size) (by omega) (by omega) f3 (by omega) f4) ?_
        rintro e w18 ⟨rfl, hc18⟩
        refine ⟨_, rfl, ?_⟩
        replace q1 := q1.below hc18 q1.lt
        replace q2 := q2.below hc18 q2.lt
        replace qa16 := qa16.below hc18 qa16.lt
        replace hbw := Below.on hbw hc18 hbw.size
        clear hc18
        refine EL.val (x_assign rfl) rfl ?_
        refine EL.nil ?_
        refine EX.seq ?_
        refine EC.seq ?_
        refine EC.seq ?_
        refine EC.region ?_
        refine EL.val (x_move rfl) rfl ?_
        refine EL.val (x_eql rfl rfl (by first | assumption | exact decide_eq_false (by omega))) rfl ?_
        refine EL.val (x_move rfl) rfl ?_
        refine EL.skip rfl rfl rfl rfl ?_
        refine EL.skip rfl rfl rfl rfl ?_
        refine EL.skip rfl rfl rfl rfl ?_
        refine EL.skip rfl rfl rfl rfl ?_
        refine EL.skip rfl rfl rfl rfl ?_
        refine EL.skip rfl rfl rfl rfl ?_
        refine EL.skip rfl rfl rfl rfl ?_
        refine EL.skip rfl rfl rfl rfl ?_
        refine EL.val (x_pick_f rfl rfl) rfl ?_
        refine EL.nil ?_
        refine EX.seq ?_
        refine EC.no rfl ?_
        refine EC.skip ?_
        refine EX.seq ?_
        refine EC.seq ?_
        refine EC.seq ?_
        refine EC.regionQ (by kernel_rfl) (by kernel_rfl) ?_
        refine EQ.val (fun _ hw => (x_move rfl)) rfl ?_
        refine EQ.val (fun _ hw => (x_eql rfl rfl (by first | assumption | exact decide_eq_false (by omega)))) rfl ?_
        refine EQ.val (fun _ hw => (x_move rfl)) rfl ?_
        refine EQ.skip rfl rfl rfl rfl ?_
        refine EQ.skip rfl rfl rfl rfl ?_
        refine EQ.skip rfl rfl rfl rfl ?_
        refine EQ.skip rfl rfl rfl rfl ?_
        refine EQ.skip rfl rfl rfl rfl ?_
        refine EQ.skip rfl rfl rfl rfl ?_
        refine EQ.skip rfl rfl rfl rfl ?_
        refine EQ.skip rfl rfl rfl rfl ?_
        refine EQ.skip rfl rfl rfl rfl ?_
        refine EQ.skip rfl rfl rfl rfl ?_
        refine EQ.skip rfl rfl rfl rfl ?_
        refine EQ.skip rfl rfl rfl rfl ?_
        refine EQ.skip rfl rfl rfl rfl ?_
        refine EQ.skip rfl rfl rfl rfl ?_
        refine EQ.skip rfl rfl rfl rfl ?_
        refine EQ.skip rfl rfl rfl rfl ?_
        refine EQ.val (fun _ hw => (x_pick_f rfl rfl)) rfl ?_
        refine EQ.fin (fun w_ hw_ => ?_)
        replace q1 := q1.below hw_ q1.lt
        replace q2 := q2.below hw_ q2.lt
        replace qa16 := qa16.below hw_ qa16.lt
        replace hbw := Below.on hbw hw_ hbw.size
        clear hw_
        refine EX.seq ?_
        refine EC.no rfl ?_
        refine EC.skip ?_
        refine EX.seq ?_
        refine EC.seq ?_
        refine EC.seq ?_
        refine EC.region ?_
        refine EL.val (x_move rfl) rfl ?_
        refine EL.val (x_neq rfl rfl (by first | assumption | exact decide_eq_true (by omega))) rfl ?_
        refine EL.nil ?_
        refine EX.seq ?_
        refine EC.yes rfl ?_
        refine EC.seq ?_
        refine EC.region ?_
        refine EL.val (x_move rfl) rfl ?_
        refine EL.val (x_move rfl) rfl ?_
        refine EL.val (x_eql rfl rfl (by first | assumption | exact decide_eq_true (by omega))) rfl ?_
        refine EL.val (x_move rfl) rfl ?_
        refine EL.valg rfl rfl (ld_23 rfl (qa16.at (j := 0) rfl) (qa16.at (j := 1) rfl)) rfl ?_
        refine EL.valg rfl rfl (bd_23_) rfl ?_
        refine EL.valg rfl rfl (eql_23 (r := true) rfl rfl (by simp [hvr, bd0])) rfl ?_
        refine EL.val (x_pick_t rfl rfl) rfl ?_
        refine EL.val (x_move rfl) rfl ?_
        refine EL.callg rfl rfl cl_16 rfl (known_any _) ?_
        rintro e w19 ⟨rfl, hc19⟩
        refine ⟨_, rfl, ?_⟩
        replace q1 := q1.below hc19 q1.lt
        replace q2 := q2.below hc19 q2.lt
        replace qa16 := qa16.below hc19 qa16.lt
        replace hbw := Below.on hbw hc19 hbw.size
        clear hc19
        refine EL.val (x_pick_t rfl rfl) rfl ?_
        refine EL.val (x_assign rfl) rfl ?_
        refine EL.nil ?_
        refine EX.seq ?_
        refine EC.ret ?_
        refine EX.seq_ret ?_
        exact EX.done (res1 rfl rfl) ⟨rfl, hbw⟩
end Go.Proofs.Ytncnlhkmdljgpaa
