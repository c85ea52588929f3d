/- X19, ExX20, X20, ExX21, X21, ExX22, X22, WsKnown, ExX23, X23, ExX24, X24, ExX25, WsLift, X26, X28, WsRef, X29, ExX30: what WashFleetsProof needs of them (merged by trimpack.py). -/
import Derived.Test.YtdkedhcbdbpccaaFleetsT4
set_option linter.unusedVariables false
set_option linter.unusedSimpArgs false
namespace Go.Proofs.Ytdkedhcbdbpccaa
open Go Go.RowKit
theorem rep_bd {i : Nat} : bdsC (List.replicate (i + 1) bd0) = bdsC (List.replicate i bd0) ++ [.int .i64 0, .int .i64 0] := by
 unfold bdsC
 rw [List.replicate_succ', List.flatMap_append]
 rfl
theorem rep_int {i : Nat} : ints (List.replicate (i + 1) (-1)) = ints (List.replicate i (-1)) ++ [.int .i64 (-1)] := by
 unfold ints
 rw [List.replicate_succ', List.map_append]
 rfl
theorem own_cast' {w : World} {base e size n m : Nat} {A : Option Addr} {c : Nat} {xs xs' : List Value} (h : w.ownsRow base e size (.slice A n c) n xs) (hn : n = m) (hx : xs = xs') : w.ownsRow base e size (.slice A m c) m xs' := by subst hn; subst hx; exact h
set_option maxHeartbeats 1000000 in
theorem Clean_any {ru : Rules} {ua up : List Value} {vl va vp vk : Value} {w : World} {B : Nat} (hr : RdRules w B vl va vp vk ru ua up) (hB : B ≤ w.heap.size) (hro : RulesOk ru) :
  Calls Try.prog 57 #[rulesV vl va vp vk ru] w fun e w' => (∃ A1 c1 A2 c2, e = .returned (.agg #[.slice A1 ru.levels.length c1, .slice A2 ru.levels.length c2]) ∧ w'.ownsRow w.heap.size 24 2 (.slice A1 ru.levels.length c1) ru.levels.length (bdsC (cleanR ru.levels.length).res) ∧ w'.ownsRow w.heap.size 3 1 (.slice A2 ru.levels.length c2) ru.levels.length (ints (cleanR ru.levels.length).aft)) ∧ Below w.heap.size w w' := by
 obtain ⟨Al, cl, Aa, ca, Ap, cp, Ak, ck, rfl, rfl, rfl, rfl⟩ := hr.sh4;have hn8 := hro.n8;have hbw := Below.refl w.heap.size w
 unfold rulesV
 refine EC.enter 25 Try.func57 rfl rfl rfl (EC.seq (EC.region (EL.newP (bx_28 rfl) rfl ?_)));intro g1 w1 q1 hb1 hg1 hl1;have bhbw_1 := Nat.le_trans hbw.size hg1;replace hbw := bo_ hbw hb1;clear hb1 hg1 hl1;refine EL.newP al_62 rfl ?_;intro g2 w2 q2 hb2 hg2 hl2;have n1_2 := q1.na hg2;have bhbw_2 := Nat.le_trans hbw.size hg2;replace q1 := q1.bl hb2;replace hbw := bo_ hbw hb2;clear hb2 hg2 hl2;refine EL.nil (EX.seq (EC.seq (EC.region (EL.val (bd_62_) rfl (EL.newP al_62 rfl ?_)))));intro g3 w3 q3 hb3 hg3 hl3;have n1_3 := q1.na hg3;have n2_3 := q2.na hg3;have bhbw_3 := Nat.le_trans hbw.size hg3;replace q1 := q1.bl hb3;replace q2 := q2.bl hb3;replace hbw := bo_ hbw hb3;clear hb3 hg3 hl3;refine EL.store rfl rfl q3 sz_62 rfl rfl rfl rfl ?_;intro w4 hq4 hg4;replace q1 := q1.gr hg4 n1_3;replace q2 := q2.gr hg4 n2_3;replace hbw := below_store hbw hg4 bhbw_3;replace q3 := hq4;clear hg4 hq4;refine EL.nil (EX.seq (EC.seq (EC.seq (EC.region (EL.as rfl rfl (EL.nil (EX.seq (EC.block ?_))))))));refine EC.loopD [4, 6, 7, 8, 9, 10, 11, 12, 13, 14, 15, 16, 17, 18, 19, 20, 21, 22, 23] (fun x : Nat × Option Addr × Nat × Option Addr × Nat => [(4, .int .i64 (x.1 : Nat))]) (fun x W => x.1 ≤ ru.levels.length ∧ Blk W g1 28 #[.slice Al ru.levels.length cl, .int .i64 ru.fade.lo, .int .i64 ru.fade.hi, .slice Aa ru.allow.length ca, .slice Ap ru.apart.length cp, .slice Ak ru.kinds.length ck] ∧ Blk W g2 62 #[.slice none 0 0, .slice none 0 0] ∧ Blk W g3 62 #[.slice x.2.1 x.1 x.2.2.1, .slice x.2.2.2.1 x.1 x.2.2.2.2] ∧ W.ownsRow w.heap.size 24 2 (.slice x.2.1 x.1 x.2.2.1) x.1 (bdsC (List.replicate x.1 bd0)) ∧ W.ownsRow w.heap.size 3 1 (.slice x.2.2.2.1 x.1 x.2.2.2.2) x.1 (ints (List.replicate x.1 (-1))) ∧ Below w.heap.size w W) (fun x => ru.levels.length - x.1) (0, none, 0, none, 0) ⟨Nat.zero_le _, q1, q2, q3, World.ownsRow_nil _ _ _ _, World.ownsRow_nil _ _ _ _, hbw⟩ ⟨rfl, trivial⟩ ?_
 clear q1 q2 q3 hbw
 rintro ⟨i, A1, c1, A2, c2⟩ wx ⟨hi, q1, q2, q3, ho1, ho2, hbw⟩
 dsimp only at hi ho1 ho2 q3
 by_cases hlt : i < ru.levels.length
 ·
  refine EC.seq (EC.seq (EC.region (EL.mv rfl rfl (EL.val (fa_28_0 rfl) rfl (EL.val (ld_22 rfl (q1.at (j := 0) rfl)) rfl (EL.val (ln_22 rfl) rfl ?_))))));refine EL.val (x_lss rfl rfl (decide_eq_true (show (((i : Nat) : Int) < ((ru.levels.length : Nat) : Int)) by omega))) rfl ?_
  refine EL.nil (EX.seq (EC.yes rfl (EC.skip (EX.seq (EC.seq (EC.block ?_))))));have hCW := hbw.size;refine EC.regionS [[], [0], [], [2], [0, 1, 2, 3], [], [5], [], [0, 1, 2, 3, 4, 5, 6, 7], [0, 1, 2, 3, 4, 5, 6], [0, 1, 2, 3, 4, 5, 6, 7, 8, 9], [0, 1, 2, 3, 4, 5, 6, 7, 8, 9, 10], [0, 1, 2, 3, 4, 5, 6, 7, 8, 9, 10, 11]] 10 [] [4, 8] (fun fl w_ => Kp w.heap.size [24, 3] wx w_ ∧ (fl 4 = false → w_.ownsRow w.heap.size 24 2 (.slice A1 i c1) i (bdsC (List.replicate i bd0))) ∧ (fl 8 = false → w_.ownsRow w.heap.size 3 1 (.slice A2 i c2) i (ints (List.replicate i (-1))))) (phiS (fun i_ r => match i_ with | 0 => r 0 = .pointer (some ⟨g3, 0, none⟩) | 1 => r 1 = .slice A1 i c1 | 2 => r 2 = .agg #[.int .i64 0, .int .i64 0] | 5 => r 5 = .pointer (some ⟨g3, 1, none⟩) | 6 => r 6 = .slice A2 i c2 | 9 => r 9 = .pointer (some ⟨g3, 0, none⟩) | _ => True) [(3, fun fl r w_ => fl 4 = false → (∃ g_, r 3 = .slice (some ⟨g_, 0, none⟩) 1 1 ∧ Blk w_ g_ 24 #[.int .i64 0, .int .i64 0] ∧ wx.heap.size ≤ g_)), (4, fun _ r w_ => ∃ A c, r 4 = .slice A (i + 1) c ∧ w_.ownsRow w.heap.size 24 2 (.slice A (i + 1) c) (i + 1) ((bdsC (List.replicate i bd0)) ++ [.int .i64 0, .int .i64 0])), (7, fun fl r w_ => fl 8 = false → (∃ g_, r 7 = .slice (some ⟨g_, 0, none⟩) 1 1 ∧ Blk w_ g_ 3 #[.int .i64 (-1)] ∧ wx.heap.size ≤ g_)), (8, fun _ r w_ => ∃ A c, r 8 = .slice A (i + 1) c ∧ w_.ownsRow w.heap.size 3 1 (.slice A (i + 1) c) (i + 1) ((ints (List.replicate i (-1))) ++ [.int .i64 (-1)]))]) (by kernel_rfl) rfl rfl (by intro i hi; simp at hi; rcases hi with rfl | rfl <;> exact ⟨by simp, by omega⟩) ⟨fun _ _ => ⟨⟨rfl, rfl, rfl, Nat.le_refl _, fun _ _ => rfl, fun _ _ _ h _ => h⟩, fun _ => ho1, fun _ => ho2⟩, fun _ _ _ ⟨hK, h1, h2⟩ hb => ⟨hK.trans (Kp.of_below hb (Nat.le_trans hCW hK.size)), fun h => own_below (h1 h) hb (Nat.le_refl _), fun h => own_below (h2 h) hb (Nat.le_refl _)⟩, fun _ _ h => h.1.size⟩ (phiS_cons (monoS_till mono_bs) (phiS_cons (monoS_cp (f := fun A c => .slice A (i + 1) c)) (phiS_cons (monoS_till mono_bs) (phiS_cons (monoS_cp (f := fun A c => .slice A (i + 1) c)) (phiS_nil))))) (fun i_ hi_ hs_ => ?_) (fun i_ hi_ => ?_) ?_
  ·match i_, hi_ with
   | 0, _ =>
    intro val fl w1 a hb ha hd hfl;obtain ⟨hK, h1, h2⟩ := hb;have ha := ha.s0 (d := 3) rfl
    exact ss_val ha rfl rfl (fa_62_0 rfl) rfl rfl
   | 1, _ =>
    intro val fl w1 a hb ha hd hfl;obtain ⟨hK, h1, h2⟩ := hb;have e0 : val 0 = _ := hd 0 (memB_mem.1 rfl);have ha := ha.s1 (d := 13) rfl e0
    exact ss_val ha rfl rfl (ld_60 rfl ((hK.blk _ _ _ q3 rfl).at (j := 0) rfl)) rfl rfl
   | 2, _ =>
    intro val fl w1 a hb ha hd hfl;obtain ⟨hK, h1, h2⟩ := hb;have ha := ha.sub (Sub.nil _)
    exact ss_val ha rfl rfl (bd_24_) rfl rfl
   | 3, _ =>
    intro val fl w1 a hb ha hd hfl;obtain ⟨hK, h1, h2⟩ := hb;have e2 : val 2 = _ := hd 2 (memB_mem.1 rfl);have ha := ha.s1 (d := 15) rfl e2
    exact ss_newS ha rfl rfl (bs_60_1 rfl) rfl (fun g w' hq _ hge => fun _ => ⟨g, rfl, hq, Nat.le_trans hK.size hge⟩)
   | 4, _ =>
    exact absurd (by simp) hs_
   | 5, _ =>
    intro val fl w1 a hb ha hd hfl;obtain ⟨hK, h1, h2⟩ := hb;have ha := ha.s0 (d := 3) rfl
    exact ss_val ha rfl rfl (fa_62_1 rfl) rfl rfl
   | 6, _ =>
    intro val fl w1 a hb ha hd hfl;obtain ⟨hK, h1, h2⟩ := hb;have e5 : val 5 = _ := hd 5 (memB_mem.1 rfl);have ha := ha.s1 (d := 18) rfl e5
    exact ss_val ha rfl rfl (ld_22 rfl ((hK.blk _ _ _ q3 rfl).at (j := 1) rfl)) rfl rfl
   | 7, _ =>
    intro val fl w1 a hb ha hd hfl;obtain ⟨hK, h1, h2⟩ := hb;have ha := ha.sub (Sub.nil _)
    exact ss_newS ha rfl rfl (bs_22_1 rfl) rfl (fun g w' hq _ hge => fun _ => ⟨g, rfl, hq, Nat.le_trans hK.size hge⟩)
   | 8, _ =>
    exact absurd (by simp) hs_
   | 9, _ =>
    intro val fl w1 a hb ha hd hfl;obtain ⟨hK, h1, h2⟩ := hb;have ha := ha.s0 (d := 3) rfl
    exact ss_val ha rfl rfl (fa_62_0 rfl) rfl rfl
   | k + 10, h => exact absurd h (by omega)
  ·simp only [List.mem_cons, List.not_mem_nil, or_false] at hi_; rcases hi_ with rfl | rfl
   ·
    intro val fl w1 a hb hfi ha hd hfl;obtain ⟨hK, h1, h2⟩ := hb;have e1 : val 1 = _ := hd 1 (memB_mem.1 rfl);obtain ⟨g3_, e3, q3_, h3_⟩ := hd 3 (memB_mem.1 rfl) hfi;change val 3 = _ at e3;have ha := ha.s2 (d := 16) (e := 14) rfl e3 rfl e1;refine ts_push bdR_elem ha rfl rfl rfl (h1 hfi) (rd_one (l := [.int .i64 0, .int .i64 0]) q3_ rfl) (by intro u hu; simp only [List.mem_cons, List.not_mem_nil, or_false] at hu; rcases hu with rfl | rfl <;> rfl) (by omega) rfl (Nat.le_trans hCW hK.size) ?_
    intro v' w' ho' hgr hat;obtain ⟨A', c', rfl, _⟩ := (Rd.of_own ho').shape;refine ⟨_, rfl, hgr.size, ⟨hK.trans (Kp.own (h1 hfi) rfl (Nat.le_refl _) (Nat.le_trans hCW hK.size) hgr), (fun h => by rw [fset_eq] at h; cases h), fun h => own_grown (h2 (by rwa [fset_ne rfl] at h)) (h1 hfi) rfl hgr⟩, ⟨A', c', rfl, ho'⟩, fun j _ hj hn hA => ?_⟩
    exact phiS_cons_st (C := fun j => j ≠ 4 ∧ 4 ∉ clsAt [[], [0], [], [2], [0, 1, 2, 3], [], [5], [], [0, 1, 2, 3, 4, 5, 6, 7], [0, 1, 2, 3, 4, 5, 6], [0, 1, 2, 3, 4, 5, 6, 7, 8, 9], [0, 1, 2, 3, 4, 5, 6, 7, 8, 9, 10], [0, 1, 2, 3, 4, 5, 6, 7, 8, 9, 10, 11]] j) (fun _ _ h => by rw [fset_eq] at h; cases h) (phiS_cons_st (C := fun j => j ≠ 4 ∧ 4 ∉ clsAt [[], [0], [], [2], [0, 1, 2, 3], [], [5], [], [0, 1, 2, 3, 4, 5, 6, 7], [0, 1, 2, 3, 4, 5, 6], [0, 1, 2, 3, 4, 5, 6, 7, 8, 9], [0, 1, 2, 3, 4, 5, 6, 7, 8, 9, 10], [0, 1, 2, 3, 4, 5, 6, 7, 8, 9, 10, 11]] j) (fun hc => absurd rfl hc.1) (phiS_cons_st (C := fun j => j ≠ 4 ∧ 4 ∉ clsAt [[], [0], [], [2], [0, 1, 2, 3], [], [5], [], [0, 1, 2, 3, 4, 5, 6, 7], [0, 1, 2, 3, 4, 5, 6], [0, 1, 2, 3, 4, 5, 6, 7, 8, 9], [0, 1, 2, 3, 4, 5, 6, 7, 8, 9, 10], [0, 1, 2, 3, 4, 5, 6, 7, 8, 9, 10, 11]] j) (fun _ hh h => let ⟨g, a1, a2, a3⟩ := hh (by rwa [fset_ne rfl] at h); ⟨g, a1, blk_grown a2 (h1 hfi) rfl hgr, a3⟩) (phiS_cons_st (C := fun j => j ≠ 4 ∧ 4 ∉ clsAt [[], [0], [], [2], [0, 1, 2, 3], [], [5], [], [0, 1, 2, 3, 4, 5, 6, 7], [0, 1, 2, 3, 4, 5, 6], [0, 1, 2, 3, 4, 5, 6, 7, 8, 9], [0, 1, 2, 3, 4, 5, 6, 7, 8, 9, 10], [0, 1, 2, 3, 4, 5, 6, 7, 8, 9, 10, 11]] j) (fun hc => absurd (memB_mem.1 rfl) hc.2) (fun _ _ h => h)))) j ⟨hj, hn⟩
   ·
    intro val fl w1 a hb hfi ha hd hfl;obtain ⟨hK, h1, h2⟩ := hb;have e6 : val 6 = _ := hd 6 (memB_mem.1 rfl);obtain ⟨g7_, e7, q7_, h7_⟩ := hd 7 (memB_mem.1 rfl) hfi;change val 7 = _ at e7;have ha := ha.s2 (d := 20) (e := 19) rfl e7 rfl e6;refine ts_push ir_elem ha rfl rfl rfl (h2 hfi) (rd_one (l := [.int .i64 (-1)]) q7_ rfl) (by intro u hu; simp only [List.mem_cons, List.not_mem_nil, or_false] at hu; rcases hu with rfl <;> rfl) (by omega) rfl (Nat.le_trans hCW hK.size) ?_
    intro v' w' ho' hgr hat;obtain ⟨A', c', rfl, _⟩ := (Rd.of_own ho').shape;refine ⟨_, rfl, hgr.size, ⟨hK.trans (Kp.own (h2 hfi) rfl (Nat.le_refl _) (Nat.le_trans hCW hK.size) hgr), (fun h => own_grown (h1 (by rwa [fset_ne rfl] at h)) (h2 hfi) rfl hgr), (fun h => by rw [fset_eq] at h; cases h)⟩, ⟨A', c', rfl, ho'⟩, fun j _ hj hn hA => ?_⟩
    exact phiS_cons_st (C := fun j => j ≠ 8 ∧ 8 ∉ clsAt [[], [0], [], [2], [0, 1, 2, 3], [], [5], [], [0, 1, 2, 3, 4, 5, 6, 7], [0, 1, 2, 3, 4, 5, 6], [0, 1, 2, 3, 4, 5, 6, 7, 8, 9], [0, 1, 2, 3, 4, 5, 6, 7, 8, 9, 10], [0, 1, 2, 3, 4, 5, 6, 7, 8, 9, 10, 11]] j) (fun _ hh h => let ⟨g, a1, a2, a3⟩ := hh (by rwa [fset_ne rfl] at h); ⟨g, a1, blk_grown a2 (h2 hfi) rfl hgr, a3⟩) (phiS_cons_st (C := fun j => j ≠ 8 ∧ 8 ∉ clsAt [[], [0], [], [2], [0, 1, 2, 3], [], [5], [], [0, 1, 2, 3, 4, 5, 6, 7], [0, 1, 2, 3, 4, 5, 6], [0, 1, 2, 3, 4, 5, 6, 7, 8, 9], [0, 1, 2, 3, 4, 5, 6, 7, 8, 9, 10], [0, 1, 2, 3, 4, 5, 6, 7, 8, 9, 10, 11]] j) (fun _ ⟨A, c, a1, a2⟩ => ⟨A, c, a1, own_grown a2 (h2 hfi) rfl hgr⟩) (phiS_cons_st (C := fun j => j ≠ 8 ∧ 8 ∉ clsAt [[], [0], [], [2], [0, 1, 2, 3], [], [5], [], [0, 1, 2, 3, 4, 5, 6, 7], [0, 1, 2, 3, 4, 5, 6], [0, 1, 2, 3, 4, 5, 6, 7, 8, 9], [0, 1, 2, 3, 4, 5, 6, 7, 8, 9, 10], [0, 1, 2, 3, 4, 5, 6, 7, 8, 9, 10, 11]] j) (fun _ _ h => by rw [fset_eq] at h; cases h) (phiS_cons_st (C := fun j => j ≠ 8 ∧ 8 ∉ clsAt [[], [0], [], [2], [0, 1, 2, 3], [], [5], [], [0, 1, 2, 3, 4, 5, 6, 7], [0, 1, 2, 3, 4, 5, 6], [0, 1, 2, 3, 4, 5, 6, 7, 8, 9], [0, 1, 2, 3, 4, 5, 6, 7, 8, 9, 10], [0, 1, 2, 3, 4, 5, 6, 7, 8, 9, 10, 11]] j) (fun hc => absurd rfl hc.1) (fun _ _ h => h)))) j ⟨hj, hn⟩
  ·intro val fl wR5 hfl hb halc hd
   obtain ⟨hK, _, _⟩ := hb;have e0 : val 0 = _ := hd 0 (by omega)
   have e1 : val 1 = _ := hd 1 (by omega)
   have e2 : val 2 = _ := hd 2 (by omega)
   obtain ⟨B1, d1, e4, hn1⟩ := hd 4 (by omega)
   have e5 : val 5 = _ := hd 5 (by omega)
   have e6 : val 6 = _ := hd 6 (by omega)
   obtain ⟨B2, d2, e8, hn2⟩ := hd 8 (by omega)
   have e9 : val 9 = _ := hd 9 (by omega)
   refine EL.ends (cs := [_, _, _, val 3, _, _, _, val 7, _, _]) ⟨e0, e1, e2, rfl, e4, e5, e6, rfl, e8, e9, trivial⟩ rfl ?_;replace q1 := hK.blk _ _ _ q1 rfl;replace q2 := hK.blk _ _ _ q2 rfl;replace q3 := hK.blk _ _ _ q3 rfl;clear ho1 ho2;have ho1 : wR5.ownsRow w.heap.size 24 2 (.slice B1 (i + 1) d1) (i + 1) ((bdsC (List.replicate i bd0)) ++ [.int .i64 0, .int .i64 0]) := hn1;have ho2 : wR5.ownsRow w.heap.size 3 1 (.slice B2 (i + 1) d2) (i + 1) ((ints (List.replicate i (-1))) ++ [.int .i64 (-1)]) := hn2;clear hn1 hn2;replace hbw := hbw.trans hK.below;clear hK;refine EL.store rfl rfl q3 sz_60 rfl rfl rfl rfl ?_;intro w5 hq5 hg5;replace q1 := q1.gr hg5 n1_3;replace q2 := q2.gr hg5 n2_3;replace ho1 := own_type ho1 q3 rfl hg5;replace ho2 := own_type ho2 q3 rfl hg5;replace hbw := below_store hbw hg5 bhbw_3;replace q3 := hq5;clear hg5 hq5;refine EL.val (fa_62_1 rfl) rfl (EL.store rfl rfl q3 sz_22 rfl rfl rfl rfl ?_);intro w6 hq6 hg6;replace q1 := q1.gr hg6 n1_3;replace q2 := q2.gr hg6 n2_3;replace ho1 := own_type ho1 q3 rfl hg6;replace ho2 := own_type ho2 q3 rfl hg6;replace hbw := below_store hbw hg6 bhbw_3;replace q3 := hq6;clear hg6 hq6;refine EL.nil (EX.blk (EX.seq (EC.region (EL.mv rfl rfl ?_))));refine EL.val (x_add rfl rfl (c := ((i + 1 : Nat) : Int)) ((IntWalk.i64_in _ ⟨by first | omega | (simp only; omega), by first | omega | (simp only; omega)⟩).trans (by first | omega | (simp only; omega)))) rfl ?_
   refine EL.as rfl rfl (EL.nil ?_);refine EX.roundD (i + 1, B1, d1, B2, d2) ⟨rfl, trivial⟩ (by repeat first | with_reducible exact .refl _ | refine sp_ rfl ?_ | exact .refl _ | refine sd_ rfl ?_ | refine sn_ ?_) ⟨hlt, q1, q2, q3, own_cast ho1 rfl rep_bd.symm, own_cast ho2 rfl rep_int.symm, hbw⟩ (by simp only; omega)
 ·
  have hxe : i = ru.levels.length := by omega
  refine EC.seq (EC.seq (EC.region (EL.mv rfl rfl (EL.val (fa_28_0 rfl) rfl (EL.val (ld_22 rfl (q1.at (j := 0) rfl)) rfl (EL.val (ln_22 rfl) rfl ?_))))));refine EL.val (x_lss rfl rfl (decide_eq_false (show ¬(((i : Nat) : Int) < ((ru.levels.length : Nat) : Int)) by omega))) rfl ?_
  refine EL.nil (EX.seq (EC.no rfl (EC.exit (EX.seq_exit (EX.seq_exit (EX.blk_here (EX.seq (EC.seq (EC.region ?_)))))))));refine EL.val (ld_62 rfl (q3.at (j := 0) rfl) (q3.at (j := 1) rfl)) rfl (EL.store rfl rfl q2 sz_62 rfl rfl rfl rfl ?_);intro w7 hq7 hg7;replace q1 := q1.gr hg7 n1_2;replace q3 := q3.gr hg7 n2_3.symm;replace ho1 := own_type ho1 q2 rfl hg7;replace ho2 := own_type ho2 q2 rfl hg7;replace hbw := below_store hbw hg7 bhbw_2;replace q2 := hq7;clear hg7 hq7;refine EL.nil (EX.seq (EC.ret ?_))
  exact EX.done (resc1 rfl rfl (lv_62 (q2.at (j := 0) rfl) (q2.at (j := 1) rfl))) ⟨⟨A1, c1, A2, c2, by rw [hxe], own_cast' ho1 hxe (by rw [hxe]; rfl), own_cast' ho2 hxe (by rw [hxe]; rfl)⟩, hbw⟩
theorem less_any {x y : Bd} (hx : (0 ≤ x.lo ∧ x.lo ≤ 1000000) ∧ 0 ≤ x.hi ∧ x.hi ≤ 1000000) (hy : (0 ≤ y.lo ∧ y.lo ≤ 1000000) ∧ 0 ≤ y.hi ∧ y.hi ≤ 1000000) (w : World) :
  Calls Try.prog 81 #[.agg #[.int .i64 x.lo, .int .i64 x.hi], .agg #[.int .i64 y.lo, .int .i64 y.hi]] w fun e w' => e = .returned (.agg #[.int .i64 (lessR x y).lo, .int .i64 (lessR x y).hi]) ∧ Below w.heap.size w w' := by
 obtain ⟨⟨h1, h2⟩, h3, h4⟩ := hx;obtain ⟨⟨h5, h6⟩, h7, h8⟩ := hy;have hbw := Below.refl w.heap.size w;refine EC.enter 18 Try.func81 rfl rfl rfl (EC.seq (EC.region (EL.newP (bx_24 rfl) rfl ?_)));intro g1 w1 q1 hb1 hg1 hl1;have bhbw_1 := Nat.le_trans hbw.size hg1;replace hbw := bo_ hbw hb1;clear hb1 hg1 hl1;refine EL.newP (bx_24 rfl) rfl ?_;intro g2 w2 q2 hb2 hg2 hl2;have n1_2 := q1.na hg2;have bhbw_2 := Nat.le_trans hbw.size hg2;replace q1 := q1.bl hb2;replace hbw := bo_ hbw hb2;clear hb2 hg2 hl2;refine EL.newP al_24 rfl ?_;intro g3 w3 q3 hb3 hg3 hl3;have n1_3 := q1.na hg3;have n2_3 := q2.na hg3;have bhbw_3 := Nat.le_trans hbw.size hg3;replace q1 := q1.bl hb3;replace q2 := q2.bl hb3;replace hbw := bo_ hbw hb3;clear hb3 hg3 hl3;refine EL.nil (EX.seq (EC.seq (EC.region (EL.val (fa_24_0 rfl) rfl (EL.val (ld_3 rfl (q1.at (j := 0) rfl)) rfl (EL.val (fa_24_1 rfl) rfl (EL.val (ld_3 rfl (q2.at (j := 1) rfl)) rfl ?_)))))));refine EL.val (x_sub rfl rfl (by first | assumption | exact IntWalk.i64_in _ ⟨by omega, by omega⟩)) rfl ?_
 refine EL.val (mm_max rfl rfl rfl) rfl (EL.val (fa_24_1 rfl) rfl (EL.val (ld_3 rfl (q1.at (j := 1) rfl)) rfl (EL.val (fa_24_0 rfl) rfl (EL.val (ld_3 rfl (q2.at (j := 0) rfl)) rfl ?_))));refine EL.val (x_sub rfl rfl (by first | assumption | exact IntWalk.i64_in _ ⟨by omega, by omega⟩)) rfl ?_
 refine EL.val (mm_max rfl rfl rfl) rfl (EL.val (bd_24_0_1 rfl rfl) rfl (EL.store rfl rfl q3 sz_24 rfl rfl rfl rfl ?_));intro w4 hq4 hg4;replace q1 := q1.gr hg4 n1_3;replace q2 := q2.gr hg4 n2_3;replace hbw := below_store hbw hg4 bhbw_3;replace q3 := hq4;clear hg4 hq4;refine EL.nil (EX.seq (EC.ret ?_))
 exact EX.done (resc1 rfl rfl (lv_24 (q3.at (j := 0) rfl) (q3.at (j := 1) rfl))) ⟨rfl, hbw⟩
theorem bds_cells (l : List Bd) (k : Nat) (hk : k < l.length) (w : World) (B : Nat) (A : Option Addr) (n c : Nat) (hr : Rd w B 2 (.slice A n c) n (bdsC l)) :
  ∃ b off, A = some ⟨b, off, none⟩ ∧ b < B ∧ w.cell? ⟨b, off + k * 2, none⟩ = some (.int .i64 (l.getD k bd0).lo) ∧ w.cell? ⟨b, off + k * 2 + 1, none⟩ = some (.int .i64 (l.getD k bd0).hi) := by
 have hl : n * 2 = l.length * 2 := by rw [← hr.len, bdsC_len]
 obtain ⟨b, off, rfl, hb, hc⟩ := hr.at_ (by omega)
 have e : l.getD k bd0 = l[k] := by simp [hk]
 rw [e];have g := fun j hj => flat_get bdC_len l k hk j hj
 exact ⟨b, off, rfl, hb, hc (k * 2) _ (g 0 (by omega)), hc (k * 2 + 1) _ (g 1 (by omega))⟩
theorem own_bx {w w' : World} {base e size n g : Nat} {v : Value} {xs : List Value} (h : w.ownsRow base e size v n xs) (hn : ∀ k, v.ownBlock = some k → k ≠ g) (hg : w.grownBy w' (some g)) : w'.ownsRow base e size v n xs :=
 h.kept hg (by
  cases e0 : v.ownBlock with
  | none => exact .inl rfl
  | some k => exact .inr fun e1 => hn k e0 (Option.some.inj e1))
theorem map_bd {f : Nat → Bd} {i : Nat} : bdsC ((List.range (i + 1)).map f) = bdsC ((List.range i).map f) ++ [.int .i64 (f i).lo, .int .i64 (f i).hi] := by
 unfold bdsC
 rw [List.range_succ, List.map_append, List.flatMap_append]
 rfl
theorem map_int {f : Nat → Int} {i : Nat} : ints ((List.range (i + 1)).map f) = ints ((List.range i).map f) ++ [.int .i64 (f i)] := by
 unfold ints
 rw [List.range_succ, List.map_append, List.map_append]
 rfl
theorem ev_one {ru : Rules} {x : Ev} (h : evB ru x = true) : (x.kind = 2 ∧ ∃ k : Nat, x.number = ((k : Nat) : Int) ∧ k < ru.kinds.length) ∨ (x.kind = 1 ∧ ∃ k : Nat, x.number = ((k : Nat) : Int) ∧ k < ru.levels.length) := ev_at (l := [x]) (by simp [h]) (x := 0) (by simp)
/-- a tank of the document, within its bounds -/
structure RtOk (n k : Nat) (t : RT) : Prop where
 rl : t.res.length = n
 al : t.aft.length = n
 bd : ∀ i, (0 ≤ (t.res.getD i bd0).lo ∧ (t.res.getD i bd0).lo ≤ 1000000) ∧ 0 ≤ (t.res.getD i bd0).hi ∧ (t.res.getD i bd0).hi ≤ 1000000
 af : ∀ i, -1 ≤ t.aft.getD i 0 ∧ t.aft.getD i 0 ≤ k
set_option maxHeartbeats 2000000 in
theorem Step_any {ru : Rules} {ua up : List Value} {vl va vp vk : Value} {w : World} {B : Nat} (hr : RdRules w B vl va vp vk ru ua up) (hB : B ≤ w.heap.size) (hro : RulesOk ru) {t : RT} {kk : Nat} (ht : RtOk ru.levels.length kk t) (hkk : kk ≤ 1000000) {T1 T2 : Option Addr} {cT1 cT2 C : Nat} (h1 : Rd w C 2 (.slice T1 ru.levels.length cT1) ru.levels.length (bdsC t.res)) (h2 : Rd w C 1 (.slice T2 ru.levels.length cT2) ru.levels.length (ints t.aft)) (hC : C ≤ w.heap.size) {x : Ev} (hx : evB ru x = true) :
  Calls Try.prog 58 #[rulesV vl va vp vk ru, .agg #[.slice T1 ru.levels.length cT1, .slice T2 ru.levels.length cT2], .agg #[.int .i64 x.kind, .int .i64 x.number]] w fun e w' => (∃ A1 c1 A2 c2, e = .returned (.agg #[.slice A1 ru.levels.length c1, .slice A2 ru.levels.length c2]) ∧ w'.ownsRow w.heap.size 24 2 (.slice A1 ru.levels.length c1) ru.levels.length (bdsC (stepR ru t x).res) ∧ w'.ownsRow w.heap.size 3 1 (.slice A2 ru.levels.length c2) ru.levels.length (ints (stepR ru t x).aft)) ∧ Below w.heap.size w w' := by
 obtain ⟨Al, cl, Aa, ca, Ap, cp, Ak, ck, rfl, rfl, rfl, rfl⟩ := hr.sh4;have hn8 := hro.n8;have hbw := Below.refl w.heap.size w
 unfold rulesV
 refine EC.enter 77 Try.func58 rfl rfl rfl (EC.seq (EC.region (EL.newP (bx_28 rfl) rfl ?_)));intro g1 w1 q1 hb1 hg1 hl1;have bhbw_1 := Nat.le_trans hbw.size hg1;replace hbw := bo_ hbw hb1;clear hb1 hg1 hl1;refine EL.newP (bx_62 rfl) rfl ?_;intro g2 w2 q2 hb2 hg2 hl2;have n1_2 := q1.na hg2;have bhbw_2 := Nat.le_trans hbw.size hg2;replace q1 := q1.bl hb2;replace hbw := bo_ hbw hb2;clear hb2 hg2 hl2;refine EL.newP (bx_50 rfl) rfl ?_;intro g3 w3 q3 hb3 hg3 hl3;have n1_3 := q1.na hg3;have n2_3 := q2.na hg3;have bhbw_3 := Nat.le_trans hbw.size hg3;replace q1 := q1.bl hb3;replace q2 := q2.bl hb3;replace hbw := bo_ hbw hb3;clear hb3 hg3 hl3;refine EL.newP al_62 rfl ?_;intro g4 w4 q4 hb4 hg4 hl4;have n1_4 := q1.na hg4;have n2_4 := q2.na hg4;have n3_4 := q3.na hg4;have bhbw_4 := Nat.le_trans hbw.size hg4;replace q1 := q1.bl hb4;replace q2 := q2.bl hb4;replace q3 := q3.bl hb4;replace hbw := bo_ hbw hb4;clear hb4 hg4 hl4;refine EL.nil (EX.seq (EC.seq (EC.region (EL.val (bd_62_) rfl (EL.newP al_62 rfl ?_)))));intro g5 w5 q5 hb5 hg5 hl5;have n1_5 := q1.na hg5;have n2_5 := q2.na hg5;have n3_5 := q3.na hg5;have n4_5 := q4.na hg5;have bhbw_5 := Nat.le_trans hbw.size hg5;replace q1 := q1.bl hb5;replace q2 := q2.bl hb5;replace q3 := q3.bl hb5;replace q4 := q4.bl hb5;replace hbw := bo_ hbw hb5;clear hb5 hg5 hl5;refine EL.store rfl rfl q5 sz_62 rfl rfl rfl rfl ?_;intro w6 hq6 hg6;replace q1 := q1.gr hg6 n1_5;replace q2 := q2.gr hg6 n2_5;replace q3 := q3.gr hg6 n3_5;replace q4 := q4.gr hg6 n4_5;replace hbw := below_store hbw hg6 bhbw_5;replace q5 := hq6;clear hg6 hq6;refine EL.nil (EX.seq (EC.seq (EC.seq (EC.region (EL.as rfl rfl (EL.nil (EX.seq (EC.block ?_))))))));refine EC.loopD [8, 9, 10, 12, 13, 14, 15, 16, 17, 18, 19, 20, 21, 22, 23, 24, 25, 26, 27, 28, 29, 30, 31, 32, 33, 34, 35, 36, 37, 38, 39, 40, 41, 42, 43, 44, 45, 46, 47, 48, 49, 50, 51, 52, 53, 54, 55, 56, 57, 58, 59, 60, 61, 62, 63, 64, 65, 66, 67, 68, 69, 70, 71, 72, 73, 74, 75] (fun y : Nat × Option Addr × Nat × Option Addr × Nat => [(8, .int .i64 (y.1 : Nat))]) (fun y W => y.1 ≤ ru.levels.length ∧ Blk W g1 28 #[.slice Al ru.levels.length cl, .int .i64 ru.fade.lo, .int .i64 ru.fade.hi, .slice Aa ru.allow.length ca, .slice Ap ru.apart.length cp, .slice Ak ru.kinds.length ck] ∧ Blk W g2 62 #[.slice T1 ru.levels.length cT1, .slice T2 ru.levels.length cT2] ∧ Blk W g3 50 #[.int .i64 x.kind, .int .i64 x.number] ∧ Blk W g4 62 #[.slice none 0 0, .slice none 0 0] ∧ Blk W g5 62 #[.slice y.2.1 y.1 y.2.2.1, .slice y.2.2.2.1 y.1 y.2.2.2.2] ∧ W.ownsRow w.heap.size 24 2 (.slice y.2.1 y.1 y.2.2.1) y.1 (bdsC ((List.range y.1).map (resR ru t x))) ∧ W.ownsRow w.heap.size 3 1 (.slice y.2.2.2.1 y.1 y.2.2.2.2) y.1 (ints ((List.range y.1).map (aftR t x))) ∧ Below w.heap.size w W) (fun y => ru.levels.length - y.1) (0, none, 0, none, 0) ⟨Nat.zero_le _, q1, q2, q3, q4, q5, World.ownsRow_nil _ _ _ _, World.ownsRow_nil _ _ _ _, hbw⟩ ⟨rfl, trivial⟩ ?_
 clear q1 q2 q3 q4 q5 hbw
 rintro ⟨i, A1, c1, A2, c2⟩ wx ⟨hi, q1, q2, q3, q4, q5, ho1, ho2, hbw⟩
 dsimp only at hi ho1 ho2 q5
 by_cases hlt : i < ru.levels.length
 ·
  obtain ⟨tb, to, eT1, _, d0, d1⟩ := bds_cells t.res i (by rw [ht.rl]; exact hlt) wx C _ _ _ (h1.below (hbw.mono hC))
  obtain ⟨ub, uo, eT2, _, d2⟩ := ints_cells t.aft i (by rw [ht.al]; exact hlt) wx C _ _ _ (h2.below (hbw.mono hC))
  obtain ⟨hbb1, hbb2⟩ := ht.bd i;obtain ⟨haf1, haf2⟩ := ht.af i;have hlo : ∀ k, (Value.slice A1 i c1).ownBlock = some k → k < wx.heap.size := fun k hk => (ho1.lt k hk).2
  refine EC.seq (EC.seq (EC.region (EL.mv rfl rfl (EL.val (fa_62_0 rfl) rfl (EL.val (ld_60 rfl (q2.at (j := 0) rfl)) rfl (EL.val (ln_60 rfl) rfl ?_))))));refine EL.val (x_lss rfl rfl (decide_eq_true (show (((i : Nat) : Int) < ((ru.levels.length : Nat) : Int)) by omega))) rfl ?_
  refine EL.nil (EX.seq (EC.yes rfl (EC.skip (EX.seq (EC.seq (EC.block (EC.seq ?_)))))));have lt_1 := q1.lt;have lt_2 := q2.lt;have lt_3 := q3.lt;have lt_4 := q4.lt;have lt_5 := q5.lt;refine EC.regionS [[], [0], [], [0, 1, 2], [0, 1, 2, 3], [], [5], [], [5, 6, 7], [5, 6, 7, 8], [], [0, 1, 2, 3, 4, 10], [0, 1, 2, 3, 4, 5, 6, 7, 8, 9, 10, 11]] 12 [10] [11] (fun _ w_ => Below wx.heap.size wx w_) (phiS (fun i_ r => match i_ with | 0 => r 0 = .pointer (some ⟨g2, 0, none⟩) | 1 => r 1 = .slice T1 ru.levels.length cT1 | 2 => r 2 = .int .i64 (i : Nat) | 3 => r 3 = .pointer (some ⟨tb, to + i * 2, none⟩) | 4 => r 4 = .agg #[.int .i64 (t.res.getD i bd0).lo, .int .i64 (t.res.getD i bd0).hi] | 5 => r 5 = .pointer (some ⟨g2, 1, none⟩) | 6 => r 6 = .slice T2 ru.levels.length cT2 | 7 => r 7 = .int .i64 (i : Nat) | 8 => r 8 = .pointer (some ⟨ub, uo + i, none⟩) | 9 => r 9 = .int .i64 (t.aft.getD i 0) | _ => True) [(10, fun fl r w_ => ∃ g_, r 10 = .pointer (some ⟨g_, 0, none⟩) ∧ wx.heap.size ≤ g_ ∧ (fl 11 = false → Blk w_ g_ 24 #[.int .i64 0, .int .i64 0])), (11, fun _ r w_ => ∃ g_, r 10 = .pointer (some ⟨g_, 0, none⟩) ∧ Blk w_ g_ 24 #[.int .i64 (t.res.getD i bd0).lo, .int .i64 (t.res.getD i bd0).hi])]) (by kernel_rfl) rfl rfl (by intro i hi; simp at hi; first | (subst hi; exact ⟨by simp, by omega⟩) | (rcases hi with rfl | rfl | rfl <;> exact ⟨by simp, by omega⟩) | (rcases hi with rfl | rfl <;> exact ⟨by simp, by omega⟩)) (base_below wx) (phiS_cons monoS_alloc (phiS_cons monoS_store (phiS_nil))) (fun i_ hi_ hs_ => ?_) (fun i_ hi_ => ?_) ?_
  ·match i_, hi_ with
   | 0, _ =>
    intro val fl w1 a hb ha hd hfl;have ha := ha.s0 (d := 4) rfl
    exact ss_val ha rfl rfl (fa_62_0 rfl) rfl rfl
   | 1, _ =>
    intro val fl w1 a hb ha hd hfl;have e0 : val 0 = _ := hd 0 (memB_mem.1 rfl);have ha := ha.s1 (d := 19) rfl e0
    exact ss_val ha rfl rfl (ld_60 rfl ((q2.below hb q2.lt).at (j := 0) rfl)) rfl rfl
   | 2, _ =>
    intro val fl w1 a hb ha hd hfl;have ha := ha.s0 (d := 8) rfl
    exact ss_val ha rfl rfl (x_move rfl) rfl rfl
   | 3, _ =>
    intro val fl w1 a hb ha hd hfl;have e1 : val 1 = _ := hd 1 (memB_mem.1 rfl);have e2 : val 2 = _ := hd 2 (memB_mem.1 rfl);have ha := ha.s2 (d := 21) (e := 20) rfl e2 rfl e1
    exact ss_val ha rfl rfl (ix_60 (by show some (Value.slice T1 _ _) = _; rw [eT1]) rfl hlt) rfl rfl
   | 4, _ =>
    intro val fl w1 a hb ha hd hfl;have e3 : val 3 = _ := hd 3 (memB_mem.1 rfl);have ha := ha.s1 (d := 22) rfl e3
    exact ss_val ha rfl rfl (ld_24 rfl (below_load hb d0) (below_load hb d1)) rfl rfl
   | 5, _ =>
    intro val fl w1 a hb ha hd hfl;have ha := ha.s0 (d := 4) rfl
    exact ss_val ha rfl rfl (fa_62_1 rfl) rfl rfl
   | 6, _ =>
    intro val fl w1 a hb ha hd hfl;have e5 : val 5 = _ := hd 5 (memB_mem.1 rfl);have ha := ha.s1 (d := 24) rfl e5
    exact ss_val ha rfl rfl (ld_22 rfl ((q2.below hb q2.lt).at (j := 1) rfl)) rfl rfl
   | 7, _ =>
    intro val fl w1 a hb ha hd hfl;have ha := ha.s0 (d := 8) rfl
    exact ss_val ha rfl rfl (x_move rfl) rfl rfl
   | 8, _ =>
    intro val fl w1 a hb ha hd hfl;have e6 : val 6 = _ := hd 6 (memB_mem.1 rfl);have e7 : val 7 = _ := hd 7 (memB_mem.1 rfl);have ha := ha.s2 (d := 26) (e := 25) rfl e7 rfl e6
    exact ss_val ha rfl rfl (ix_22 (by show some (Value.slice T2 _ _) = _; rw [eT2]) rfl hlt) rfl rfl
   | 9, _ =>
    intro val fl w1 a hb ha hd hfl;have e8 : val 8 = _ := hd 8 (memB_mem.1 rfl);have ha := ha.s1 (d := 27) rfl e8
    exact ss_val ha rfl rfl (ld_3 rfl (below_load hb d2)) rfl rfl
   | 10, _ =>
    intro val fl w1 a hb ha hd hfl;have ha := ha.sub (Sub.nil _)
    exact ss_newP ha rfl rfl al_24 (fun g w' hq _ hge => ⟨g, rfl, Nat.le_trans hb.size hge, fun _ => hq⟩)
   | 11, _ =>
    exact absurd (by simp) hs_
   | k + 12, h => exact absurd h (by omega)
  ·simp only [List.mem_singleton] at hi_; subst hi_
   intro val fl w1 a hb hfi ha hd hfl;obtain ⟨g10_, e10, hg10_, q10_⟩ := hd 10 (memB_mem.1 rfl);change val 10 = _ at e10;have e4 : val 4 = _ := hd 4 (memB_mem.1 rfl);have ha := ha.s2 (d := 23) (e := 9) rfl e4 rfl e10;refine ts_store ha rfl rfl rfl (q10_ hfi) sz_24 rfl rfl rfl rfl ?_;intro w' hq hgr;refine ⟨undef, rfl, hgr.size, below_store hb hgr hg10_, ⟨g10_, e10, hq⟩, fun j _ hj hn hA => ?_⟩
   exact phiS_cons_st (C := fun j => j ≠ 11 ∧ 11 ∉ clsAt [[], [0], [], [0, 1, 2], [0, 1, 2, 3], [], [5], [], [5, 6, 7], [5, 6, 7, 8], [], [0, 1, 2, 3, 4, 10], [0, 1, 2, 3, 4, 5, 6, 7, 8, 9, 10, 11]] j ∧ ∀ p ∈ [10], (p = j ∨ p ∈ clsAt [[], [0], [], [0, 1, 2], [0, 1, 2, 3], [], [5], [], [5, 6, 7], [5, 6, 7, 8], [], [0, 1, 2, 3, 4, 10], [0, 1, 2, 3, 4, 5, 6, 7, 8, 9, 10, 11]] j) → ∀ q ∈ [10], (q = 11 ∨ q ∈ clsAt [[], [0], [], [0, 1, 2], [0, 1, 2, 3], [], [5], [], [5, 6, 7], [5, 6, 7, 8], [], [0, 1, 2, 3, 4, 10], [0, 1, 2, 3, 4, 5, 6, 7, 8, 9, 10, 11]] 11) → p ≠ q → val p ≠ val q) (fun _ ⟨g, h1, h2, _⟩ => ⟨g, h1, h2, fun h => by rw [fset_eq] at h; cases h⟩) (phiS_cons_st (C := fun j => j ≠ 11 ∧ 11 ∉ clsAt [[], [0], [], [0, 1, 2], [0, 1, 2, 3], [], [5], [], [5, 6, 7], [5, 6, 7, 8], [], [0, 1, 2, 3, 4, 10], [0, 1, 2, 3, 4, 5, 6, 7, 8, 9, 10, 11]] j ∧ ∀ p ∈ [10], (p = j ∨ p ∈ clsAt [[], [0], [], [0, 1, 2], [0, 1, 2, 3], [], [5], [], [5, 6, 7], [5, 6, 7, 8], [], [0, 1, 2, 3, 4, 10], [0, 1, 2, 3, 4, 5, 6, 7, 8, 9, 10, 11]] j) → ∀ q ∈ [10], (q = 11 ∨ q ∈ clsAt [[], [0], [], [0, 1, 2], [0, 1, 2, 3], [], [5], [], [5, 6, 7], [5, 6, 7, 8], [], [0, 1, 2, 3, 4, 10], [0, 1, 2, 3, 4, 5, 6, 7, 8, 9, 10, 11]] 11) → p ≠ q → val p ≠ val q) (fun hc => absurd rfl hc.1) (fun _ _ h => h)) j ⟨hj, hn, hA⟩
  ·intro val fl wR5 hfl hb halc hd
   have e0 : val 0 = _ := hd 0 (by omega)
   have e1 : val 1 = _ := hd 1 (by omega)
   have e2 : val 2 = _ := hd 2 (by omega)
   have e3 : val 3 = _ := hd 3 (by omega)
   have e4 : val 4 = _ := hd 4 (by omega)
   have e5 : val 5 = _ := hd 5 (by omega)
   have e6 : val 6 = _ := hd 6 (by omega)
   have e7 : val 7 = _ := hd 7 (by omega)
   have e8 : val 8 = _ := hd 8 (by omega)
   have e9 : val 9 = _ := hd 9 (by omega)
   obtain ⟨ga10_5, e10, qa10_5⟩ := hd 11 (by omega)
   change val 10 = _ at e10;refine EL.ends (cs := [_, _, _, _, _, _, _, _, _, _, _, val 11]) ⟨e0, e1, e2, e3, e4, e5, e6, e7, e8, e9, e10, rfl, trivial⟩ rfl ?_;replace q1 := q1.bl hb;replace q2 := q2.bl hb;replace q3 := q3.bl hb;replace q4 := q4.bl hb;replace q5 := q5.bl hb;replace ho1 := own_below ho1 hb (Nat.le_refl _);replace ho2 := own_below ho2 hb (Nat.le_refl _);have bge7 := alc_ge halc (i := 10) rfl rfl e10;have n1_7 : g1 ≠ ga10_5 := Nat.ne_of_lt (Nat.lt_of_lt_of_le lt_1 bge7);have n2_7 : g2 ≠ ga10_5 := Nat.ne_of_lt (Nat.lt_of_lt_of_le lt_2 bge7);have n3_7 : g3 ≠ ga10_5 := Nat.ne_of_lt (Nat.lt_of_lt_of_le lt_3 bge7);have n4_7 : g4 ≠ ga10_5 := Nat.ne_of_lt (Nat.lt_of_lt_of_le lt_4 bge7);have n5_7 : g5 ≠ ga10_5 := Nat.ne_of_lt (Nat.lt_of_lt_of_le lt_5 bge7);have bhbw_7 := Nat.le_trans hbw.size bge7;replace hbw := bo_ hbw hb;refine EL.as rfl rfl (EL.nil (EX.seq ?_));refine EC.cutD [10, 29, 30, 31, 32, 33, 34, 35, 36, 37, 38, 39, 40, 41, 42, 43, 44, 45, 46, 47, 48, 49, 50, 51, 52, 53, 54, 55, 56, 57, 58, 59, 60, 61, 62, 63] (fun y : Bd × Int => [(10, .int .i64 y.2)]) (fun y W => resR ru t x i = y.1 ∧ aftR t x i = y.2 ∧ Blk W ga10_5 24 #[.int .i64 y.1.lo, .int .i64 y.1.hi] ∧ Blk W g1 28 #[.slice Al ru.levels.length cl, .int .i64 ru.fade.lo, .int .i64 ru.fade.hi, .slice Aa ru.allow.length ca, .slice Ap ru.apart.length cp, .slice Ak ru.kinds.length ck] ∧ Blk W g2 62 #[.slice T1 ru.levels.length cT1, .slice T2 ru.levels.length cT2] ∧ Blk W g3 50 #[.int .i64 x.kind, .int .i64 x.number] ∧ Blk W g4 62 #[.slice none 0 0, .slice none 0 0] ∧ Blk W g5 62 #[.slice A1 i c1, .slice A2 i c2] ∧ W.ownsRow w.heap.size 24 2 (.slice A1 i c1) i (bdsC ((List.range i).map (resR ru t x))) ∧ W.ownsRow w.heap.size 3 1 (.slice A2 i c2) i (ints ((List.range i).map (aftR t x))) ∧ Below w.heap.size w W) ?_ ?_
   ·
    refine EC.seq (EC.region (EL.val (fa_50_0 rfl) rfl (EL.val (ld_48 rfl (q3.at (j := 0) rfl)) rfl ?_)))
    rcases ev_one hx with ⟨hk2, k, ek, hk⟩ | ⟨hk1, k, ek, hk⟩
    ·
     obtain ⟨bk, ok, eAk, _, hkd⟩ := kds_cells ru.kinds k hk wR5 B _ _ _ (hr.below (hbw.mono hB)).kinds;refine EL.val (x_eql (r := true) rfl rfl (decide_eq_true hk2)) rfl (EL.nil (EX.seq (EC.yes rfl ?_)));have lt_1 := q1.lt;have lt_2 := q2.lt;have lt_3 := q3.lt;have lt_4 := q4.lt;have lt_5 := q5.lt;have lt_7 := qa10_5.lt;refine EC.regionP [[], [], [1], [], [3], [1, 2, 3, 4], [1, 2, 3, 4, 5], [1, 2, 3, 4, 5, 6], [0, 1, 2, 3, 4, 5, 6, 7], [0, 1, 2, 3, 4, 5, 6, 7, 8]] 9 [] (phi (fun i_ r => match i_ with | 0 => r 0 = .agg #[.int .i64 (t.res.getD i bd0).lo, .int .i64 (t.res.getD i bd0).hi] | 1 => r 1 = .pointer (some ⟨g1, 5, none⟩) | 2 => r 2 = .slice Ak ru.kinds.length ck | 3 => r 3 = .pointer (some ⟨g3, 1, none⟩) | 4 => r 4 = .int .i64 x.number | 5 => r 5 = .pointer (some ⟨bk, ok + k * 5, none⟩) | 6 => r 6 = .pointer (some ⟨bk, ok + k * 5, none⟩) | 7 => r 7 = .agg #[.int .i64 (ru.kinds.getD k kd0).power.lo, .int .i64 (ru.kinds.getD k kd0).power.hi] | 8 => r 8 = .agg #[.int .i64 (lessR (t.res.getD i bd0) (ru.kinds.getD k kd0).power).lo, .int .i64 (lessR (t.res.getD i bd0) (ru.kinds.getD k kd0).power).hi] | _ => True) []) (by kernel_rfl) rfl rfl (phi_nil) (fun i_ hi_ => ?_) ?_
     ·match i_, hi_ with
      | 0, _ =>
       intro val w1 a hb ha hd;have ha := ha.s0 (d := 9) rfl
       exact hs_val ha rfl rfl (ld_24 rfl ((qa10_5.below hb qa10_5.lt).at (j := 0) rfl) ((qa10_5.below hb qa10_5.lt).at (j := 1) rfl)) rfl rfl
      | 1, _ =>
       intro val w1 a hb ha hd;have ha := ha.s0 (d := 3) rfl
       exact hs_val ha rfl rfl (fa_28_4 rfl) rfl rfl
      | 2, _ =>
       intro val w1 a hb ha hd;have e1 : val 1 = _ := hd 1 (memB_mem.1 rfl);have ha := ha.s1 (d := 33) rfl e1
       exact hs_val ha rfl rfl (ld_26 rfl ((q1.below hb q1.lt).at (j := 5) rfl)) rfl rfl
      | 3, _ =>
       intro val w1 a hb ha hd;have ha := ha.s0 (d := 5) rfl
       exact hs_val ha rfl rfl (fa_50_1 rfl) rfl rfl
      | 4, _ =>
       intro val w1 a hb ha hd;have e3 : val 3 = _ := hd 3 (memB_mem.1 rfl);have ha := ha.s1 (d := 35) rfl e3
       exact hs_val ha rfl rfl (ld_3 rfl ((q3.below hb q3.lt).at (j := 1) rfl)) rfl rfl
      | 5, _ =>
       intro val w1 a hb ha hd;have e2 : val 2 = _ := hd 2 (memB_mem.1 rfl);have e4 : val 4 = _ := hd 4 (memB_mem.1 rfl);have ha := ha.s2 (d := 36) (e := 34) rfl e4 rfl e2
       exact hs_val ha rfl rfl (ix_26 (by show some (Value.slice Ak _ _) = _; rw [eAk]) (by show some (Value.int .i64 x.number) = _; rw [ek]) hk) rfl rfl
      | 6, _ =>
       intro val w1 a hb ha hd;have e5 : val 5 = _ := hd 5 (memB_mem.1 rfl);have ha := ha.s1 (d := 37) rfl e5
       exact hs_val ha rfl rfl (fa_52_0 rfl) rfl rfl
      | 7, _ =>
       intro val w1 a hb ha hd;have e6 : val 6 = _ := hd 6 (memB_mem.1 rfl);have ha := ha.s1 (d := 38) rfl e6
       exact hs_val ha rfl rfl (ld_24 rfl (below_load hb hkd.c0) (below_load hb hkd.c1)) rfl rfl
      | 8, _ =>
       intro val w1 a hb ha hd;have e0 : val 0 = _ := hd 0 (memB_mem.1 rfl);have e7 : val 7 = _ := hd 7 (memB_mem.1 rfl);have ha := ha.s2 (d := 39) (e := 32) rfl e7 rfl e0;refine hs_call ha rfl rfl (cA2 cF81 rfl rfl) (less_any ⟨hbb1, hbb2⟩ (by have := kd_pow hro k; omega) _) rfl ?_
       rintro e w' ⟨rfl, hb'⟩
       exact ⟨_, rfl, hb', rfl⟩
      | k + 9, h => exact absurd h (by omega)
     ·intro val wR7 hb halc hd
      have e0 : val 0 = _ := hd 0 (by omega)
      have e1 : val 1 = _ := hd 1 (by omega)
      have e2 : val 2 = _ := hd 2 (by omega)
      have e3 : val 3 = _ := hd 3 (by omega)
      have e4 : val 4 = _ := hd 4 (by omega)
      have e5 : val 5 = _ := hd 5 (by omega)
      have e6 : val 6 = _ := hd 6 (by omega)
      have e7 : val 7 = _ := hd 7 (by omega)
      have e8 : val 8 = _ := hd 8 (by omega)
      refine EL.ends (cs := [_, _, _, _, _, _, _, _, _]) ⟨e0, e1, e2, e3, e4, e5, e6, e7, e8, trivial⟩ rfl ?_;replace q1 := q1.bl hb;replace q2 := q2.bl hb;replace q3 := q3.bl hb;replace q4 := q4.bl hb;replace q5 := q5.bl hb;replace qa10_5 := qa10_5.bl hb;replace ho1 := own_below ho1 hb (Nat.le_refl _);replace ho2 := own_below ho2 hb (Nat.le_refl _);replace hbw := bo_ hbw hb;clear hb;refine EL.store rfl rfl qa10_5 sz_24 rfl rfl rfl rfl ?_;intro w8 hq8 hg8;replace q1 := q1.gr hg8 n1_7;replace q2 := q2.gr hg8 n2_7;replace q3 := q3.gr hg8 n3_7;replace q4 := q4.gr hg8 n4_7;replace q5 := q5.gr hg8 n5_7;replace ho1 := own_bx ho1 (fun k hk => Nat.ne_of_lt (Nat.lt_of_lt_of_le (hlo k hk) bge7)) hg8
      replace ho2 := own_type ho2 qa10_5 rfl hg8;replace hbw := below_store hbw hg8 bhbw_7;replace qa10_5 := hq8;clear hg8 hq8;refine EL.nil ?_;have hres : resR ru t x i = (lessR (t.res.getD i bd0) (ru.kinds.getD k kd0).power) := by unfold resR; rw [if_pos hk2, ek, Int.toNat_natCast]
      have haft : aftR t x i = (t.aft.getD i 0) := by unfold aftR; rw [if_pos hk2]
      exact EX.cutE ((lessR (t.res.getD i bd0) (ru.kinds.getD k kd0).power), (t.aft.getD i 0)) ⟨rfl, trivial⟩ (by repeat first | with_reducible exact (Sub.refl _).del _ | refine sp_ rfl ?_ | exact (Sub.refl _).del _ | refine sd_ rfl ?_ | refine sn_ ?_) ⟨hres, haft, qa10_5, q1, q2, q3, q4, q5, ho1, ho2, hbw⟩
    ·
     have hk2 : ¬x.kind = 2 := by omega
     refine EL.val (x_eql (r := false) rfl rfl (decide_eq_false hk2)) rfl (EL.nil (EX.seq (EC.no rfl (EC.seq (EC.region (EL.mv rfl rfl (EL.val (fa_50_1 rfl) rfl (EL.val (ld_3 rfl (q3.at (j := 1) rfl)) rfl ?_))))))))
     by_cases hic : ((i : Nat) : Int) = x.number
     ·
      obtain ⟨bl, ol, eAl, _, hlv⟩ := ints_cells ru.levels i hlt wR5 B _ _ _ (hr.below (hbw.mono hB)).levels;refine EL.val (x_eql (r := true) rfl rfl (decide_eq_true hic)) rfl (EL.nil (EX.seq (EC.yes rfl ?_)));have lt_1 := q1.lt;have lt_2 := q2.lt;have lt_3 := q3.lt;have lt_4 := q4.lt;have lt_5 := q5.lt;have lt_7 := qa10_5.lt;refine EC.regionP [[], [0], [], [0, 1, 2], [0, 1, 2, 3], [], [5], [], [5, 6, 7], [5, 6, 7, 8], [0, 1, 2, 3, 4, 5, 6, 7, 8, 9], [0, 1, 2, 3, 4, 5, 6, 7, 8, 9, 10], [0, 1, 2, 3, 4, 5, 6, 7, 8, 9, 10, 11]] 11 [] (phi (fun i_ r => match i_ with | 0 => r 0 = .pointer (some ⟨g1, 0, none⟩) | 1 => r 1 = .slice Al ru.levels.length cl | 2 => r 2 = .int .i64 (i : Nat) | 3 => r 3 = .pointer (some ⟨bl, ol + i, none⟩) | 4 => r 4 = .int .i64 (ru.levels.getD i 0) | 5 => r 5 = .pointer (some ⟨g1, 0, none⟩) | 6 => r 6 = .slice Al ru.levels.length cl | 7 => r 7 = .int .i64 (i : Nat) | 8 => r 8 = .pointer (some ⟨bl, ol + i, none⟩) | 9 => r 9 = .int .i64 (ru.levels.getD i 0) | 10 => r 10 = .agg #[.int .i64 (ru.levels.getD i 0), .int .i64 (ru.levels.getD i 0)] | _ => True) []) (by kernel_rfl) rfl rfl (phi_nil) (fun i_ hi_ => ?_) ?_
      ·match i_, hi_ with
       | 0, _ =>
        intro val w1 a hb ha hd;have ha := ha.s0 (d := 3) rfl
        exact hs_val ha rfl rfl (fa_28_0 rfl) rfl rfl
       | 1, _ =>
        intro val w1 a hb ha hd;have e0 : val 0 = _ := hd 0 (memB_mem.1 rfl);have ha := ha.s1 (d := 45) rfl e0
        exact hs_val ha rfl rfl (ld_22 rfl ((q1.below hb q1.lt).at (j := 0) rfl)) rfl rfl
       | 2, _ =>
        intro val w1 a hb ha hd;have ha := ha.s0 (d := 8) rfl
        exact hs_val ha rfl rfl (x_move rfl) rfl rfl
       | 3, _ =>
        intro val w1 a hb ha hd;have e1 : val 1 = _ := hd 1 (memB_mem.1 rfl);have e2 : val 2 = _ := hd 2 (memB_mem.1 rfl);have ha := ha.s2 (d := 47) (e := 46) rfl e2 rfl e1
        exact hs_val ha rfl rfl (ix_22 (by show some (Value.slice Al _ _) = _; rw [eAl]) rfl hlt) rfl rfl
       | 4, _ =>
        intro val w1 a hb ha hd;have e3 : val 3 = _ := hd 3 (memB_mem.1 rfl);have ha := ha.s1 (d := 48) rfl e3
        exact hs_val ha rfl rfl (ld_3 rfl (below_load hb hlv)) rfl rfl
       | 5, _ =>
        intro val w1 a hb ha hd;have ha := ha.s0 (d := 3) rfl
        exact hs_val ha rfl rfl (fa_28_0 rfl) rfl rfl
       | 6, _ =>
        intro val w1 a hb ha hd;have e5 : val 5 = _ := hd 5 (memB_mem.1 rfl);have ha := ha.s1 (d := 50) rfl e5
        exact hs_val ha rfl rfl (ld_22 rfl ((q1.below hb q1.lt).at (j := 0) rfl)) rfl rfl
       | 7, _ =>
        intro val w1 a hb ha hd;have ha := ha.s0 (d := 8) rfl
        exact hs_val ha rfl rfl (x_move rfl) rfl rfl
       | 8, _ =>
        intro val w1 a hb ha hd;have e6 : val 6 = _ := hd 6 (memB_mem.1 rfl);have e7 : val 7 = _ := hd 7 (memB_mem.1 rfl);have ha := ha.s2 (d := 52) (e := 51) rfl e7 rfl e6
        exact hs_val ha rfl rfl (ix_22 (by show some (Value.slice Al _ _) = _; rw [eAl]) rfl hlt) rfl rfl
       | 9, _ =>
        intro val w1 a hb ha hd;have e8 : val 8 = _ := hd 8 (memB_mem.1 rfl);have ha := ha.s1 (d := 53) rfl e8
        exact hs_val ha rfl rfl (ld_3 rfl (below_load hb hlv)) rfl rfl
       | 10, _ =>
        intro val w1 a hb ha hd;have e4 : val 4 = _ := hd 4 (memB_mem.1 rfl);have e9 : val 9 = _ := hd 9 (memB_mem.1 rfl);have ha := ha.s2 (d := 54) (e := 49) rfl e9 rfl e4
        exact hs_val ha rfl rfl (bd_24_0_1 rfl rfl) rfl rfl
       | k + 11, h => exact absurd h (by omega)
      ·intro val wR9 hb halc hd
       have e0 : val 0 = _ := hd 0 (by omega)
       have e1 : val 1 = _ := hd 1 (by omega)
       have e2 : val 2 = _ := hd 2 (by omega)
       have e3 : val 3 = _ := hd 3 (by omega)
       have e4 : val 4 = _ := hd 4 (by omega)
       have e5 : val 5 = _ := hd 5 (by omega)
       have e6 : val 6 = _ := hd 6 (by omega)
       have e7 : val 7 = _ := hd 7 (by omega)
       have e8 : val 8 = _ := hd 8 (by omega)
       have e9 : val 9 = _ := hd 9 (by omega)
       have e10 : val 10 = _ := hd 10 (by omega)
       refine EL.ends (cs := [_, _, _, _, _, _, _, _, _, _, _]) ⟨e0, e1, e2, e3, e4, e5, e6, e7, e8, e9, e10, trivial⟩ rfl ?_;replace q1 := q1.bl hb;replace q2 := q2.bl hb;replace q3 := q3.bl hb;replace q4 := q4.bl hb;replace q5 := q5.bl hb;replace qa10_5 := qa10_5.bl hb;replace ho1 := own_below ho1 hb (Nat.le_refl _);replace ho2 := own_below ho2 hb (Nat.le_refl _);replace hbw := bo_ hbw hb;clear hb;refine EL.store rfl rfl qa10_5 sz_24 rfl rfl rfl rfl ?_;intro w9 hq9 hg9;replace q1 := q1.gr hg9 n1_7;replace q2 := q2.gr hg9 n2_7;replace q3 := q3.gr hg9 n3_7;replace q4 := q4.gr hg9 n4_7;replace q5 := q5.gr hg9 n5_7;replace ho1 := own_bx ho1 (fun k hk => Nat.ne_of_lt (Nat.lt_of_lt_of_le (hlo k hk) bge7)) hg9
       replace ho2 := own_type ho2 qa10_5 rfl hg9;replace hbw := below_store hbw hg9 bhbw_7;replace qa10_5 := hq9;clear hg9 hq9;refine EL.as rfl rfl (EL.nil ?_);have hres : resR ru t x i = ⟨ru.levels.getD i 0, ru.levels.getD i 0⟩ := by unfold resR; rw [if_neg hk2, if_pos hic]
       have haft : aftR t x i = 0 := by unfold aftR; rw [if_neg hk2, if_pos hic]
       exact EX.cutE (⟨ru.levels.getD i 0, ru.levels.getD i 0⟩, 0) ⟨rfl, trivial⟩ (by repeat first | with_reducible exact (Sub.refl _).del _ | refine sp_ rfl ?_ | exact (Sub.refl _).del _ | refine sd_ rfl ?_ | refine sn_ ?_) ⟨hres, haft, qa10_5, q1, q2, q3, q4, q5, ho1, ho2, hbw⟩
     ·
      refine EL.val (x_eql (r := false) rfl rfl (decide_eq_false hic)) rfl (EL.nil (EX.seq (EC.no rfl (EC.seq (EC.region (EL.val (ld_24 rfl (qa10_5.at (j := 0) rfl) (qa10_5.at (j := 1) rfl)) rfl (EL.val (fa_28_1 rfl) rfl (EL.val (ld_24 rfl (q1.at (j := 1) rfl) (q1.at (j := 2) rfl)) rfl ?_))))))));refine EL.call (cA2 cF81 rfl rfl) rfl (less_any ⟨hbb1, hbb2⟩ (by have := hro.fade; omega) _) ?_
      rintro e w10 ⟨rfl, hc10⟩
      refine ⟨_, rfl, ?_⟩;replace q1 := q1.bl hc10;replace q2 := q2.bl hc10;replace q3 := q3.bl hc10;replace q4 := q4.bl hc10;replace q5 := q5.bl hc10;replace qa10_5 := qa10_5.bl hc10;replace ho1 := own_below ho1 hc10 (Nat.le_refl _);replace ho2 := own_below ho2 hc10 (Nat.le_refl _);replace hbw := bo_ hbw hc10;clear hc10;refine EL.store rfl rfl qa10_5 sz_24 rfl rfl rfl rfl ?_;intro w11 hq11 hg11;replace q1 := q1.gr hg11 n1_7;replace q2 := q2.gr hg11 n2_7;replace q3 := q3.gr hg11 n3_7;replace q4 := q4.gr hg11 n4_7;replace q5 := q5.gr hg11 n5_7;replace ho1 := own_bx ho1 (fun k hk => Nat.ne_of_lt (Nat.lt_of_lt_of_le (hlo k hk) bge7)) hg11
      replace ho2 := own_type ho2 qa10_5 rfl hg11;replace hbw := below_store hbw hg11 bhbw_7;replace qa10_5 := hq11;clear hg11 hq11;refine EL.nil (EX.seq (EC.seq (EC.region (EL.mv rfl rfl ?_))))
      by_cases hag : 0 ≤ (t.aft.getD i 0)
      ·
       refine EL.val (x_geq (r := true) rfl rfl (decide_eq_true hag)) rfl (EL.nil (EX.seq (EC.yes rfl (EC.region (EL.mv rfl rfl ?_)))));refine EL.val (x_add rfl rfl (c := (t.aft.getD i 0) + 1) (IntWalk.i64_in _ ⟨by omega, by omega⟩)) rfl ?_
       refine EL.as rfl rfl (EL.nil ?_);have hres : resR ru t x i = (lessR (t.res.getD i bd0) ru.fade) := by unfold resR; rw [if_neg hk2, if_neg hic]
       have haft : aftR t x i = ((t.aft.getD i 0) + 1) := by unfold aftR; rw [if_neg hk2, if_neg hic, if_pos hag]
       exact EX.cutE ((lessR (t.res.getD i bd0) ru.fade), ((t.aft.getD i 0) + 1)) ⟨rfl, trivial⟩ (by repeat first | with_reducible exact (Sub.refl _).del _ | refine sp_ rfl ?_ | exact (Sub.refl _).del _ | refine sd_ rfl ?_ | refine sn_ ?_) ⟨hres, haft, qa10_5, q1, q2, q3, q4, q5, ho1, ho2, hbw⟩
      ·
       refine EL.val (x_geq (r := false) rfl rfl (decide_eq_false hag)) rfl (EL.nil (EX.seq (EC.no rfl (EC.skip ?_))));have hres : resR ru t x i = (lessR (t.res.getD i bd0) ru.fade) := by unfold resR; rw [if_neg hk2, if_neg hic]
       have haft : aftR t x i = (t.aft.getD i 0) := by unfold aftR; rw [if_neg hk2, if_neg hic, if_neg hag]
       exact EX.cutE ((lessR (t.res.getD i bd0) ru.fade), (t.aft.getD i 0)) ⟨rfl, trivial⟩ (by repeat first | with_reducible exact (Sub.refl _).del _ | refine sp_ rfl ?_ | exact (Sub.refl _).del _ | refine sd_ rfl ?_ | refine sn_ ?_) ⟨hres, haft, qa10_5, q1, q2, q3, q4, q5, ho1, ho2, hbw⟩
   ·
    clear qa10_5 q1 q2 q3 q4 q5 ho1 ho2 hbw
    rintro ⟨Xb, Ya⟩ W2 ⟨hres, haft, qa10_5, q1, q2, q3, q4, q5, ho1, ho2, hbw⟩
    dsimp only at hres haft qa10_5
    have hCW := hbw.size;refine EC.regionS [[], [0], [], [2], [0, 1, 2, 3], [], [5], [], [7], [0, 1, 2, 3, 4, 5, 6, 7, 8], [0, 1, 2, 3, 4, 5, 6], [0, 1, 2, 3, 4, 5, 6, 7, 8, 9, 10], [0, 1, 2, 3, 4, 5, 6, 7, 8, 9, 10, 11], [0, 1, 2, 3, 4, 5, 6, 7, 8, 9, 10, 11, 12]] 11 [] [4, 9] (fun fl w_ => Kp w.heap.size [24, 3] W2 w_ ∧ (fl 4 = false → w_.ownsRow w.heap.size 24 2 (.slice A1 i c1) i (bdsC ((List.range i).map (resR ru t x))) ∧ Blk w_ ga10_5 24 #[.int .i64 Xb.lo, .int .i64 Xb.hi]) ∧ (fl 9 = false → w_.ownsRow w.heap.size 3 1 (.slice A2 i c2) i (ints ((List.range i).map (aftR t x))))) (phiS (fun i_ r => match i_ with | 0 => r 0 = .pointer (some ⟨g5, 0, none⟩) | 1 => r 1 = .slice A1 i c1 | 2 => r 2 = .agg #[.int .i64 Xb.lo, .int .i64 Xb.hi] | 5 => r 5 = .pointer (some ⟨g5, 1, none⟩) | 6 => r 6 = .slice A2 i c2 | 7 => r 7 = .int .i64 Ya | 10 => r 10 = .pointer (some ⟨g5, 0, none⟩) | _ => True) [(3, fun fl r w_ => fl 4 = false → (∃ g_, r 3 = .slice (some ⟨g_, 0, none⟩) 1 1 ∧ Blk w_ g_ 24 #[.int .i64 Xb.lo, .int .i64 Xb.hi] ∧ W2.heap.size ≤ g_)), (4, fun _ r w_ => ∃ A c, r 4 = .slice A (i + 1) c ∧ w_.ownsRow w.heap.size 24 2 (.slice A (i + 1) c) (i + 1) ((bdsC ((List.range i).map (resR ru t x))) ++ [.int .i64 Xb.lo, .int .i64 Xb.hi])), (8, fun fl r w_ => fl 9 = false → (∃ g_, r 8 = .slice (some ⟨g_, 0, none⟩) 1 1 ∧ Blk w_ g_ 3 #[.int .i64 Ya] ∧ W2.heap.size ≤ g_)), (9, fun _ r w_ => ∃ A c, r 9 = .slice A (i + 1) c ∧ w_.ownsRow w.heap.size 3 1 (.slice A (i + 1) c) (i + 1) ((ints ((List.range i).map (aftR t x))) ++ [.int .i64 Ya]))]) (by kernel_rfl) rfl rfl (by intro i hi; simp at hi; rcases hi with rfl | rfl <;> exact ⟨by simp, by omega⟩) ⟨fun _ _ => ⟨⟨rfl, rfl, rfl, Nat.le_refl _, fun _ _ => rfl, fun _ _ _ h _ => h⟩, fun _ => ⟨ho1, qa10_5⟩, fun _ => ho2⟩, fun _ _ _ ⟨hK, h1, h2⟩ hb => ⟨hK.trans (Kp.of_below hb (Nat.le_trans hCW hK.size)), fun h => ⟨own_below (h1 h).1 hb (Nat.le_refl _), (h1 h).2.below hb (h1 h).2.lt⟩, fun h => own_below (h2 h) hb (Nat.le_refl _)⟩, fun _ _ h => h.1.size⟩ (phiS_cons (monoS_till mono_bs) (phiS_cons (monoS_cp (f := fun A c => .slice A (i + 1) c)) (phiS_cons (monoS_till mono_bs) (phiS_cons (monoS_cp (f := fun A c => .slice A (i + 1) c)) (phiS_nil))))) (fun i_ hi_ hs_ => ?_) (fun i_ hi_ => ?_) ?_
    ·match i_, hi_ with
     | 0, _ =>
      intro val fl w1 a hb ha hd hfl;obtain ⟨hK, h1, h2⟩ := hb;have ha := ha.s0 (d := 7) rfl
      exact ss_val ha rfl rfl (fa_62_0 rfl) rfl rfl
     | 1, _ =>
      intro val fl w1 a hb ha hd hfl;obtain ⟨hK, h1, h2⟩ := hb;have e0 : val 0 = _ := hd 0 (memB_mem.1 rfl);have ha := ha.s1 (d := 64) rfl e0
      exact ss_val ha rfl rfl (ld_60 rfl ((hK.blk _ _ _ q5 rfl).at (j := 0) rfl)) rfl rfl
     | 2, _ =>
      intro val fl w1 a hb ha hd hfl;obtain ⟨hK, h1, h2⟩ := hb;have ha := ha.s0 (d := 9) rfl
      exact ss_val ha rfl rfl (ld_24 rfl ((h1 (hfl 4 (by simp) (memB_mem.1 rfl))).2.at (j := 0) rfl) ((h1 (hfl 4 (by simp) (memB_mem.1 rfl))).2.at (j := 1) rfl)) rfl rfl
     | 3, _ =>
      intro val fl w1 a hb ha hd hfl;obtain ⟨hK, h1, h2⟩ := hb;have e2 : val 2 = _ := hd 2 (memB_mem.1 rfl);have ha := ha.s1 (d := 66) rfl e2
      exact ss_newS ha rfl rfl (bs_60_1 rfl) rfl (fun g w' hq _ hge => fun _ => ⟨g, rfl, hq, Nat.le_trans hK.size hge⟩)
     | 4, _ =>
      exact absurd (by simp) hs_
     | 5, _ =>
      intro val fl w1 a hb ha hd hfl;obtain ⟨hK, h1, h2⟩ := hb;have ha := ha.s0 (d := 7) rfl
      exact ss_val ha rfl rfl (fa_62_1 rfl) rfl rfl
     | 6, _ =>
      intro val fl w1 a hb ha hd hfl;obtain ⟨hK, h1, h2⟩ := hb;have e5 : val 5 = _ := hd 5 (memB_mem.1 rfl);have ha := ha.s1 (d := 69) rfl e5
      exact ss_val ha rfl rfl (ld_22 rfl ((hK.blk _ _ _ q5 rfl).at (j := 1) rfl)) rfl rfl
     | 7, _ =>
      intro val fl w1 a hb ha hd hfl;obtain ⟨hK, h1, h2⟩ := hb;have ha := ha.s0 (d := 10) rfl
      exact ss_val ha rfl rfl (x_move rfl) rfl rfl
     | 8, _ =>
      intro val fl w1 a hb ha hd hfl;obtain ⟨hK, h1, h2⟩ := hb;have e7 : val 7 = _ := hd 7 (memB_mem.1 rfl);have ha := ha.s1 (d := 71) rfl e7
      exact ss_newS ha rfl rfl (bs_22_1 rfl) rfl (fun g w' hq _ hge => fun _ => ⟨g, rfl, hq, Nat.le_trans hK.size hge⟩)
     | 9, _ =>
      exact absurd (by simp) hs_
     | 10, _ =>
      intro val fl w1 a hb ha hd hfl;obtain ⟨hK, h1, h2⟩ := hb;have ha := ha.s0 (d := 7) rfl
      exact ss_val ha rfl rfl (fa_62_0 rfl) rfl rfl
     | k + 11, h => exact absurd h (by omega)
    ·simp only [List.mem_cons, List.not_mem_nil, or_false] at hi_; rcases hi_ with rfl | rfl
     ·
      intro val fl w1 a hb hfi ha hd hfl;obtain ⟨hK, h1, h2⟩ := hb;have e1 : val 1 = _ := hd 1 (memB_mem.1 rfl);obtain ⟨g3_, e3, q3_, h3_⟩ := hd 3 (memB_mem.1 rfl) hfi;change val 3 = _ at e3;have ha := ha.s2 (d := 67) (e := 65) rfl e3 rfl e1;refine ts_push bdR_elem ha rfl rfl rfl (h1 hfi).1 (rd_one (l := [.int .i64 Xb.lo, .int .i64 Xb.hi]) q3_ rfl) (by intro u hu; simp only [List.mem_cons, List.not_mem_nil, or_false] at hu; rcases hu with rfl | rfl <;> rfl) (by omega) rfl (Nat.le_trans hCW hK.size) ?_
      intro v' w' ho' hgr hat;obtain ⟨A', c', rfl, _⟩ := (Rd.of_own ho').shape;refine ⟨_, rfl, hgr.size, ⟨hK.trans (Kp.own (h1 hfi).1 rfl (Nat.le_refl _) (Nat.le_trans hCW hK.size) hgr), (fun h => by rw [fset_eq] at h; cases h), fun h => own_grown (h2 (by rwa [fset_ne rfl] at h)) (h1 hfi).1 rfl hgr⟩, ⟨A', c', rfl, ho'⟩, fun j _ hj hn hA => ?_⟩
      exact phiS_cons_st (C := fun j => j ≠ 4 ∧ 4 ∉ clsAt [[], [0], [], [2], [0, 1, 2, 3], [], [5], [], [7], [0, 1, 2, 3, 4, 5, 6, 7, 8], [0, 1, 2, 3, 4, 5, 6], [0, 1, 2, 3, 4, 5, 6, 7, 8, 9, 10], [0, 1, 2, 3, 4, 5, 6, 7, 8, 9, 10, 11], [0, 1, 2, 3, 4, 5, 6, 7, 8, 9, 10, 11, 12]] j) (fun _ _ h => by rw [fset_eq] at h; cases h) (phiS_cons_st (C := fun j => j ≠ 4 ∧ 4 ∉ clsAt [[], [0], [], [2], [0, 1, 2, 3], [], [5], [], [7], [0, 1, 2, 3, 4, 5, 6, 7, 8], [0, 1, 2, 3, 4, 5, 6], [0, 1, 2, 3, 4, 5, 6, 7, 8, 9, 10], [0, 1, 2, 3, 4, 5, 6, 7, 8, 9, 10, 11], [0, 1, 2, 3, 4, 5, 6, 7, 8, 9, 10, 11, 12]] j) (fun hc => absurd rfl hc.1) (phiS_cons_st (C := fun j => j ≠ 4 ∧ 4 ∉ clsAt [[], [0], [], [2], [0, 1, 2, 3], [], [5], [], [7], [0, 1, 2, 3, 4, 5, 6, 7, 8], [0, 1, 2, 3, 4, 5, 6], [0, 1, 2, 3, 4, 5, 6, 7, 8, 9, 10], [0, 1, 2, 3, 4, 5, 6, 7, 8, 9, 10, 11], [0, 1, 2, 3, 4, 5, 6, 7, 8, 9, 10, 11, 12]] j) (fun _ hh h => let ⟨g, a1, a2, a3⟩ := hh (by rwa [fset_ne rfl] at h); ⟨g, a1, blk_grown a2 (h1 hfi).1 rfl hgr, a3⟩) (phiS_cons_st (C := fun j => j ≠ 4 ∧ 4 ∉ clsAt [[], [0], [], [2], [0, 1, 2, 3], [], [5], [], [7], [0, 1, 2, 3, 4, 5, 6, 7, 8], [0, 1, 2, 3, 4, 5, 6], [0, 1, 2, 3, 4, 5, 6, 7, 8, 9, 10], [0, 1, 2, 3, 4, 5, 6, 7, 8, 9, 10, 11], [0, 1, 2, 3, 4, 5, 6, 7, 8, 9, 10, 11, 12]] j) (fun hc => absurd (memB_mem.1 rfl) hc.2) (fun _ _ h => h)))) j ⟨hj, hn⟩
     ·
      intro val fl w1 a hb hfi ha hd hfl;obtain ⟨hK, h1, h2⟩ := hb;have e6 : val 6 = _ := hd 6 (memB_mem.1 rfl);obtain ⟨g8_, e8, q8_, h8_⟩ := hd 8 (memB_mem.1 rfl) hfi;change val 8 = _ at e8;have ha := ha.s2 (d := 72) (e := 70) rfl e8 rfl e6;refine ts_push ir_elem ha rfl rfl rfl (h2 hfi) (rd_one (l := [.int .i64 Ya]) q8_ rfl) (by intro u hu; simp only [List.mem_cons, List.not_mem_nil, or_false] at hu; rcases hu with rfl <;> rfl) (by omega) rfl (Nat.le_trans hCW hK.size) ?_
      intro v' w' ho' hgr hat;obtain ⟨A', c', rfl, _⟩ := (Rd.of_own ho').shape;refine ⟨_, rfl, hgr.size, ⟨hK.trans (Kp.own (h2 hfi) rfl (Nat.le_refl _) (Nat.le_trans hCW hK.size) hgr), (fun h => ⟨own_grown (h1 (by rwa [fset_ne rfl] at h)).1 (h2 hfi) rfl hgr, blk_grown (h1 (by rwa [fset_ne rfl] at h)).2 (h2 hfi) rfl hgr⟩), (fun h => by rw [fset_eq] at h; cases h)⟩, ⟨A', c', rfl, ho'⟩, fun j _ hj hn hA => ?_⟩
      exact phiS_cons_st (C := fun j => j ≠ 9 ∧ 9 ∉ clsAt [[], [0], [], [2], [0, 1, 2, 3], [], [5], [], [7], [0, 1, 2, 3, 4, 5, 6, 7, 8], [0, 1, 2, 3, 4, 5, 6], [0, 1, 2, 3, 4, 5, 6, 7, 8, 9, 10], [0, 1, 2, 3, 4, 5, 6, 7, 8, 9, 10, 11], [0, 1, 2, 3, 4, 5, 6, 7, 8, 9, 10, 11, 12]] j) (fun _ hh h => let ⟨g, a1, a2, a3⟩ := hh (by rwa [fset_ne rfl] at h); ⟨g, a1, blk_grown a2 (h2 hfi) rfl hgr, a3⟩) (phiS_cons_st (C := fun j => j ≠ 9 ∧ 9 ∉ clsAt [[], [0], [], [2], [0, 1, 2, 3], [], [5], [], [7], [0, 1, 2, 3, 4, 5, 6, 7, 8], [0, 1, 2, 3, 4, 5, 6], [0, 1, 2, 3, 4, 5, 6, 7, 8, 9, 10], [0, 1, 2, 3, 4, 5, 6, 7, 8, 9, 10, 11], [0, 1, 2, 3, 4, 5, 6, 7, 8, 9, 10, 11, 12]] j) (fun _ ⟨A, c, a1, a2⟩ => ⟨A, c, a1, own_grown a2 (h2 hfi) rfl hgr⟩) (phiS_cons_st (C := fun j => j ≠ 9 ∧ 9 ∉ clsAt [[], [0], [], [2], [0, 1, 2, 3], [], [5], [], [7], [0, 1, 2, 3, 4, 5, 6, 7, 8], [0, 1, 2, 3, 4, 5, 6], [0, 1, 2, 3, 4, 5, 6, 7, 8, 9, 10], [0, 1, 2, 3, 4, 5, 6, 7, 8, 9, 10, 11], [0, 1, 2, 3, 4, 5, 6, 7, 8, 9, 10, 11, 12]] j) (fun _ _ h => by rw [fset_eq] at h; cases h) (phiS_cons_st (C := fun j => j ≠ 9 ∧ 9 ∉ clsAt [[], [0], [], [2], [0, 1, 2, 3], [], [5], [], [7], [0, 1, 2, 3, 4, 5, 6, 7, 8], [0, 1, 2, 3, 4, 5, 6], [0, 1, 2, 3, 4, 5, 6, 7, 8, 9, 10], [0, 1, 2, 3, 4, 5, 6, 7, 8, 9, 10, 11], [0, 1, 2, 3, 4, 5, 6, 7, 8, 9, 10, 11, 12]] j) (fun hc => absurd rfl hc.1) (fun _ _ h => h)))) j ⟨hj, hn⟩
    ·intro val fl wR13 hfl hb halc hd
     obtain ⟨hK, _, _⟩ := hb;have e0 : val 0 = _ := hd 0 (by omega)
     have e1 : val 1 = _ := hd 1 (by omega)
     have e2 : val 2 = _ := hd 2 (by omega)
     obtain ⟨B1, d1, e4, hn1⟩ := hd 4 (by omega)
     have e5 : val 5 = _ := hd 5 (by omega)
     have e6 : val 6 = _ := hd 6 (by omega)
     have e7 : val 7 = _ := hd 7 (by omega)
     obtain ⟨B2, d2, e9, hn2⟩ := hd 9 (by omega)
     have e10 : val 10 = _ := hd 10 (by omega)
     refine EL.ends (cs := [_, _, _, val 3, _, _, _, _, val 8, _, _]) ⟨e0, e1, e2, rfl, e4, e5, e6, e7, rfl, e9, e10, trivial⟩ rfl ?_;replace q1 := hK.blk _ _ _ q1 rfl;replace q2 := hK.blk _ _ _ q2 rfl;replace q3 := hK.blk _ _ _ q3 rfl;replace q4 := hK.blk _ _ _ q4 rfl;replace q5 := hK.blk _ _ _ q5 rfl;clear ho1 ho2;have ho1 : wR13.ownsRow w.heap.size 24 2 (.slice B1 (i + 1) d1) (i + 1) ((bdsC ((List.range i).map (resR ru t x))) ++ [.int .i64 Xb.lo, .int .i64 Xb.hi]) := hn1;have ho2 : wR13.ownsRow w.heap.size 3 1 (.slice B2 (i + 1) d2) (i + 1) ((ints ((List.range i).map (aftR t x))) ++ [.int .i64 Ya]) := hn2;clear hn1 hn2;replace hbw := hbw.trans hK.below;clear hK;refine EL.store rfl rfl q5 sz_60 rfl rfl rfl rfl ?_;intro w12 hq12 hg12;replace q1 := q1.gr hg12 n1_5;replace q2 := q2.gr hg12 n2_5;replace q3 := q3.gr hg12 n3_5;replace q4 := q4.gr hg12 n4_5;replace ho1 := own_type ho1 q5 rfl hg12;replace ho2 := own_type ho2 q5 rfl hg12;replace hbw := below_store hbw hg12 bhbw_5;replace q5 := hq12;clear hg12 hq12;refine EL.val (fa_62_1 rfl) rfl (EL.store rfl rfl q5 sz_22 rfl rfl rfl rfl ?_);intro w13 hq13 hg13;replace q1 := q1.gr hg13 n1_5;replace q2 := q2.gr hg13 n2_5;replace q3 := q3.gr hg13 n3_5;replace q4 := q4.gr hg13 n4_5;replace ho1 := own_type ho1 q5 rfl hg13;replace ho2 := own_type ho2 q5 rfl hg13;replace hbw := below_store hbw hg13 bhbw_5;replace q5 := hq13;clear hg13 hq13;refine EL.nil (EX.blk (EX.seq (EC.region (EL.mv rfl rfl ?_))));refine EL.val (x_add rfl rfl (c := ((i + 1 : Nat) : Int)) ((IntWalk.i64_in _ ⟨by first | omega | (simp only; omega), by first | omega | (simp only; omega)⟩).trans (by first | omega | (simp only; omega)))) rfl ?_
     refine EL.as rfl rfl (EL.nil ?_);refine EX.roundD (i + 1, B1, d1, B2, d2) ⟨rfl, trivial⟩ (by repeat first | with_reducible exact .refl _ | refine sp_ rfl ?_ | exact .refl _ | refine sd_ rfl ?_ | refine sn_ ?_) ⟨hlt, q1, q2, q3, q4, q5, own_cast ho1 rfl (by rw [map_bd, hres]), own_cast ho2 rfl (by rw [map_int, haft]), hbw⟩ (by simp only; omega)
 ·
  have hxe : i = ru.levels.length := by omega
  refine EC.seq (EC.seq (EC.region (EL.mv rfl rfl (EL.val (fa_62_0 rfl) rfl (EL.val (ld_60 rfl (q2.at (j := 0) rfl)) rfl (EL.val (ln_60 rfl) rfl ?_))))));refine EL.val (x_lss rfl rfl (decide_eq_false (show ¬(((i : Nat) : Int) < ((ru.levels.length : Nat) : Int)) by omega))) rfl ?_
  refine EL.nil (EX.seq (EC.no rfl (EC.exit (EX.seq_exit (EX.seq_exit (EX.blk_here (EX.seq (EC.seq (EC.region ?_)))))))));refine EL.val (ld_62 rfl (q5.at (j := 0) rfl) (q5.at (j := 1) rfl)) rfl (EL.store rfl rfl q4 sz_62 rfl rfl rfl rfl ?_);intro w14 hq14 hg14;replace q1 := q1.gr hg14 n1_4;replace q2 := q2.gr hg14 n2_4;replace q3 := q3.gr hg14 n3_4;replace q5 := q5.gr hg14 n4_5.symm;replace ho1 := own_type ho1 q4 rfl hg14;replace ho2 := own_type ho2 q4 rfl hg14;replace hbw := below_store hbw hg14 bhbw_4;replace q4 := hq14;clear hg14 hq14;refine EL.nil (EX.seq (EC.ret ?_))
  exact EX.done (resc1 rfl rfl (lv_62 (q4.at (j := 0) rfl) (q4.at (j := 1) rfl))) ⟨⟨A1, c1, A2, c2, by rw [hxe], own_cast' ho1 hxe (by rw [hxe, ← ht.rl]; rfl), own_cast' ho2 hxe (by rw [hxe, ← ht.rl]; rfl)⟩, hbw⟩
theorem mono_rt {j C n : Nat} {xs ys : List Value} : Mono fun r w => ∃ A1 c1 A2 c2, r j = .agg #[.slice A1 n c1, .slice A2 n c2] ∧ w.ownsRow C 24 2 (.slice A1 n c1) n xs ∧ w.ownsRow C 3 1 (.slice A2 n c2) n ys := fun _ _ _ hb ⟨A1, c1, A2, c2, h1, h2, h3⟩ => ⟨A1, c1, A2, c2, h1, own_below h2 hb (Nat.le_refl _), own_below h3 hb (Nat.le_refl _)⟩
theorem afterR_succ {ru : Rules} {l : List Ev} {i : Nat} (h : i < l.length) : afterR ru (l.take (i + 1)) = stepR ru (afterR ru (l.take i)) (l.getD i ev0) := by
 unfold afterR
 rw [List.take_succ_eq_append_getElem h, List.foldl_append, getD_in h]
 rfl
theorem rm_getD {α : Type} {f : Nat → α} {n i : Nat} {d : α} : ((List.range n).map f).getD i d = if i < n then f i else d := by
 split
 ·rename_i h
  rw [List.getD_eq_getElem?_getD, List.getElem?_map, List.getElem?_range h]
  rfl
 ·rename_i h
  rw [List.getD_eq_getElem?_getD, List.getElem?_eq_none (by simp; omega)]
  rfl
theorem clean_ok {n : Nat} : RtOk n 0 (cleanR n) := by
 refine ⟨by simp [cleanR], by simp [cleanR], fun i => ?_, fun i => ?_⟩
 ·have : (cleanR n).res.getD i bd0 = bd0 := by
   unfold cleanR
   rw [List.getD_eq_getElem?_getD, List.getElem?_replicate]
   split <;> rfl
  rw [this]
  decide
 ·have : (cleanR n).aft.getD i 0 = -1 ∨ (cleanR n).aft.getD i 0 = 0 := by
   unfold cleanR
   rw [List.getD_eq_getElem?_getD, List.getElem?_replicate]
   split
   ·exact .inl rfl
   ·exact .inr rfl
  omega
theorem less_ok {x y : Bd} (hx : (0 ≤ x.lo ∧ x.lo ≤ 1000000) ∧ 0 ≤ x.hi ∧ x.hi ≤ 1000000) (hy : 0 ≤ y.lo ∧ y.lo ≤ y.hi) : (0 ≤ (lessR x y).lo ∧ (lessR x y).lo ≤ 1000000) ∧ 0 ≤ (lessR x y).hi ∧ (lessR x y).hi ≤ 1000000 := by
 unfold lessR
 dsimp only
 omega
theorem lev_bd {ru : Rules} (hro : RulesOk ru) (i : Nat) : 0 ≤ ru.levels.getD i 0 ∧ ru.levels.getD i 0 ≤ 1000000 := hro.lev i
theorem step_ok {ru : Rules} (hro : RulesOk ru) {t : RT} {k : Nat} (h : RtOk ru.levels.length k t) {x : Ev} (hx : evB ru x = true) : RtOk ru.levels.length (k + 1) (stepR ru t x) := by
 have hf := hro.fade;refine ⟨by simp [stepR, h.rl], by simp [stepR, h.rl], fun i => ?_, fun i => ?_⟩
 ·unfold stepR
  dsimp only
  rw [rm_getD]
  split
  ·unfold resR
   split
   ·have hp := kd_pow hro x.number.toNat
    exact less_ok (h.bd i) ⟨hp.1, hp.2.1⟩
   ·split
    ·have := lev_bd hro i
     exact ⟨this, this⟩
    ·exact less_ok (h.bd i) ⟨hf.1, hf.2.1⟩
  ·decide
 ·unfold stepR
  dsimp only
  rw [rm_getD];have ha := h.af i
  split
  ·unfold aftR
   split
   ·omega
   ·split
    ·omega
    ·split <;> omega
  ·omega
set_option maxHeartbeats 2000000 in
theorem After_any {ru : Rules} {ua up : List Value} {vl va vp vk : Value} {w : World} {B : Nat} (hr : RdRules w B vl va vp vk ru ua up) (hB : B ≤ w.heap.size) (hro : RulesOk ru) {l : List Ev} {v : Value} (hl : Rd w B 2 v l.length (evsC l)) (hv : l.all (evB ru) = true) (hn : l.length ≤ 1000) :
  Calls Try.prog 27 #[rulesV vl va vp vk ru, v] w fun e w' => (∃ A1 c1 A2 c2, e = .returned (.agg #[.slice A1 ru.levels.length c1, .slice A2 ru.levels.length c2]) ∧ w'.ownsRow w.heap.size 24 2 (.slice A1 ru.levels.length c1) ru.levels.length (bdsC (afterR ru l).res) ∧ w'.ownsRow w.heap.size 3 1 (.slice A2 ru.levels.length c2) ru.levels.length (ints (afterR ru l).aft) ∧ RtOk ru.levels.length l.length (afterR ru l)) ∧ Below w.heap.size w w' := by
 obtain ⟨Al, cl, Aa, ca, Ap, cp, Ak, ck, rfl, rfl, rfl, rfl⟩ := hr.sh4;obtain ⟨Ae, ce, rfl, _⟩ := hl.shape;have hn8 := hro.n8;have hbw := Below.refl w.heap.size w
 unfold rulesV
 refine EC.enter 23 Try.func27 rfl rfl rfl (EC.seq (EC.region (EL.newP (bx_28 rfl) rfl ?_)));intro g1 w1 q1 hb1 hg1 hl1;have bhbw_1 := Nat.le_trans hbw.size hg1;replace hbw := bo_ hbw hb1;clear hb1 hg1 hl1;refine EL.newP al_62 rfl ?_;intro g2 w2 q2 hb2 hg2 hl2;have n1_2 := q1.na hg2;have bhbw_2 := Nat.le_trans hbw.size hg2;replace q1 := q1.bl hb2;replace hbw := bo_ hbw hb2;clear hb2 hg2 hl2;refine EL.nil (EX.seq (EC.seq (EC.region (EL.val (ld_28 rfl (q1.at (j := 0) rfl) (q1.at (j := 1) rfl) (q1.at (j := 2) rfl) (q1.at (j := 3) rfl) (q1.at (j := 4) rfl) (q1.at (j := 5) rfl)) rfl (EL.call (cA1 cF57 rfl) rfl (Clean_any (hr.below (hbw.mono hB)) (Nat.le_trans hB hbw.size) hro) ?_)))))
 rintro e w3 ⟨⟨A1, c1, A2, c2, rfl, ho1, ho2⟩, hc3⟩
 refine ⟨_, rfl, ?_⟩;replace ho1 := own_less ho1 hbw.size;replace ho2 := own_less ho2 hbw.size;replace q1 := q1.bl hc3;replace q2 := q2.bl hc3;replace hbw := bo_ hbw hc3;clear hc3;refine EL.newP al_62 rfl ?_;intro g4 w4 q4 hb4 hg4 hl4;have n1_4 := q1.na hg4;have n2_4 := q2.na hg4;have bhbw_4 := Nat.le_trans hbw.size hg4;replace q1 := q1.bl hb4;replace q2 := q2.bl hb4;replace ho1 := own_below ho1 hb4 (Nat.le_refl _);replace ho2 := own_below ho2 hb4 (Nat.le_refl _);replace hbw := bo_ hbw hb4;clear hb4 hg4 hl4;refine EL.store rfl rfl q4 sz_62 rfl rfl rfl rfl ?_;intro w5 hq5 hg5;replace q1 := q1.gr hg5 n1_4;replace q2 := q2.gr hg5 n2_4;replace ho1 := own_type ho1 q4 rfl hg5;replace ho2 := own_type ho2 q4 rfl hg5;replace hbw := below_store hbw hg5 bhbw_4;replace q4 := hq5;clear hg5 hq5;refine EL.nil (EX.seq (EC.seq (EC.seq (EC.region (EL.as rfl rfl (EL.nil (EX.seq (EC.block ?_))))))));refine EC.loopD [6, 9, 10, 11, 12, 13, 14, 15, 16, 17, 18, 19, 20, 21] (fun y : Nat × Option Addr × Nat × Option Addr × Nat => [(6, .int .i64 (y.1 : Nat))]) (fun y W => y.1 ≤ l.length ∧ RtOk ru.levels.length y.1 (afterR ru (l.take y.1)) ∧ Blk W g1 28 #[.slice Al ru.levels.length cl, .int .i64 ru.fade.lo, .int .i64 ru.fade.hi, .slice Aa ru.allow.length ca, .slice Ap ru.apart.length cp, .slice Ak ru.kinds.length ck] ∧ Blk W g2 62 #[.slice none 0 0, .slice none 0 0] ∧ Blk W g4 62 #[.slice y.2.1 ru.levels.length y.2.2.1, .slice y.2.2.2.1 ru.levels.length y.2.2.2.2] ∧ W.ownsRow w.heap.size 24 2 (.slice y.2.1 ru.levels.length y.2.2.1) ru.levels.length (bdsC (afterR ru (l.take y.1)).res) ∧ W.ownsRow w.heap.size 3 1 (.slice y.2.2.2.1 ru.levels.length y.2.2.2.2) ru.levels.length (ints (afterR ru (l.take y.1)).aft) ∧ Below w.heap.size w W) (fun y => l.length - y.1) (0, A1, c1, A2, c2) ⟨Nat.zero_le _, clean_ok, q1, q2, q4, ho1, ho2, hbw⟩ ⟨rfl, trivial⟩ ?_
 clear q1 q2 q4 hbw ho1 ho2
 rintro ⟨i, A1, c1, A2, c2⟩ wx ⟨hi, hrt, q1, q2, q4, ho1, ho2, hbw⟩
 dsimp only at hi hrt ho1 ho2 q4
 by_cases hlt : i < l.length
 ·
  obtain ⟨be, oe, eAe, _, c0_, c1_⟩ := evs_cells l i hlt wx B _ _ _ (hl.below (hbw.mono hB));have hev : evB ru (l.getD i ev0) = true := by rw [getD_in hlt]; exact List.all_eq_true.1 hv _ (List.getElem_mem _)
  refine EC.seq (EC.seq (EC.region (EL.mv rfl rfl (EL.mv rfl rfl (EL.val (ln_29 rfl) rfl ?_)))));refine EL.val (x_lss rfl rfl (decide_eq_true (show (((i : Nat) : Int) < ((l.length : Nat) : Int)) by omega))) rfl ?_
  refine EL.nil (EX.seq (EC.yes rfl (EC.skip (EX.seq (EC.seq (EC.block ?_))))));have lt_1 := q1.lt;have lt_2 := q2.lt;have lt_4 := q4.lt;refine EC.regionP [[], [], [], [], [2, 3], [2, 3, 4], [0, 1, 2, 3, 4, 5], [0, 1, 2, 3, 4, 5, 6]] 7 [] (phi (fun i_ r => match i_ with | 0 => r 0 = .agg #[.slice Al ru.levels.length cl, .int .i64 ru.fade.lo, .int .i64 ru.fade.hi, .slice Aa ru.allow.length ca, .slice Ap ru.apart.length cp, .slice Ak ru.kinds.length ck] | 1 => r 1 = .agg #[.slice A1 ru.levels.length c1, .slice A2 ru.levels.length c2] | 2 => r 2 = .slice Ae l.length ce | 3 => r 3 = .int .i64 (i : Nat) | 4 => r 4 = .pointer (some ⟨be, oe + i * 2, none⟩) | 5 => r 5 = .agg #[.int .i64 (l.getD i ev0).kind, .int .i64 (l.getD i ev0).number] | _ => True) [(6, fun r w_ => ∃ A1 c1 A2 c2, r 6 = .agg #[.slice A1 ru.levels.length c1, .slice A2 ru.levels.length c2] ∧ w_.ownsRow w.heap.size 24 2 (.slice A1 ru.levels.length c1) ru.levels.length (bdsC (stepR ru (afterR ru (l.take i)) (l.getD i ev0)).res) ∧ w_.ownsRow w.heap.size 3 1 (.slice A2 ru.levels.length c2) ru.levels.length (ints (stepR ru (afterR ru (l.take i)) (l.getD i ev0)).aft))]) (by kernel_rfl) rfl rfl (phi_cons mono_rt (phi_nil)) (fun i_ hi_ => ?_) ?_
  ·match i_, hi_ with
   | 0, _ =>
    intro val w1 a hb ha hd;have ha := ha.s0 (d := 2) rfl
    exact hs_val ha rfl rfl (ld_28 rfl ((q1.below hb q1.lt).at (j := 0) rfl) ((q1.below hb q1.lt).at (j := 1) rfl) ((q1.below hb q1.lt).at (j := 2) rfl) ((q1.below hb q1.lt).at (j := 3) rfl) ((q1.below hb q1.lt).at (j := 4) rfl) ((q1.below hb q1.lt).at (j := 5) rfl)) rfl rfl
   | 1, _ =>
    intro val w1 a hb ha hd;have ha := ha.s0 (d := 5) rfl
    exact hs_val ha rfl rfl (ld_62 rfl ((q4.below hb q4.lt).at (j := 0) rfl) ((q4.below hb q4.lt).at (j := 1) rfl)) rfl rfl
   | 2, _ =>
    intro val w1 a hb ha hd;have ha := ha.s0 (d := 1) rfl
    exact hs_val ha rfl rfl (x_move rfl) rfl rfl
   | 3, _ =>
    intro val w1 a hb ha hd;have ha := ha.s0 (d := 6) rfl
    exact hs_val ha rfl rfl (x_move rfl) rfl rfl
   | 4, _ =>
    intro val w1 a hb ha hd;have e2 : val 2 = _ := hd 2 (memB_mem.1 rfl);have e3 : val 3 = _ := hd 3 (memB_mem.1 rfl);have ha := ha.s2 (d := 18) (e := 17) rfl e3 rfl e2
    exact hs_val ha rfl rfl (ix_29 (by show some (Value.slice Ae _ _) = _; rw [eAe]) rfl hlt) rfl rfl
   | 5, _ =>
    intro val w1 a hb ha hd;have e4 : val 4 = _ := hd 4 (memB_mem.1 rfl);have ha := ha.s1 (d := 19) rfl e4
    exact hs_val ha rfl rfl (ld_50 rfl (below_load hb c0_) (below_load hb c1_)) rfl rfl
   | 6, _ =>
    intro val w1 a hb ha hd;have e0 : val 0 = _ := hd 0 (memB_mem.1 rfl);have e1 : val 1 = _ := hd 1 (memB_mem.1 rfl);have e5 : val 5 = _ := hd 5 (memB_mem.1 rfl);have ha := ha.sub (Sub.ins (d := 20) (Sub.ins (d := 16) (Sub.ins (d := 15) (Sub.nil _) (dep_get rfl e0)) (dep_get rfl e1)) (dep_get rfl e5));refine hs_call ha rfl rfl (cA3 cF58 rfl rfl rfl) (Step_any (hr.below ((hbw.trans (hb.mono hbw.size)).mono hB)) (Nat.le_trans hB (Nat.le_trans hbw.size hb.size)) hro hrt (by omega) (Rd.of_own (own_below ho1 hb (Nat.le_refl _))) (Rd.of_own (own_below ho2 hb (Nat.le_refl _))) (Nat.le_refl _) hev) rfl ?_
    rintro e w' ⟨⟨B1, d1, B2, d2, rfl, p1, p2⟩, hb'⟩
    exact ⟨_, rfl, hb', ⟨B1, d1, B2, d2, rfl, own_less p1 (Nat.le_trans hbw.size hb.size), own_less p2 (Nat.le_trans hbw.size hb.size)⟩⟩
   | k + 7, h => exact absurd h (by omega)
  ·intro val wR5 hb halc hd
   have e0 : val 0 = _ := hd 0 (by omega)
   have e1 : val 1 = _ := hd 1 (by omega)
   have e2 : val 2 = _ := hd 2 (by omega)
   have e3 : val 3 = _ := hd 3 (by omega)
   have e4 : val 4 = _ := hd 4 (by omega)
   have e5 : val 5 = _ := hd 5 (by omega)
   obtain ⟨B1, d1, B2, d2, e6, p1, p2⟩ := hd 6 (by omega)
   refine EL.ends (cs := [_, _, _, _, _, _, _]) ⟨e0, e1, e2, e3, e4, e5, e6, trivial⟩ rfl ?_;replace q1 := q1.bl hb;replace q2 := q2.bl hb;replace q4 := q4.bl hb;replace ho1 := own_below ho1 hb (Nat.le_refl _);replace ho2 := own_below ho2 hb (Nat.le_refl _);replace hbw := bo_ hbw hb;clear hb;clear ho1 ho2;have ho1 := p1;have ho2 := p2;clear p1 p2;refine EL.store rfl rfl q4 sz_62 rfl rfl rfl rfl ?_;intro w6 hq6 hg6;replace q1 := q1.gr hg6 n1_4;replace q2 := q2.gr hg6 n2_4;replace ho1 := own_type ho1 q4 rfl hg6;replace ho2 := own_type ho2 q4 rfl hg6;replace hbw := below_store hbw hg6 bhbw_4;replace q4 := hq6;clear hg6 hq6;refine EL.nil (EX.blk (EX.seq (EC.region (EL.mv rfl rfl ?_))));refine EL.val (x_add rfl rfl (c := ((i + 1 : Nat) : Int)) ((IntWalk.i64_in _ ⟨by first | omega | (simp only; omega), by first | omega | (simp only; omega)⟩).trans (by first | omega | (simp only; omega)))) rfl ?_
   refine EL.as rfl rfl (EL.nil ?_);refine EX.roundD (i + 1, B1, d1, B2, d2) ⟨rfl, trivial⟩ (by repeat first | with_reducible exact .refl _ | refine sp_ rfl ?_ | exact .refl _ | refine sd_ rfl ?_ | refine sn_ ?_) ⟨hlt, by rw [afterR_succ hlt]; exact step_ok hro hrt hev, q1, q2, q4, by simp only; rw [afterR_succ hlt]; exact ho1, by simp only; rw [afterR_succ hlt]; exact ho2, hbw⟩ (by simp only; omega)
 ·
  have hxe : i = l.length := by omega
  refine EC.seq (EC.seq (EC.region (EL.mv rfl rfl (EL.mv rfl rfl (EL.val (ln_29 rfl) rfl ?_)))));refine EL.val (x_lss rfl rfl (decide_eq_false (show ¬(((i : Nat) : Int) < ((l.length : Nat) : Int)) by omega))) rfl ?_
  refine EL.nil (EX.seq (EC.no rfl (EC.exit (EX.seq_exit (EX.seq_exit (EX.blk_here (EX.seq (EC.seq (EC.region ?_)))))))));refine EL.val (ld_62 rfl (q4.at (j := 0) rfl) (q4.at (j := 1) rfl)) rfl (EL.store rfl rfl q2 sz_62 rfl rfl rfl rfl ?_);intro w7 hq7 hg7;replace q1 := q1.gr hg7 n1_2;replace q4 := q4.gr hg7 n2_4.symm;replace ho1 := own_type ho1 q2 rfl hg7;replace ho2 := own_type ho2 q2 rfl hg7;replace hbw := below_store hbw hg7 bhbw_2;replace q2 := hq7;clear hg7 hq7;refine EL.nil (EX.seq (EC.ret ?_));rw [hxe, List.take_length] at ho1 ho2 hrt
  exact EX.done (resc1 rfl rfl (lv_62 (q2.at (j := 0) rfl) (q2.at (j := 1) rfl))) ⟨⟨A1, c1, A2, c2, rfl, ho1, ho2, hrt⟩, hbw⟩
section
variable {n : Nat} {σ : Sg} {w : World} {dst : Option Tmp} {ty : TypeId} {pos : String} {af : Array Edge} {g : Option (Nat × Bool)} {x y z : Operand} {at' : Array TypeId}
theorem cF54 : cF 54 := fun _ _ => by simp [go_sem]
end
set_option maxHeartbeats 1000000 in
theorem Forbids_any {ru : Rules} {ua up : List Value} {vl va vp vk : Value} {w : World} {B : Nat} (hr : RdRules w B vl va vp vk ru ua up) (hB : B ≤ w.heap.size) (hro : RulesOk ru) {t : RT} {kk : Nat} (ht : RtOk ru.levels.length kk t) {T1 T2 : Option Addr} {cT1 cT2 C : Nat} (h1 : Rd w C 2 (.slice T1 ru.levels.length cT1) ru.levels.length (bdsC t.res)) (h2 : Rd w C 1 (.slice T2 ru.levels.length cT2) ru.levels.length (ints t.aft)) (hC : C ≤ w.heap.size) {b c : Nat} (hb_ : b < ru.levels.length) (hc_ : c < ru.levels.length) :
  Calls Try.prog 54 #[rulesV vl va vp vk ru, .agg #[.slice T1 ru.levels.length cT1, .slice T2 ru.levels.length cT2], .int .i64 (b : Nat), .int .i64 (c : Nat)] w fun e w' => e = .returned (.tuple #[.bool (forbR ru t b c).1, .bool (forbR ru t b c).2]) ∧ Below w.heap.size w w' := by
 obtain ⟨Al, cl, Aa, ca, Ap, cp, Ak, ck, rfl, rfl, rfl, rfl⟩ := hr.sh4;have hba : b < ru.allow.length := by rw [hro.al]; exact hb_
 have hbp : b < ru.apart.length := by rw [hro.pl]; exact hb_
 have hca : c < (ru.allow.getD b []).length := by rw [hro.ar b hb_]; exact hc_
 have hcp : c < (ru.apart.getD b []).length := by rw [hro.pr b hb_]; exact hc_
 obtain ⟨bo, oo, br, orr, cr, eAp, hp1, hp2⟩ := sq_cells hr.apart hbp hcp;obtain ⟨bo2, oo2, br2, orr2, cr2, eAa, ha1, ha2⟩ := sq_cells hr.allow hba hca;obtain ⟨tb, to, eT1, _, d0, d1⟩ := bds_cells t.res b (by rw [ht.rl]; exact hb_) w C _ _ _ h1
 obtain ⟨ub, uo, eT2, _, d2⟩ := ints_cells t.aft b (by rw [ht.al]; exact hb_) w C _ _ _ h2
 have hbw := Below.refl w.heap.size w
 unfold rulesV
 refine EC.enter 67 Try.func54 rfl rfl rfl (EC.seq (EC.region (EL.newP (bx_28 rfl) rfl ?_)));intro g1 w1 q1 hb1 hg1 hl1;have bhbw_1 := Nat.le_trans hbw.size hg1;replace hbw := bo_ hbw hb1;clear hb1 hg1 hl1;refine EL.newP (bx_62 rfl) rfl ?_;intro g2 w2 q2 hb2 hg2 hl2;have n1_2 := q1.na hg2;have bhbw_2 := Nat.le_trans hbw.size hg2;replace q1 := q1.bl hb2;replace hbw := bo_ hbw hb2;clear hb2 hg2 hl2;refine EL.as rfl rfl (EL.as rfl rfl (EL.nil (EX.seq (EC.seq (EC.seq (EC.region (EL.val (fa_62_1 rfl) rfl (EL.val (ld_22 rfl (q2.at (j := 1) rfl)) rfl (EL.mv rfl rfl ?_)))))))));refine EL.val (ix_22 (by show some (Value.slice T2 _ _) = _; rw [eT2]) rfl hb_) rfl ?_
 refine EL.val (ld_3 rfl (below_load hbw d2)) rfl ?_
 by_cases ha_ : (t.aft.getD b 0) < 0
 ·
  refine EL.val (x_lss (r := true) rfl rfl (decide_eq_true ha_)) rfl (EL.nil (EX.seq (EC.yes rfl (EC.seq (EC.region (EL.as rfl rfl (EL.as rfl rfl (EL.nil (EX.seq ?_)))))))));refine EC.ret (EX.seq_ret ?_);have hres : forbR ru t b c = (false, false) := by unfold forbR; rw [if_pos ha_]; try rfl
  exact EX.done (res2 rfl rfl rfl) ⟨by rw [hres], hbw⟩
 ·
  refine EL.val (x_lss (r := false) rfl rfl (decide_eq_false ha_)) rfl (EL.nil (EX.seq (EC.no rfl (EC.skip (EX.seq (EC.seq ?_))))))
  by_cases hsn : (t.aft.getD b 0) < apartAt ru b c
  ·
   refine EC.regionQ (by kernel_rfl) (by kernel_rfl) ?_
   refine EQ.val (fun _ hw => (fa_62_1 rfl)) rfl ?_
   refine EQ.val (fun _ hw => (ld_22 rfl (below_load hw (q2.at (j := 1) rfl)))) rfl ?_
   refine EQ.mv rfl rfl ?_;refine EQ.val (fun _ hw => (ix_22 (by show some (Value.slice T2 _ _) = _; rw [eT2]) rfl hb_)) rfl ?_
   refine EQ.val (fun _ hw => (ld_3 rfl (below_load hw (below_load hbw d2)))) rfl ?_
   refine EQ.val (fun _ hw => (fa_28_3 rfl)) rfl ?_
   refine EQ.val (fun _ hw => (ld_25 rfl (below_load hw (q1.at (j := 4) rfl)))) rfl ?_
   refine EQ.mv rfl rfl ?_;refine EQ.val (fun _ hw => (ix_25 (by show some (Value.slice Ap _ _) = _; rw [eAp]) rfl hbp)) rfl ?_
   refine EQ.val (fun _ hw => (ld_22 rfl (below_load hw (below_load hbw hp1)))) rfl ?_
   refine EQ.mv rfl rfl ?_;refine EQ.val (fun _ hw => (ix_22 rfl rfl hcp)) rfl ?_
   refine EQ.val (fun _ hw => (ld_3 rfl (below_load hw (below_load hbw hp2)))) rfl ?_
   refine EQ.val (fun _ hw => (x_lss (r := true) rfl rfl (decide_eq_true hsn))) rfl ?_
   refine EQ.val (fun _ hw => (x_assign rfl)) rfl ?_
   refine EQ.fin (fun w3 hw_ => ?_)
   replace q1 := q1.bl hw_;replace q2 := q2.bl hw_;replace hbw := bo_ hbw hw_;clear hw_;refine EX.seq (EC.seq ?_);refine EC.regionQ (by kernel_rfl) (by kernel_rfl) ?_
   refine EQ.mv rfl rfl (EQ.mv rfl rfl (EQ.skip rfl rfl rfl rfl (EQ.skip rfl rfl rfl rfl (EQ.skip rfl rfl rfl rfl (EQ.skip rfl rfl rfl rfl (EQ.skip rfl rfl rfl rfl (EQ.skip rfl rfl rfl rfl (EQ.skip rfl rfl rfl rfl (EQ.skip rfl rfl rfl rfl ?_)))))))));refine EQ.skip rfl rfl rfl rfl (EQ.skip rfl rfl rfl rfl (EQ.skip rfl rfl rfl rfl (EQ.skip rfl rfl rfl rfl (EQ.skip rfl rfl rfl rfl (EQ.skip rfl rfl rfl rfl (EQ.skip rfl rfl rfl rfl ?_))))));refine EQ.val (fun _ hw => (x_pick_t rfl rfl)) rfl ?_
   refine EQ.mv rfl rfl (EQ.mv rfl rfl (EQ.skip rfl rfl rfl rfl (EQ.skip rfl rfl rfl rfl (EQ.skip rfl rfl rfl rfl (EQ.skip rfl rfl rfl rfl (EQ.skip rfl rfl rfl rfl (EQ.skip rfl rfl rfl rfl (EQ.skip rfl rfl rfl rfl (EQ.skip rfl rfl rfl rfl ?_)))))))));refine EQ.skip rfl rfl rfl rfl (EQ.skip rfl rfl rfl rfl (EQ.skip rfl rfl rfl rfl (EQ.skip rfl rfl rfl rfl (EQ.skip rfl rfl rfl rfl (EQ.skip rfl rfl rfl rfl (EQ.skip rfl rfl rfl rfl ?_))))));refine EQ.val (fun _ hw => (x_pick_t rfl rfl)) rfl ?_
   refine EQ.val (fun _ hw => (x_assign rfl)) rfl ?_
   refine EQ.val (fun _ hw => (x_assign rfl)) rfl ?_
   refine EQ.fin (fun w4 hw_ => ?_)
   replace q1 := q1.bl hw_;replace q2 := q2.bl hw_;replace hbw := bo_ hbw hw_;clear hw_;refine EX.seq (EC.ret ?_);have hres : forbR ru t b c = (true, true) := by unfold forbR; rw [if_neg ha_, decide_eq_true hsn]; try rfl
   exact EX.done (res2 rfl rfl rfl) ⟨by rw [hres], hbw⟩
  ·
   refine EC.regionQ (by kernel_rfl) (by kernel_rfl) ?_
   refine EQ.val (fun _ hw => (fa_62_1 rfl)) rfl ?_
   refine EQ.val (fun _ hw => (ld_22 rfl (below_load hw (q2.at (j := 1) rfl)))) rfl ?_
   refine EQ.mv rfl rfl ?_;refine EQ.val (fun _ hw => (ix_22 (by show some (Value.slice T2 _ _) = _; rw [eT2]) rfl hb_)) rfl ?_
   refine EQ.val (fun _ hw => (ld_3 rfl (below_load hw (below_load hbw d2)))) rfl ?_
   refine EQ.val (fun _ hw => (fa_28_3 rfl)) rfl ?_
   refine EQ.val (fun _ hw => (ld_25 rfl (below_load hw (q1.at (j := 4) rfl)))) rfl ?_
   refine EQ.mv rfl rfl ?_;refine EQ.val (fun _ hw => (ix_25 (by show some (Value.slice Ap _ _) = _; rw [eAp]) rfl hbp)) rfl ?_
   refine EQ.val (fun _ hw => (ld_22 rfl (below_load hw (below_load hbw hp1)))) rfl ?_
   refine EQ.mv rfl rfl ?_;refine EQ.val (fun _ hw => (ix_22 rfl rfl hcp)) rfl ?_
   refine EQ.val (fun _ hw => (ld_3 rfl (below_load hw (below_load hbw hp2)))) rfl ?_
   refine EQ.val (fun _ hw => (x_lss (r := false) rfl rfl (decide_eq_false hsn))) rfl ?_
   refine EQ.val (fun _ hw => (x_assign rfl)) rfl ?_
   refine EQ.fin (fun w5 hw_ => ?_)
   replace q1 := q1.bl hw_;replace q2 := q2.bl hw_;replace hbw := bo_ hbw hw_;clear hw_;refine EX.seq (EC.seq ?_)
   by_cases hhi : allowAt ru b c < (t.res.getD b bd0).hi <;> by_cases hlo : allowAt ru b c < (t.res.getD b bd0).lo
   ·
    refine EC.regionQ (by kernel_rfl) (by kernel_rfl) ?_
    refine EQ.mv rfl rfl (EQ.mv rfl rfl ?_);refine EQ.valg rfl rfl (fun _ hw => (fa_62_0 rfl)) rfl ?_
    refine EQ.valg rfl rfl (fun _ hw => (ld_60 rfl (below_load hw (q2.at (j := 0) rfl)))) rfl ?_
    refine EQ.mg rfl rfl rfl rfl ?_;refine EQ.valg rfl rfl (fun _ hw => (ix_60 (by show some (Value.slice T1 _ _) = _; rw [eT1]) rfl hb_)) rfl ?_
    refine EQ.valg rfl rfl (fun _ hw => (fa_24_1 rfl)) rfl ?_
    refine EQ.valg rfl rfl (fun _ hw => (ld_3 rfl (below_load hw (below_load hbw d1)))) rfl ?_
    refine EQ.valg rfl rfl (fun _ hw => (fa_28_2 rfl)) rfl ?_
    refine EQ.valg rfl rfl (fun _ hw => (ld_25 rfl (below_load hw (q1.at (j := 3) rfl)))) rfl ?_
    refine EQ.mg rfl rfl rfl rfl ?_;refine EQ.valg rfl rfl (fun _ hw => (ix_25 (by show some (Value.slice Aa _ _) = _; rw [eAa]) rfl hba)) rfl ?_
    refine EQ.valg rfl rfl (fun _ hw => (ld_22 rfl (below_load hw (below_load hbw ha1)))) rfl ?_
    refine EQ.mg rfl rfl rfl rfl ?_;refine EQ.valg rfl rfl (fun _ hw => (ix_22 rfl rfl hca)) rfl ?_
    refine EQ.valg rfl rfl (fun _ hw => (ld_3 rfl (below_load hw (below_load hbw ha2)))) rfl ?_
    refine EQ.valg rfl rfl (fun _ hw => (x_gtr (r := true) rfl rfl (decide_eq_true hhi))) rfl ?_
    refine EQ.val (fun _ hw => (x_pick_f rfl rfl)) rfl ?_
    refine EQ.mv rfl rfl (EQ.mv rfl rfl ?_);refine EQ.valg rfl rfl (fun _ hw => (fa_62_0 rfl)) rfl ?_
    refine EQ.valg rfl rfl (fun _ hw => (ld_60 rfl (below_load hw (q2.at (j := 0) rfl)))) rfl ?_
    refine EQ.mg rfl rfl rfl rfl ?_;refine EQ.valg rfl rfl (fun _ hw => (ix_60 (by show some (Value.slice T1 _ _) = _; rw [eT1]) rfl hb_)) rfl ?_
    refine EQ.valg rfl rfl (fun _ hw => (fa_24_0 rfl)) rfl ?_
    refine EQ.valg rfl rfl (fun _ hw => (ld_3 rfl (below_load hw (below_load hbw d0)))) rfl ?_
    refine EQ.valg rfl rfl (fun _ hw => (fa_28_2 rfl)) rfl ?_
    refine EQ.valg rfl rfl (fun _ hw => (ld_25 rfl (below_load hw (q1.at (j := 3) rfl)))) rfl ?_
    refine EQ.mg rfl rfl rfl rfl ?_;refine EQ.valg rfl rfl (fun _ hw => (ix_25 (by show some (Value.slice Aa _ _) = _; rw [eAa]) rfl hba)) rfl ?_
    refine EQ.valg rfl rfl (fun _ hw => (ld_22 rfl (below_load hw (below_load hbw ha1)))) rfl ?_
    refine EQ.mg rfl rfl rfl rfl ?_;refine EQ.valg rfl rfl (fun _ hw => (ix_22 rfl rfl hca)) rfl ?_
    refine EQ.valg rfl rfl (fun _ hw => (ld_3 rfl (below_load hw (below_load hbw ha2)))) rfl ?_
    refine EQ.valg rfl rfl (fun _ hw => (x_gtr (r := true) rfl rfl (decide_eq_true hlo))) rfl ?_
    refine EQ.val (fun _ hw => (x_pick_f rfl rfl)) rfl ?_
    refine EQ.val (fun _ hw => (x_assign rfl)) rfl ?_
    refine EQ.val (fun _ hw => (x_assign rfl)) rfl ?_
    refine EQ.fin (fun w6 hw_ => ?_)
    replace q1 := q1.bl hw_;replace q2 := q2.bl hw_;replace hbw := bo_ hbw hw_;clear hw_;refine EX.seq (EC.ret ?_);have hres : forbR ru t b c = (true, true) := by unfold forbR; rw [if_neg ha_, decide_eq_false hsn, decide_eq_true hhi, decide_eq_true hlo]; try rfl
    exact EX.done (res2 rfl rfl rfl) ⟨by rw [hres], hbw⟩
   ·
    refine EC.regionQ (by kernel_rfl) (by kernel_rfl) ?_
    refine EQ.mv rfl rfl (EQ.mv rfl rfl ?_);refine EQ.valg rfl rfl (fun _ hw => (fa_62_0 rfl)) rfl ?_
    refine EQ.valg rfl rfl (fun _ hw => (ld_60 rfl (below_load hw (q2.at (j := 0) rfl)))) rfl ?_
    refine EQ.mg rfl rfl rfl rfl ?_;refine EQ.valg rfl rfl (fun _ hw => (ix_60 (by show some (Value.slice T1 _ _) = _; rw [eT1]) rfl hb_)) rfl ?_
    refine EQ.valg rfl rfl (fun _ hw => (fa_24_1 rfl)) rfl ?_
    refine EQ.valg rfl rfl (fun _ hw => (ld_3 rfl (below_load hw (below_load hbw d1)))) rfl ?_
    refine EQ.valg rfl rfl (fun _ hw => (fa_28_2 rfl)) rfl ?_
    refine EQ.valg rfl rfl (fun _ hw => (ld_25 rfl (below_load hw (q1.at (j := 3) rfl)))) rfl ?_
    refine EQ.mg rfl rfl rfl rfl ?_;refine EQ.valg rfl rfl (fun _ hw => (ix_25 (by show some (Value.slice Aa _ _) = _; rw [eAa]) rfl hba)) rfl ?_
    refine EQ.valg rfl rfl (fun _ hw => (ld_22 rfl (below_load hw (below_load hbw ha1)))) rfl ?_
    refine EQ.mg rfl rfl rfl rfl ?_;refine EQ.valg rfl rfl (fun _ hw => (ix_22 rfl rfl hca)) rfl ?_
    refine EQ.valg rfl rfl (fun _ hw => (ld_3 rfl (below_load hw (below_load hbw ha2)))) rfl ?_
    refine EQ.valg rfl rfl (fun _ hw => (x_gtr (r := true) rfl rfl (decide_eq_true hhi))) rfl ?_
    refine EQ.val (fun _ hw => (x_pick_f rfl rfl)) rfl ?_
    refine EQ.mv rfl rfl (EQ.mv rfl rfl ?_);refine EQ.valg rfl rfl (fun _ hw => (fa_62_0 rfl)) rfl ?_
    refine EQ.valg rfl rfl (fun _ hw => (ld_60 rfl (below_load hw (q2.at (j := 0) rfl)))) rfl ?_
    refine EQ.mg rfl rfl rfl rfl ?_;refine EQ.valg rfl rfl (fun _ hw => (ix_60 (by show some (Value.slice T1 _ _) = _; rw [eT1]) rfl hb_)) rfl ?_
    refine EQ.valg rfl rfl (fun _ hw => (fa_24_0 rfl)) rfl ?_
    refine EQ.valg rfl rfl (fun _ hw => (ld_3 rfl (below_load hw (below_load hbw d0)))) rfl ?_
    refine EQ.valg rfl rfl (fun _ hw => (fa_28_2 rfl)) rfl ?_
    refine EQ.valg rfl rfl (fun _ hw => (ld_25 rfl (below_load hw (q1.at (j := 3) rfl)))) rfl ?_
    refine EQ.mg rfl rfl rfl rfl ?_;refine EQ.valg rfl rfl (fun _ hw => (ix_25 (by show some (Value.slice Aa _ _) = _; rw [eAa]) rfl hba)) rfl ?_
    refine EQ.valg rfl rfl (fun _ hw => (ld_22 rfl (below_load hw (below_load hbw ha1)))) rfl ?_
    refine EQ.mg rfl rfl rfl rfl ?_;refine EQ.valg rfl rfl (fun _ hw => (ix_22 rfl rfl hca)) rfl ?_
    refine EQ.valg rfl rfl (fun _ hw => (ld_3 rfl (below_load hw (below_load hbw ha2)))) rfl ?_
    refine EQ.valg rfl rfl (fun _ hw => (x_gtr (r := false) rfl rfl (decide_eq_false hlo))) rfl ?_
    refine EQ.val (fun _ hw => (x_pick_f rfl rfl)) rfl ?_
    refine EQ.val (fun _ hw => (x_assign rfl)) rfl ?_
    refine EQ.val (fun _ hw => (x_assign rfl)) rfl ?_
    refine EQ.fin (fun w7 hw_ => ?_)
    replace q1 := q1.bl hw_;replace q2 := q2.bl hw_;replace hbw := bo_ hbw hw_;clear hw_;refine EX.seq (EC.ret ?_);have hres : forbR ru t b c = (true, false) := by unfold forbR; rw [if_neg ha_, decide_eq_false hsn, decide_eq_true hhi, decide_eq_false hlo]; try rfl
    exact EX.done (res2 rfl rfl rfl) ⟨by rw [hres], hbw⟩
   ·
    refine EC.regionQ (by kernel_rfl) (by kernel_rfl) ?_
    refine EQ.mv rfl rfl (EQ.mv rfl rfl ?_);refine EQ.valg rfl rfl (fun _ hw => (fa_62_0 rfl)) rfl ?_
    refine EQ.valg rfl rfl (fun _ hw => (ld_60 rfl (below_load hw (q2.at (j := 0) rfl)))) rfl ?_
    refine EQ.mg rfl rfl rfl rfl ?_;refine EQ.valg rfl rfl (fun _ hw => (ix_60 (by show some (Value.slice T1 _ _) = _; rw [eT1]) rfl hb_)) rfl ?_
    refine EQ.valg rfl rfl (fun _ hw => (fa_24_1 rfl)) rfl ?_
    refine EQ.valg rfl rfl (fun _ hw => (ld_3 rfl (below_load hw (below_load hbw d1)))) rfl ?_
    refine EQ.valg rfl rfl (fun _ hw => (fa_28_2 rfl)) rfl ?_
    refine EQ.valg rfl rfl (fun _ hw => (ld_25 rfl (below_load hw (q1.at (j := 3) rfl)))) rfl ?_
    refine EQ.mg rfl rfl rfl rfl ?_;refine EQ.valg rfl rfl (fun _ hw => (ix_25 (by show some (Value.slice Aa _ _) = _; rw [eAa]) rfl hba)) rfl ?_
    refine EQ.valg rfl rfl (fun _ hw => (ld_22 rfl (below_load hw (below_load hbw ha1)))) rfl ?_
    refine EQ.mg rfl rfl rfl rfl ?_;refine EQ.valg rfl rfl (fun _ hw => (ix_22 rfl rfl hca)) rfl ?_
    refine EQ.valg rfl rfl (fun _ hw => (ld_3 rfl (below_load hw (below_load hbw ha2)))) rfl ?_
    refine EQ.valg rfl rfl (fun _ hw => (x_gtr (r := false) rfl rfl (decide_eq_false hhi))) rfl ?_
    refine EQ.val (fun _ hw => (x_pick_f rfl rfl)) rfl ?_
    refine EQ.mv rfl rfl (EQ.mv rfl rfl ?_);refine EQ.valg rfl rfl (fun _ hw => (fa_62_0 rfl)) rfl ?_
    refine EQ.valg rfl rfl (fun _ hw => (ld_60 rfl (below_load hw (q2.at (j := 0) rfl)))) rfl ?_
    refine EQ.mg rfl rfl rfl rfl ?_;refine EQ.valg rfl rfl (fun _ hw => (ix_60 (by show some (Value.slice T1 _ _) = _; rw [eT1]) rfl hb_)) rfl ?_
    refine EQ.valg rfl rfl (fun _ hw => (fa_24_0 rfl)) rfl ?_
    refine EQ.valg rfl rfl (fun _ hw => (ld_3 rfl (below_load hw (below_load hbw d0)))) rfl ?_
    refine EQ.valg rfl rfl (fun _ hw => (fa_28_2 rfl)) rfl ?_
    refine EQ.valg rfl rfl (fun _ hw => (ld_25 rfl (below_load hw (q1.at (j := 3) rfl)))) rfl ?_
    refine EQ.mg rfl rfl rfl rfl ?_;refine EQ.valg rfl rfl (fun _ hw => (ix_25 (by show some (Value.slice Aa _ _) = _; rw [eAa]) rfl hba)) rfl ?_
    refine EQ.valg rfl rfl (fun _ hw => (ld_22 rfl (below_load hw (below_load hbw ha1)))) rfl ?_
    refine EQ.mg rfl rfl rfl rfl ?_;refine EQ.valg rfl rfl (fun _ hw => (ix_22 rfl rfl hca)) rfl ?_
    refine EQ.valg rfl rfl (fun _ hw => (ld_3 rfl (below_load hw (below_load hbw ha2)))) rfl ?_
    refine EQ.valg rfl rfl (fun _ hw => (x_gtr (r := true) rfl rfl (decide_eq_true hlo))) rfl ?_
    refine EQ.val (fun _ hw => (x_pick_f rfl rfl)) rfl ?_
    refine EQ.val (fun _ hw => (x_assign rfl)) rfl ?_
    refine EQ.val (fun _ hw => (x_assign rfl)) rfl ?_
    refine EQ.fin (fun w8 hw_ => ?_)
    replace q1 := q1.bl hw_;replace q2 := q2.bl hw_;replace hbw := bo_ hbw hw_;clear hw_;refine EX.seq (EC.ret ?_);have hres : forbR ru t b c = (false, true) := by unfold forbR; rw [if_neg ha_, decide_eq_false hsn, decide_eq_false hhi, decide_eq_true hlo]; try rfl
    exact EX.done (res2 rfl rfl rfl) ⟨by rw [hres], hbw⟩
   ·
    refine EC.regionQ (by kernel_rfl) (by kernel_rfl) ?_
    refine EQ.mv rfl rfl (EQ.mv rfl rfl ?_);refine EQ.valg rfl rfl (fun _ hw => (fa_62_0 rfl)) rfl ?_
    refine EQ.valg rfl rfl (fun _ hw => (ld_60 rfl (below_load hw (q2.at (j := 0) rfl)))) rfl ?_
    refine EQ.mg rfl rfl rfl rfl ?_;refine EQ.valg rfl rfl (fun _ hw => (ix_60 (by show some (Value.slice T1 _ _) = _; rw [eT1]) rfl hb_)) rfl ?_
    refine EQ.valg rfl rfl (fun _ hw => (fa_24_1 rfl)) rfl ?_
    refine EQ.valg rfl rfl (fun _ hw => (ld_3 rfl (below_load hw (below_load hbw d1)))) rfl ?_
    refine EQ.valg rfl rfl (fun _ hw => (fa_28_2 rfl)) rfl ?_
    refine EQ.valg rfl rfl (fun _ hw => (ld_25 rfl (below_load hw (q1.at (j := 3) rfl)))) rfl ?_
    refine EQ.mg rfl rfl rfl rfl ?_;refine EQ.valg rfl rfl (fun _ hw => (ix_25 (by show some (Value.slice Aa _ _) = _; rw [eAa]) rfl hba)) rfl ?_
    refine EQ.valg rfl rfl (fun _ hw => (ld_22 rfl (below_load hw (below_load hbw ha1)))) rfl ?_
    refine EQ.mg rfl rfl rfl rfl ?_;refine EQ.valg rfl rfl (fun _ hw => (ix_22 rfl rfl hca)) rfl ?_
    refine EQ.valg rfl rfl (fun _ hw => (ld_3 rfl (below_load hw (below_load hbw ha2)))) rfl ?_
    refine EQ.valg rfl rfl (fun _ hw => (x_gtr (r := false) rfl rfl (decide_eq_false hhi))) rfl ?_
    refine EQ.val (fun _ hw => (x_pick_f rfl rfl)) rfl ?_
    refine EQ.mv rfl rfl (EQ.mv rfl rfl ?_);refine EQ.valg rfl rfl (fun _ hw => (fa_62_0 rfl)) rfl ?_
    refine EQ.valg rfl rfl (fun _ hw => (ld_60 rfl (below_load hw (q2.at (j := 0) rfl)))) rfl ?_
    refine EQ.mg rfl rfl rfl rfl ?_;refine EQ.valg rfl rfl (fun _ hw => (ix_60 (by show some (Value.slice T1 _ _) = _; rw [eT1]) rfl hb_)) rfl ?_
    refine EQ.valg rfl rfl (fun _ hw => (fa_24_0 rfl)) rfl ?_
    refine EQ.valg rfl rfl (fun _ hw => (ld_3 rfl (below_load hw (below_load hbw d0)))) rfl ?_
    refine EQ.valg rfl rfl (fun _ hw => (fa_28_2 rfl)) rfl ?_
    refine EQ.valg rfl rfl (fun _ hw => (ld_25 rfl (below_load hw (q1.at (j := 3) rfl)))) rfl ?_
    refine EQ.mg rfl rfl rfl rfl ?_;refine EQ.valg rfl rfl (fun _ hw => (ix_25 (by show some (Value.slice Aa _ _) = _; rw [eAa]) rfl hba)) rfl ?_
    refine EQ.valg rfl rfl (fun _ hw => (ld_22 rfl (below_load hw (below_load hbw ha1)))) rfl ?_
    refine EQ.mg rfl rfl rfl rfl ?_;refine EQ.valg rfl rfl (fun _ hw => (ix_22 rfl rfl hca)) rfl ?_
    refine EQ.valg rfl rfl (fun _ hw => (ld_3 rfl (below_load hw (below_load hbw ha2)))) rfl ?_
    refine EQ.valg rfl rfl (fun _ hw => (x_gtr (r := false) rfl rfl (decide_eq_false hlo))) rfl ?_
    refine EQ.val (fun _ hw => (x_pick_f rfl rfl)) rfl ?_
    refine EQ.val (fun _ hw => (x_assign rfl)) rfl ?_
    refine EQ.val (fun _ hw => (x_assign rfl)) rfl ?_
    refine EQ.fin (fun w9 hw_ => ?_)
    replace q1 := q1.bl hw_;replace q2 := q2.bl hw_;replace hbw := bo_ hbw hw_;clear hw_;refine EX.seq (EC.ret ?_);have hres : forbR ru t b c = (false, false) := by unfold forbR; rw [if_neg ha_, decide_eq_false hsn, decide_eq_false hhi, decide_eq_false hlo]; try rfl
    exact EX.done (res2 rfl rfl rfl) ⟨by rw [hres], hbw⟩
def mayR (ru : Rules) (t : RT) (c : Nat) : Nat → Bool × Bool
 | 0 => (true, true)
 | k + 1 => ((mayR ru t c k).1 && !(forbR ru t k c).1, (mayR ru t c k).2 && !(forbR ru t k c).2)
theorem mayR_sim {ru : Rules} (hro : RulesOk ru) {tk : List Tr} {u : RT} (h : Sim ru.levels.length tk u) {c : Nat} : ∀ k, k ≤ ru.levels.length → mayR ru u c k = mayT ru tk c k
 | 0, _ => rfl
 | k + 1, hk => by
  unfold mayR mayT
  rw [mayR_sim hro h k (by omega), sim_forb hro h (show k < ru.levels.length by omega)]
set_option maxHeartbeats 2000000 in
theorem rMay_any {ru : Rules} {ua up : List Value} {vl va vp vk : Value} {w : World} {B : Nat} (hr : RdRules w B vl va vp vk ru ua up) (hB : B ≤ w.heap.size) (hro : RulesOk ru) {t : RT} {kk : Nat} (ht : RtOk ru.levels.length kk t) {T1 T2 : Option Addr} {cT1 cT2 C : Nat} (h1 : Rd w C 2 (.slice T1 ru.levels.length cT1) ru.levels.length (bdsC t.res)) (h2 : Rd w C 1 (.slice T2 ru.levels.length cT2) ru.levels.length (ints t.aft)) (hC : C ≤ w.heap.size) {c : Nat} (hc_ : c < ru.levels.length) :
  Calls Try.prog 36 #[rulesV vl va vp vk ru, .agg #[.slice T1 ru.levels.length cT1, .slice T2 ru.levels.length cT2], .int .i64 (c : Nat)] w fun e w' => e = .returned (.tuple #[.bool (mayR ru t c ru.levels.length).1, .bool (mayR ru t c ru.levels.length).2]) ∧ Below w.heap.size w w' := by
 obtain ⟨Al, cl, Aa, ca, Ap, cp, Ak, ck, rfl, rfl, rfl, rfl⟩ := hr.sh4;have hn8 := hro.n8;have hbw := Below.refl w.heap.size w
 unfold rulesV
 refine EC.enter 40 Try.func36 rfl rfl rfl (EC.seq (EC.region (EL.newP (bx_28 rfl) rfl ?_)));intro g1 w1 q1 hb1 hg1 hl1;have bhbw_1 := Nat.le_trans hbw.size hg1;replace hbw := bo_ hbw hb1;clear hb1 hg1 hl1;refine EL.newP (bx_62 rfl) rfl ?_;intro g2 w2 q2 hb2 hg2 hl2;have n1_2 := q1.na hg2;have bhbw_2 := Nat.le_trans hbw.size hg2;replace q1 := q1.bl hb2;replace hbw := bo_ hbw hb2;clear hb2 hg2 hl2;refine EL.as rfl rfl (EL.as rfl rfl (EL.nil (EX.seq (EC.seq (EC.region (EL.as rfl rfl (EL.as rfl rfl (EL.nil (EX.seq ?_)))))))));refine EC.seq (EC.seq (EC.region (EL.as rfl rfl (EL.nil (EX.seq (EC.block ?_))))));refine EC.loopD [8, 9, 10, 11, 12, 13, 14, 15, 16, 17, 18, 19, 20, 21, 22, 23, 24, 25, 26, 27, 28, 29, 30, 31, 32, 33, 34, 35, 36, 37] (fun x : Nat => [(8, .bool (mayR ru t c x).1), (9, .bool (mayR ru t c x).2), (10, .int .i64 (x : Nat))]) (fun x W => x ≤ ru.levels.length ∧ Blk W g1 28 #[.slice Al ru.levels.length cl, .int .i64 ru.fade.lo, .int .i64 ru.fade.hi, .slice Aa ru.allow.length ca, .slice Ap ru.apart.length cp, .slice Ak ru.kinds.length ck] ∧ Blk W g2 62 #[.slice T1 ru.levels.length cT1, .slice T2 ru.levels.length cT2] ∧ Below w.heap.size w W) (fun x => ru.levels.length - x) 0 ⟨Nat.zero_le _, q1, q2, hbw⟩ ⟨rfl, rfl, rfl, trivial⟩ ?_
 clear q1 q2 hbw
 rintro x wx ⟨hx, q1, q2, hbw⟩
 by_cases hlt : x < ru.levels.length
 ·
  cases h1_ : (mayR ru t c x).1 <;> cases h2_ : (mayR ru t c x).2
  ·
   refine EC.seq (EC.seq (EC.region (EL.mv rfl rfl (EL.val (fa_62_1 rfl) rfl (EL.val (ld_22 rfl (q2.at (j := 1) rfl)) rfl (EL.val (ln_22 rfl) rfl ?_))))));refine EL.val (x_lss rfl rfl (decide_eq_true (show (((x : Nat) : Int) < ((ru.levels.length : Nat) : Int)) by omega))) rfl ?_
   refine EL.nil (EX.seq (EC.yes rfl (EC.skip (EX.seq (EC.seq (EC.block (EC.seq (EC.region (EL.val (ld_28 rfl (q1.at (j := 0) rfl) (q1.at (j := 1) rfl) (q1.at (j := 2) rfl) (q1.at (j := 3) rfl) (q1.at (j := 4) rfl) (q1.at (j := 5) rfl)) rfl ?_)))))))));refine EL.val (ld_62 rfl (q2.at (j := 0) rfl) (q2.at (j := 1) rfl)) rfl (EL.mv rfl rfl (EL.mv rfl rfl ?_));refine EL.call (cA4 cF54 rfl rfl rfl rfl) rfl (Forbids_any (hr.below (hbw.mono hB)) (Nat.le_trans hB hbw.size) hro ht (h1.below (hbw.mono hC)) (h2.below (hbw.mono hC)) (Nat.le_trans hC hbw.size) (show x < ru.levels.length from hlt) hc_) ?_
   rintro e w3 ⟨rfl, hc3⟩
   refine ⟨_, rfl, ?_⟩;replace q1 := q1.bl hc3;replace q2 := q2.bl hc3;replace hbw := bo_ hbw hc3;clear hc3;refine EL.mv rfl rfl (EL.xt rfl rfl rfl (EL.xt rfl rfl rfl (EL.as rfl rfl (EL.as rfl rfl (EL.nil (EX.seq (EC.region (EL.mv rfl rfl (EL.mv rfl rfl ?_)))))))));refine EL.skip rfl rfl rfl rfl (EL.skip rfl rfl rfl rfl (EL.pf rfl rfl rfl (EL.mv rfl rfl (EL.mv rfl rfl (EL.skip rfl rfl rfl rfl (EL.skip rfl rfl rfl rfl (EL.pf rfl rfl rfl (EL.as rfl rfl (EL.as rfl rfl ?_)))))))));refine EL.nil (EX.blk (EX.seq (EC.region (EL.mv rfl rfl ?_))));refine EL.val (x_add rfl rfl (c := ((x + 1 : Nat) : Int)) ((IntWalk.i64_in _ ⟨by first | omega | (simp only; omega), by first | omega | (simp only; omega)⟩).trans (by first | omega | (simp only; omega)))) rfl ?_
   refine EL.as rfl rfl (EL.nil ?_);refine EX.roundD (x + 1) ⟨agree_b (by simp [mayR, *]) rfl, agree_b (by simp [mayR, *]) rfl, rfl, trivial⟩ (by repeat first | with_reducible exact .refl _ | refine sp_ rfl ?_ | exact .refl _ | refine sd_ rfl ?_ | refine sn_ ?_) ⟨hlt, q1, q2, hbw⟩ (by omega)
  ·
   refine EC.seq (EC.seq (EC.region (EL.mv rfl rfl (EL.val (fa_62_1 rfl) rfl (EL.val (ld_22 rfl (q2.at (j := 1) rfl)) rfl (EL.val (ln_22 rfl) rfl ?_))))));refine EL.val (x_lss rfl rfl (decide_eq_true (show (((x : Nat) : Int) < ((ru.levels.length : Nat) : Int)) by omega))) rfl ?_
   refine EL.nil (EX.seq (EC.yes rfl (EC.skip (EX.seq (EC.seq (EC.block (EC.seq (EC.region (EL.val (ld_28 rfl (q1.at (j := 0) rfl) (q1.at (j := 1) rfl) (q1.at (j := 2) rfl) (q1.at (j := 3) rfl) (q1.at (j := 4) rfl) (q1.at (j := 5) rfl)) rfl ?_)))))))));refine EL.val (ld_62 rfl (q2.at (j := 0) rfl) (q2.at (j := 1) rfl)) rfl (EL.mv rfl rfl (EL.mv rfl rfl ?_));refine EL.call (cA4 cF54 rfl rfl rfl rfl) rfl (Forbids_any (hr.below (hbw.mono hB)) (Nat.le_trans hB hbw.size) hro ht (h1.below (hbw.mono hC)) (h2.below (hbw.mono hC)) (Nat.le_trans hC hbw.size) (show x < ru.levels.length from hlt) hc_) ?_
   rintro e w4 ⟨rfl, hc4⟩
   refine ⟨_, rfl, ?_⟩;replace q1 := q1.bl hc4;replace q2 := q2.bl hc4;replace hbw := bo_ hbw hc4;clear hc4;refine EL.mv rfl rfl (EL.xt rfl rfl rfl (EL.xt rfl rfl rfl (EL.as rfl rfl (EL.as rfl rfl (EL.nil (EX.seq ?_))))))
   cases h4_ : (forbR ru t x c).2
   ·
    refine EC.region (EL.mv rfl rfl (EL.mv rfl rfl (EL.skip rfl rfl rfl rfl (EL.skip rfl rfl rfl rfl (EL.pf rfl rfl rfl (EL.mv rfl rfl (EL.mv rfl rfl (EL.mg rfl rfl rfl rfl (EL.valg rfl rfl (x_not rfl) rfl ?_)))))))));refine EL.pt rfl rfl rfl (EL.as rfl rfl (EL.as rfl rfl (EL.nil (EX.blk (EX.seq (EC.region (EL.mv rfl rfl ?_)))))));refine EL.val (x_add rfl rfl (c := ((x + 1 : Nat) : Int)) ((IntWalk.i64_in _ ⟨by first | omega | (simp only; omega), by first | omega | (simp only; omega)⟩).trans (by first | omega | (simp only; omega)))) rfl ?_
    refine EL.as rfl rfl (EL.nil ?_);refine EX.roundD (x + 1) ⟨agree_b (by simp [mayR, *]) rfl, agree_b (by simp [mayR, *]) rfl, rfl, trivial⟩ (by repeat first | with_reducible exact .refl _ | refine sp_ rfl ?_ | exact .refl _ | refine sd_ rfl ?_ | refine sn_ ?_) ⟨hlt, q1, q2, hbw⟩ (by omega)
   ·
    refine EC.region (EL.mv rfl rfl (EL.mv rfl rfl (EL.skip rfl rfl rfl rfl (EL.skip rfl rfl rfl rfl (EL.pf rfl rfl rfl (EL.mv rfl rfl (EL.mv rfl rfl (EL.mg rfl rfl rfl rfl (EL.valg rfl rfl (x_not rfl) rfl ?_)))))))));refine EL.pt rfl rfl rfl (EL.as rfl rfl (EL.as rfl rfl (EL.nil (EX.blk (EX.seq (EC.region (EL.mv rfl rfl ?_)))))));refine EL.val (x_add rfl rfl (c := ((x + 1 : Nat) : Int)) ((IntWalk.i64_in _ ⟨by first | omega | (simp only; omega), by first | omega | (simp only; omega)⟩).trans (by first | omega | (simp only; omega)))) rfl ?_
    refine EL.as rfl rfl (EL.nil ?_);refine EX.roundD (x + 1) ⟨agree_b (by simp [mayR, *]) rfl, agree_b (by simp [mayR, *]) rfl, rfl, trivial⟩ (by repeat first | with_reducible exact .refl _ | refine sp_ rfl ?_ | exact .refl _ | refine sd_ rfl ?_ | refine sn_ ?_) ⟨hlt, q1, q2, hbw⟩ (by omega)
  ·
   refine EC.seq (EC.seq (EC.region (EL.mv rfl rfl (EL.val (fa_62_1 rfl) rfl (EL.val (ld_22 rfl (q2.at (j := 1) rfl)) rfl (EL.val (ln_22 rfl) rfl ?_))))));refine EL.val (x_lss rfl rfl (decide_eq_true (show (((x : Nat) : Int) < ((ru.levels.length : Nat) : Int)) by omega))) rfl ?_
   refine EL.nil (EX.seq (EC.yes rfl (EC.skip (EX.seq (EC.seq (EC.block (EC.seq (EC.region (EL.val (ld_28 rfl (q1.at (j := 0) rfl) (q1.at (j := 1) rfl) (q1.at (j := 2) rfl) (q1.at (j := 3) rfl) (q1.at (j := 4) rfl) (q1.at (j := 5) rfl)) rfl ?_)))))))));refine EL.val (ld_62 rfl (q2.at (j := 0) rfl) (q2.at (j := 1) rfl)) rfl (EL.mv rfl rfl (EL.mv rfl rfl ?_));refine EL.call (cA4 cF54 rfl rfl rfl rfl) rfl (Forbids_any (hr.below (hbw.mono hB)) (Nat.le_trans hB hbw.size) hro ht (h1.below (hbw.mono hC)) (h2.below (hbw.mono hC)) (Nat.le_trans hC hbw.size) (show x < ru.levels.length from hlt) hc_) ?_
   rintro e w5 ⟨rfl, hc5⟩
   refine ⟨_, rfl, ?_⟩;replace q1 := q1.bl hc5;replace q2 := q2.bl hc5;replace hbw := bo_ hbw hc5;clear hc5;refine EL.mv rfl rfl (EL.xt rfl rfl rfl (EL.xt rfl rfl rfl (EL.as rfl rfl (EL.as rfl rfl (EL.nil (EX.seq ?_))))))
   cases h3_ : (forbR ru t x c).1
   ·
    refine EC.region (EL.mv rfl rfl (EL.mv rfl rfl (EL.mg rfl rfl rfl rfl (EL.valg rfl rfl (x_not rfl) rfl (EL.pt rfl rfl rfl (EL.mv rfl rfl (EL.mv rfl rfl (EL.skip rfl rfl rfl rfl (EL.skip rfl rfl rfl rfl ?_)))))))));refine EL.pf rfl rfl rfl (EL.as rfl rfl (EL.as rfl rfl (EL.nil (EX.blk (EX.seq (EC.region (EL.mv rfl rfl ?_)))))));refine EL.val (x_add rfl rfl (c := ((x + 1 : Nat) : Int)) ((IntWalk.i64_in _ ⟨by first | omega | (simp only; omega), by first | omega | (simp only; omega)⟩).trans (by first | omega | (simp only; omega)))) rfl ?_
    refine EL.as rfl rfl (EL.nil ?_);refine EX.roundD (x + 1) ⟨agree_b (by simp [mayR, *]) rfl, agree_b (by simp [mayR, *]) rfl, rfl, trivial⟩ (by repeat first | with_reducible exact .refl _ | refine sp_ rfl ?_ | exact .refl _ | refine sd_ rfl ?_ | refine sn_ ?_) ⟨hlt, q1, q2, hbw⟩ (by omega)
   ·
    refine EC.region (EL.mv rfl rfl (EL.mv rfl rfl (EL.mg rfl rfl rfl rfl (EL.valg rfl rfl (x_not rfl) rfl (EL.pt rfl rfl rfl (EL.mv rfl rfl (EL.mv rfl rfl (EL.skip rfl rfl rfl rfl (EL.skip rfl rfl rfl rfl ?_)))))))));refine EL.pf rfl rfl rfl (EL.as rfl rfl (EL.as rfl rfl (EL.nil (EX.blk (EX.seq (EC.region (EL.mv rfl rfl ?_)))))));refine EL.val (x_add rfl rfl (c := ((x + 1 : Nat) : Int)) ((IntWalk.i64_in _ ⟨by first | omega | (simp only; omega), by first | omega | (simp only; omega)⟩).trans (by first | omega | (simp only; omega)))) rfl ?_
    refine EL.as rfl rfl (EL.nil ?_);refine EX.roundD (x + 1) ⟨agree_b (by simp [mayR, *]) rfl, agree_b (by simp [mayR, *]) rfl, rfl, trivial⟩ (by repeat first | with_reducible exact .refl _ | refine sp_ rfl ?_ | exact .refl _ | refine sd_ rfl ?_ | refine sn_ ?_) ⟨hlt, q1, q2, hbw⟩ (by omega)
  ·
   refine EC.seq (EC.seq (EC.region (EL.mv rfl rfl (EL.val (fa_62_1 rfl) rfl (EL.val (ld_22 rfl (q2.at (j := 1) rfl)) rfl (EL.val (ln_22 rfl) rfl ?_))))));refine EL.val (x_lss rfl rfl (decide_eq_true (show (((x : Nat) : Int) < ((ru.levels.length : Nat) : Int)) by omega))) rfl ?_
   refine EL.nil (EX.seq (EC.yes rfl (EC.skip (EX.seq (EC.seq (EC.block (EC.seq (EC.region (EL.val (ld_28 rfl (q1.at (j := 0) rfl) (q1.at (j := 1) rfl) (q1.at (j := 2) rfl) (q1.at (j := 3) rfl) (q1.at (j := 4) rfl) (q1.at (j := 5) rfl)) rfl ?_)))))))));refine EL.val (ld_62 rfl (q2.at (j := 0) rfl) (q2.at (j := 1) rfl)) rfl (EL.mv rfl rfl (EL.mv rfl rfl ?_));refine EL.call (cA4 cF54 rfl rfl rfl rfl) rfl (Forbids_any (hr.below (hbw.mono hB)) (Nat.le_trans hB hbw.size) hro ht (h1.below (hbw.mono hC)) (h2.below (hbw.mono hC)) (Nat.le_trans hC hbw.size) (show x < ru.levels.length from hlt) hc_) ?_
   rintro e w6 ⟨rfl, hc6⟩
   refine ⟨_, rfl, ?_⟩;replace q1 := q1.bl hc6;replace q2 := q2.bl hc6;replace hbw := bo_ hbw hc6;clear hc6;refine EL.mv rfl rfl (EL.xt rfl rfl rfl (EL.xt rfl rfl rfl (EL.as rfl rfl (EL.as rfl rfl (EL.nil (EX.seq ?_))))))
   cases h3_ : (forbR ru t x c).1 <;> cases h4_ : (forbR ru t x c).2
   ·
    refine EC.region (EL.mv rfl rfl (EL.mv rfl rfl (EL.mg rfl rfl rfl rfl (EL.valg rfl rfl (x_not rfl) rfl (EL.pt rfl rfl rfl (EL.mv rfl rfl (EL.mv rfl rfl (EL.mg rfl rfl rfl rfl (EL.valg rfl rfl (x_not rfl) rfl ?_)))))))));refine EL.pt rfl rfl rfl (EL.as rfl rfl (EL.as rfl rfl (EL.nil (EX.blk (EX.seq (EC.region (EL.mv rfl rfl ?_)))))));refine EL.val (x_add rfl rfl (c := ((x + 1 : Nat) : Int)) ((IntWalk.i64_in _ ⟨by first | omega | (simp only; omega), by first | omega | (simp only; omega)⟩).trans (by first | omega | (simp only; omega)))) rfl ?_
    refine EL.as rfl rfl (EL.nil ?_);refine EX.roundD (x + 1) ⟨agree_b (by simp [mayR, *]) rfl, agree_b (by simp [mayR, *]) rfl, rfl, trivial⟩ (by repeat first | with_reducible exact .refl _ | refine sp_ rfl ?_ | exact .refl _ | refine sd_ rfl ?_ | refine sn_ ?_) ⟨hlt, q1, q2, hbw⟩ (by omega)
   ·
    refine EC.region (EL.mv rfl rfl (EL.mv rfl rfl (EL.mg rfl rfl rfl rfl (EL.valg rfl rfl (x_not rfl) rfl (EL.pt rfl rfl rfl (EL.mv rfl rfl (EL.mv rfl rfl (EL.mg rfl rfl rfl rfl (EL.valg rfl rfl (x_not rfl) rfl ?_)))))))));refine EL.pt rfl rfl rfl (EL.as rfl rfl (EL.as rfl rfl (EL.nil (EX.blk (EX.seq (EC.region (EL.mv rfl rfl ?_)))))));refine EL.val (x_add rfl rfl (c := ((x + 1 : Nat) : Int)) ((IntWalk.i64_in _ ⟨by first | omega | (simp only; omega), by first | omega | (simp only; omega)⟩).trans (by first | omega | (simp only; omega)))) rfl ?_
    refine EL.as rfl rfl (EL.nil ?_);refine EX.roundD (x + 1) ⟨agree_b (by simp [mayR, *]) rfl, agree_b (by simp [mayR, *]) rfl, rfl, trivial⟩ (by repeat first | with_reducible exact .refl _ | refine sp_ rfl ?_ | exact .refl _ | refine sd_ rfl ?_ | refine sn_ ?_) ⟨hlt, q1, q2, hbw⟩ (by omega)
   ·
    refine EC.region (EL.mv rfl rfl (EL.mv rfl rfl (EL.mg rfl rfl rfl rfl (EL.valg rfl rfl (x_not rfl) rfl (EL.pt rfl rfl rfl (EL.mv rfl rfl (EL.mv rfl rfl (EL.mg rfl rfl rfl rfl (EL.valg rfl rfl (x_not rfl) rfl ?_)))))))));refine EL.pt rfl rfl rfl (EL.as rfl rfl (EL.as rfl rfl (EL.nil (EX.blk (EX.seq (EC.region (EL.mv rfl rfl ?_)))))));refine EL.val (x_add rfl rfl (c := ((x + 1 : Nat) : Int)) ((IntWalk.i64_in _ ⟨by first | omega | (simp only; omega), by first | omega | (simp only; omega)⟩).trans (by first | omega | (simp only; omega)))) rfl ?_
    refine EL.as rfl rfl (EL.nil ?_);refine EX.roundD (x + 1) ⟨agree_b (by simp [mayR, *]) rfl, agree_b (by simp [mayR, *]) rfl, rfl, trivial⟩ (by repeat first | with_reducible exact .refl _ | refine sp_ rfl ?_ | exact .refl _ | refine sd_ rfl ?_ | refine sn_ ?_) ⟨hlt, q1, q2, hbw⟩ (by omega)
   ·
    refine EC.region (EL.mv rfl rfl (EL.mv rfl rfl (EL.mg rfl rfl rfl rfl (EL.valg rfl rfl (x_not rfl) rfl (EL.pt rfl rfl rfl (EL.mv rfl rfl (EL.mv rfl rfl (EL.mg rfl rfl rfl rfl (EL.valg rfl rfl (x_not rfl) rfl ?_)))))))));refine EL.pt rfl rfl rfl (EL.as rfl rfl (EL.as rfl rfl (EL.nil (EX.blk (EX.seq (EC.region (EL.mv rfl rfl ?_)))))));refine EL.val (x_add rfl rfl (c := ((x + 1 : Nat) : Int)) ((IntWalk.i64_in _ ⟨by first | omega | (simp only; omega), by first | omega | (simp only; omega)⟩).trans (by first | omega | (simp only; omega)))) rfl ?_
    refine EL.as rfl rfl (EL.nil ?_);refine EX.roundD (x + 1) ⟨agree_b (by simp [mayR, *]) rfl, agree_b (by simp [mayR, *]) rfl, rfl, trivial⟩ (by repeat first | with_reducible exact .refl _ | refine sp_ rfl ?_ | exact .refl _ | refine sd_ rfl ?_ | refine sn_ ?_) ⟨hlt, q1, q2, hbw⟩ (by omega)
 ·
  have hxe : x = ru.levels.length := by omega
  subst hxe;refine EC.seq (EC.seq (EC.region (EL.mv rfl rfl (EL.val (fa_62_1 rfl) rfl (EL.val (ld_22 rfl (q2.at (j := 1) rfl)) rfl (EL.val (ln_22 rfl) rfl ?_))))));refine EL.val (x_lss rfl rfl (decide_eq_false (show ¬(((ru.levels.length : Nat) : Int) < ((ru.levels.length : Nat) : Int)) by omega))) rfl ?_
  refine EL.nil (EX.seq (EC.no rfl (EC.exit (EX.seq_exit (EX.seq_exit (EX.blk_here (EX.seq (EC.seq (EC.region ?_)))))))));refine EL.mv rfl rfl (EL.mv rfl rfl (EL.as rfl rfl (EL.as rfl rfl (EL.nil (EX.seq (EC.ret ?_))))))
  exact EX.done (res2 rfl rfl rfl) ⟨rfl, hbw⟩
section
variable {n : Nat} {σ : Sg} {w : World} {dst : Option Tmp} {ty : TypeId} {pos : String} {af : Array Edge} {g : Option (Nat × Bool)} {x y z : Operand} {at' : Array TypeId}
theorem bs_22_0 (a : Act) (_ : Env n σ a) : (execOp a.eval ⟨dst, .buildSlice 22 0 #[], ty, pos, af, g⟩).run Try.prog w = .ok (.value (.slice (some ⟨w.heap.size, 0, none⟩) 0 0)) (w.alloc (.cells #[] 3)) := by
 simp only [execOp]
 go_simp
theorem bs_29_0 (a : Act) (_ : Env n σ a) : (execOp a.eval ⟨dst, .buildSlice 29 0 #[], ty, pos, af, g⟩).run Try.prog w = .ok (.value (.slice (some ⟨w.heap.size, 0, none⟩) 0 0)) (w.alloc (.cells #[] 50)) := by
 simp only [execOp]
 go_simp
theorem bs_25_0 (a : Act) (_ : Env n σ a) : (execOp a.eval ⟨dst, .buildSlice 25 0 #[], ty, pos, af, g⟩).run Try.prog w = .ok (.value (.slice (some ⟨w.heap.size, 0, none⟩) 0 0)) (w.alloc (.cells #[] 22)) := by
 simp only [execOp]
 go_simp
theorem cF23 : cF 23 := fun _ _ => by simp [go_sem]
theorem bd_50_0_1 {x0 x1 : Operand} {z0 : Int} {z1 : Int} (h0 : evS σ x0 = some (.int .i64 z0)) (h1 : evS σ x1 = some (.int .i64 z1)) : Gives Try.prog n σ w ⟨dst, .build 50 #[(0, x0), (1, x1)], ty, pos, af, g⟩ (.agg #[.int .i64 z0, .int .i64 z1]) := fun a ha => by
 simp only [execOp, List.map_toArray, List.map_cons, List.map_nil, ha.eval h0, ha.eval h1]
 go_simp
theorem lv_50 {b o : Nat} {v0 v1 : Value} (c0 : w.cell? ⟨b, o, none⟩ = some v0) (c1 : w.cell? ⟨b, o + 1, none⟩ = some v1) : (loadVar 50 ⟨b, o, none⟩).run Try.prog w = .ok (.agg #[v0, v1]) w := by
 simp [go_sem, loadVar, c0, c1]
theorem cF35 : cF 35 := fun _ _ => by simp [go_sem]
theorem cF53 : cF 53 := fun _ _ => by simp [go_sem]
end
theorem ev_info : (Try.prog.info? 50).map (fun i => (i.zero, i.size, i.bytes)) = some (some (.agg #[.int .i64 0, .int .i64 0]), 2, 16) := by kernel_rfl
theorem ev_elem : Elem Try.prog 29 50 2 16 := Elem.mk' Try.underlying29 ev_info rfl (by omega)
theorem numbers_any {l : List Int} {v : Value} {w : World} {B : Nat} (hl : Rd w B 1 v l.length (ints l)) (hB : B ≤ w.heap.size) (hn : l.length ≤ 1048576) :
  Calls Try.prog 23 #[v] w fun e w' => (∃ v', e = .returned v' ∧ w'.ownsRow w.heap.size 3 1 v' l.length (ints l)) ∧ Below w.heap.size w w' := by
 obtain ⟨Ai, ci_, rfl, _⟩ := hl.shape;have hbw := Below.refl w.heap.size w;refine EC.enter 6 Try.func23 rfl rfl rfl (EC.seq (EC.region (EL.as rfl rfl (EL.nil (EX.seq (EC.seq (EC.region (EL.newS (bs_22_0) rfl ?_))))))));intro g1 w1 q1 hb1 hg1 hl1;have bhbw_1 := Nat.le_trans hbw.size hg1;have hbg1 : w.heap.size ≤ g1 := Nat.le_trans hbw.size hg1;replace hbw := bo_ hbw hb1;clear hb1 hg1 hl1;have hemp : w1.ownsRow w.heap.size 3 1 (.slice (some ⟨g1, 0, none⟩) 0 0) 0 [] := own_empty 1 q1 hbg1;refine EL.mv rfl rfl ?_;refine EL.push ir_elem rfl rfl hemp (hl.below (hbw.mono hB)) (ints_one l) (by omega) rfl hbw.size rfl ?_
 intro v2 w9 ho2 hg hb2 _;replace hbw := hbw.trans hb2;rw [Nat.zero_add, List.nil_append] at ho2;refine EL.as rfl rfl (EL.nil (EX.seq (EC.ret ?_)))
 exact EX.done (res1 rfl rfl) ⟨⟨_, rfl, ho2⟩, hbw⟩
theorem events_any {l : List Ev} {v : Value} {w : World} {B : Nat} (hl : Rd w B 2 v l.length (evsC l)) (hB : B ≤ w.heap.size) (hn : l.length ≤ 1048576) :
  Calls Try.prog 15 #[v] w fun e w' => (∃ v', e = .returned v' ∧ w'.ownsRow w.heap.size 50 2 v' l.length (evsC l)) ∧ Below w.heap.size w w' := by
 obtain ⟨Ai, ci_, rfl, _⟩ := hl.shape;have hbw := Below.refl w.heap.size w;refine EC.enter 6 Try.func15 rfl rfl rfl (EC.seq (EC.region (EL.as rfl rfl (EL.nil (EX.seq (EC.seq (EC.region (EL.newS (bs_29_0) rfl ?_))))))));intro g1 w1 q1 hb1 hg1 hl1;have bhbw_1 := Nat.le_trans hbw.size hg1;have hbg1 : w.heap.size ≤ g1 := Nat.le_trans hbw.size hg1;replace hbw := bo_ hbw hb1;clear hb1 hg1 hl1;have hemp : w1.ownsRow w.heap.size 50 2 (.slice (some ⟨g1, 0, none⟩) 0 0) 0 [] := own_empty 2 q1 hbg1;refine EL.mv rfl rfl ?_;refine EL.push ev_elem rfl rfl hemp (hl.below (hbw.mono hB)) (evsC_one l) (by omega) rfl hbw.size rfl ?_
 intro v2 w9 ho2 hg hb2 _;replace hbw := hbw.trans hb2;rw [Nat.zero_add, List.nil_append] at ho2;refine EL.as rfl rfl (EL.nil (EX.seq (EC.ret ?_)))
 exact EX.done (res1 rfl rfl) ⟨⟨_, rfl, ho2⟩, hbw⟩
theorem rows_any {tt : List (List Int)} {vt : Value} {ut : List Value} {w : World} {B : Nat} (ht : RdLL iC 1 w B vt tt ut) (hB : B ≤ w.heap.size) (htn : tt.length ≤ 1000) (htr : ∀ i, i < tt.length → (tt.getD i []).length ≤ 1048576) :
  Calls Try.prog 51 #[vt] w fun e w' => (∃ v' us, e = .returned v' ∧ OwnLL w' w.heap.size w'.heap.size v' tt us) ∧ Below w.heap.size w w' := by
 obtain ⟨At, ct, rfl, _⟩ := ht.rd.shape;have hbw := Below.refl w.heap.size w;refine EC.enter 21 Try.func51 rfl rfl rfl (EC.seq (EC.region (EL.as rfl rfl (EL.nil (EX.seq (EC.seq (EC.region (EL.newS (bs_25_0) rfl ?_))))))));intro g1 w1 q1 hb1 hg1 hl1;have bhbw_1 := Nat.le_trans hbw.size hg1;have hbg1 : w.heap.size ≤ g1 := Nat.le_trans hbw.size hg1;replace hbw := bo_ hbw hb1;clear hb1 hg1 hl1;have hL : OwnLL w1 w.heap.size w1.heap.size (.slice (some ⟨g1, 0, none⟩) 0 0) [] [] := OwnLL.empty q1 hbg1 q1.lt;refine EL.as rfl rfl (EL.nil (EX.seq (EC.seq (EC.seq (EC.region (EL.as rfl rfl (EL.nil (EX.seq (EC.block ?_)))))))));refine EC.loopD [3, 4, 6, 7, 8, 9, 10, 11, 12, 13, 14, 15, 16, 17, 18, 19] (fun x : Nat × Value × List Value => [(4, .int .i64 (x.1 : Nat)), (3, x.2.1)]) (fun x W => x.1 ≤ tt.length ∧ OwnLL W w.heap.size W.heap.size x.2.1 (tt.take x.1) x.2.2 ∧ Below w.heap.size w W) (fun x => tt.length - x.1) (0, .slice (some ⟨g1, 0, none⟩) 0 0, []) ⟨Nat.zero_le _, hL, hbw⟩ ⟨rfl, rfl, trivial⟩ ?_
 clear hbw hL
 rintro ⟨i, v3, us⟩ wx ⟨hi, hL, hbw⟩
 dsimp only at hi hL
 by_cases hlt : i < tt.length
 ·
  obtain ⟨bt, ot, eAt, _, htc⟩ := vals_cells ut i (by rw [ht.len]; exact hlt) wx B _ _ _ (ht.rd.below (hbw.mono hB))
  have hrr := ht.row i hlt;rw [← ints_flat] at hrr;refine EC.seq (EC.seq (EC.region (EL.mv rfl rfl (EL.mv rfl rfl (EL.val (ln_25 rfl) rfl ?_)))));refine EL.val (x_lss rfl rfl (decide_eq_true (show (((i : Nat) : Int) < ((tt.length : Nat) : Int)) by omega))) rfl ?_
  refine EL.nil (EX.seq (EC.yes rfl (EC.skip (EX.seq (EC.seq (EC.block (EC.region (EL.mv rfl rfl (EL.mv rfl rfl ?_)))))))));refine EL.mv rfl rfl ?_;refine EL.val (ix_25 (by show some (Value.slice At _ _) = _; rw [eAt]) rfl hlt) rfl ?_
  refine EL.val (ld_22 rfl htc) rfl (EL.call (cA1 cF23 rfl) rfl (numbers_any (hrr.below (hbw.mono hB)) (Nat.le_trans hB hbw.size) (htr i hlt)) ?_)
  rintro e w2 ⟨⟨v2, rfl, ho⟩, hc2⟩
  refine ⟨_, rfl, ?_⟩;replace ho := own_less ho hbw.size;replace hL := (hL.below hc2).more hc2.size;replace hbw := bo_ hbw hc2;clear hc2;obtain ⟨Av, cv, rfl, _⟩ := (Rd.of_own ho).shape;refine EL.newS (bs_25_1 rfl) rfl ?_;intro g3 w3 q3 hb3 hg3 hl3;have bhbw_3 := Nat.le_trans hbw.size hg3;have hbg3 : w.heap.size ≤ g3 := Nat.le_trans hbw.size hg3;replace hL := (hL.below hb3).more hb3.size;replace ho := own_below ho hb3 (Nat.le_refl _);replace hbw := bo_ hbw hb3;clear hb3 hg3 hl3;refine EL.push rr_elem rfl rfl hL.own (rd_one (l := [.slice Av (tt.getD i []).length cv]) q3 rfl) (by intro u hu; simp only [List.mem_cons, List.not_mem_nil, or_false] at hu; subst hu; rfl) (by rw [List.length_take]; omega) rfl hbw.size rfl ?_
  intro v9 w9 ho9 hgr hb_ hat;have hL9 := hL.push ho9 hgr ho;replace hbw := hbw.trans hb_;clear hL hgr hb_ hat ho ho9;refine EL.as rfl rfl (EL.nil (EX.blk (EX.seq (EC.region (EL.mv rfl rfl ?_)))));refine EL.val (x_add rfl rfl (c := ((i + 1 : Nat) : Int)) ((IntWalk.i64_in _ ⟨by first | omega | (simp only; omega), by first | omega | (simp only; omega)⟩).trans (by first | omega | (simp only; omega)))) rfl ?_
  refine EL.as rfl rfl (EL.nil ?_);refine EX.roundD (i + 1, v9, us ++ [.slice Av (tt.getD i []).length cv]) ⟨rfl, rfl, trivial⟩ (by repeat first | with_reducible exact .refl _ | refine sp_ rfl ?_ | exact .refl _ | refine sd_ rfl ?_ | refine sn_ ?_) ⟨hlt, by simp only; rw [List.take_succ_eq_append_getElem hlt, ← getD_in (d := []) hlt]; exact hL9, hbw⟩ (by simp only; omega)
 ·
  have hxe : i = tt.length := by omega
  rw [hxe, List.take_length] at hL;refine EC.seq (EC.seq (EC.region (EL.mv rfl rfl (EL.mv rfl rfl (EL.val (ln_25 rfl) rfl ?_)))));refine EL.val (x_lss rfl rfl (decide_eq_false (show ¬(((i : Nat) : Int) < ((tt.length : Nat) : Int)) by omega))) rfl ?_
  refine EL.nil (EX.seq (EC.no rfl (EC.exit (EX.seq_exit (EX.seq_exit (EX.blk_here (EX.seq (EC.seq (EC.region ?_)))))))));refine EL.mv rfl rfl (EL.as rfl rfl (EL.nil (EX.seq (EC.ret ?_))))
  exact EX.done (res1 rfl rfl) ⟨⟨_, us, rfl, hL⟩, hbw⟩
theorem lload_any (n : Int) (w : World) : Calls Try.prog 46 #[.int .i64 n] w fun e w' => e = .returned (.agg #[.int .i64 1, .int .i64 n]) ∧ Below w.heap.size w w' := by
 have hbw := Below.refl w.heap.size w;refine EC.enter 5 Try.func46 rfl rfl rfl (EC.seq (EC.region (EL.newP al_50 rfl ?_)));intro g1 w1 q1 hb1 hg1 hl1;have bhbw_1 := Nat.le_trans hbw.size hg1;replace hbw := bo_ hbw hb1;clear hb1 hg1 hl1;refine EL.nil (EX.seq (EC.seq (EC.region (EL.mv rfl rfl (EL.val (bd_50_0_1 rfl rfl) rfl (EL.store rfl rfl q1 sz_50 rfl rfl rfl rfl ?_))))));intro w2 hq2 hg2;replace hbw := below_store hbw hg2 bhbw_1;replace q1 := hq2;clear hg2 hq2;refine EL.nil (EX.seq (EC.ret ?_))
 exact EX.done (resc1 rfl rfl (lv_50 (q1.at (j := 0) rfl) (q1.at (j := 1) rfl))) ⟨rfl, hbw⟩
theorem lclean_any (n : Int) (w : World) : Calls Try.prog 45 #[.int .i64 n] w fun e w' => e = .returned (.agg #[.int .i64 2, .int .i64 n]) ∧ Below w.heap.size w w' := by
 have hbw := Below.refl w.heap.size w;refine EC.enter 5 Try.func45 rfl rfl rfl (EC.seq (EC.region (EL.newP al_50 rfl ?_)));intro g1 w1 q1 hb1 hg1 hl1;have bhbw_1 := Nat.le_trans hbw.size hg1;replace hbw := bo_ hbw hb1;clear hb1 hg1 hl1;refine EL.nil (EX.seq (EC.seq (EC.region (EL.mv rfl rfl (EL.val (bd_50_0_1 rfl rfl) rfl (EL.store rfl rfl q1 sz_50 rfl rfl rfl rfl ?_))))));intro w2 hq2 hg2;replace hbw := below_store hbw hg2 bhbw_1;replace q1 := hq2;clear hg2 hq2;refine EL.nil (EX.seq (EC.ret ?_))
 exact EX.done (resc1 rfl rfl (lv_50 (q1.at (j := 0) rfl) (q1.at (j := 1) rfl))) ⟨rfl, hbw⟩
section
variable {n : Nat} {σ : Sg} {w : World} {dst : Option Tmp} {ty : TypeId} {pos : String} {af : Array Edge} {g : Option (Nat × Bool)} {x y z : Operand} {at' : Array TypeId}
theorem al_28 (a : Act) (_ : Env n σ a) : (execOp a.eval ⟨dst, .alloc 28, ty, pos, af, g⟩).run Try.prog w = .ok (.value (.pointer (some ⟨w.heap.size, 0, none⟩))) (w.alloc (.cells #[.slice none 0 0, .int .i64 0, .int .i64 0, .slice none 0 0, .slice none 0 0, .slice none 0 0] 28)) := by
 simp only [execOp]
 simp [go_sem]
theorem bs_26_0 (a : Act) (_ : Env n σ a) : (execOp a.eval ⟨dst, .buildSlice 26 0 #[], ty, pos, af, g⟩).run Try.prog w = .ok (.value (.slice (some ⟨w.heap.size, 0, none⟩) 0 0)) (w.alloc (.cells #[] 52)) := by
 simp only [execOp]
 go_simp
theorem sz_26 : (Try.prog.info? 26).map (·.size) = some 1 := by kernel_rfl
theorem cF51 : cF 51 := fun _ _ => by simp [go_sem]
theorem sz_28 : (Try.prog.info? 28).map (·.size) = some 6 := by kernel_rfl
theorem lv_28 {b o : Nat} {v0 v1 v2 v3 v4 v5 : Value} (c0 : w.cell? ⟨b, o, none⟩ = some v0) (c1 : w.cell? ⟨b, o + 1, none⟩ = some v1) (c2 : w.cell? ⟨b, o + 2, none⟩ = some v2) (c3 : w.cell? ⟨b, o + 3, none⟩ = some v3) (c4 : w.cell? ⟨b, o + 4, none⟩ = some v4) (c5 : w.cell? ⟨b, o + 5, none⟩ = some v5) : (loadVar 28 ⟨b, o, none⟩).run Try.prog w = .ok (.agg #[v0, v1, v2, v3, v4, v5]) w := by
 simp [go_sem, loadVar, c0, c1, c2, c3, c4, c5]
end
/-- rules and a history that the statements look at -/
structure Wee (ru : Rules) (l : List Ev) : Prop where
 n : ru.levels.length ≤ 12
 a : ru.allow.length ≤ 12
 p : ru.apart.length ≤ 12
 k : ru.kinds.length ≤ 8
 l : l.length ≤ 120
 ra : ∀ j, j < ru.allow.length → (ru.allow.getD j []).length ≤ 12
 rp : ∀ j, j < ru.apart.length → (ru.apart.getD j []).length ≤ 12
theorem Wee.short {ru : Rules} {l : List Ev} (h : Wee ru l) : Short ru := ⟨by have := h.n; omega, by have := h.a; omega, by have := h.p; omega, by have := h.k; omega⟩
theorem great_any {ru : Rules} {ua up : List Value} {vl va vp vk : Value} {w : World} {B : Nat} (hr : RdRules w B vl va vp vk ru ua up) (hB : B ≤ w.heap.size) {l : List Ev} {v : Value} (hl : Rd w B 2 v l.length (evsC l)) :
  Calls Try.prog 11 #[rulesV vl va vp vk ru, v] w fun e w' => (∃ b, e = .returned (.bool b) ∧ (b = false → Wee ru l)) ∧ Below w.heap.size w w' := by
 obtain ⟨Al, cl, Aa, ca, Ap, cp, Ak, ck, rfl, rfl, rfl, rfl⟩ := hr.sh4;obtain ⟨Ae, ce, rfl, _⟩ := hl.shape;have hbw := Below.refl w.heap.size w
 unfold rulesV
 refine EC.enter 62 Try.func11 rfl rfl rfl (EC.seq (EC.region (EL.newP (bx_28 rfl) rfl ?_)));intro g1 w1 q1 hb1 hg1 hl1;have bhbw_1 := Nat.le_trans hbw.size hg1;replace hbw := bo_ hbw hb1;clear hb1 hg1 hl1;refine EL.as rfl rfl (EL.nil (EX.seq (EC.seq (EC.seq (EC.region (EL.val (fa_28_0 rfl) rfl (EL.val (ld_22 rfl (q1.at (j := 0) rfl)) rfl (EL.val (ln_22 rfl) rfl ?_))))))))
 by_cases y1 : 12 < ru.levels.length
 ·
  refine EL.val (x_gtr (r := true) rfl rfl (decide_eq_true (by omega))) rfl ?_
  refine EL.mv rfl rfl (EL.skip rfl rfl rfl rfl (EL.skip rfl rfl rfl rfl (EL.skip rfl rfl rfl rfl (EL.skip rfl rfl rfl rfl (EL.pt rfl rfl rfl (EL.mv rfl rfl (EL.skip rfl rfl rfl rfl (EL.skip rfl rfl rfl rfl (EL.skip rfl rfl rfl rfl ?_)))))))));refine EL.skip rfl rfl rfl rfl (EL.pt rfl rfl rfl (EL.mv rfl rfl (EL.skip rfl rfl rfl rfl (EL.skip rfl rfl rfl rfl (EL.skip rfl rfl rfl rfl (EL.skip rfl rfl rfl rfl (EL.pt rfl rfl rfl (EL.mv rfl rfl (EL.skip rfl rfl rfl rfl ?_)))))))));refine EL.skip rfl rfl rfl rfl (EL.skip rfl rfl rfl rfl (EL.pt rfl rfl rfl (EL.nil (EX.seq (EC.yes rfl (EC.seq (EC.region (EL.as rfl rfl (EL.nil ?_)))))))));refine EX.seq (EC.ret (EX.seq_ret ?_))
  exact EX.done (res1 rfl rfl) ⟨⟨_, rfl, fun h => by cases h⟩, hbw⟩
 ·
  refine EL.val (x_gtr (r := false) rfl rfl (decide_eq_false (by omega))) rfl ?_
  refine EL.mv rfl rfl (EL.valg rfl rfl (fa_28_2 rfl) rfl (EL.valg rfl rfl (ld_25 rfl (q1.at (j := 3) rfl)) rfl (EL.valg rfl rfl (ln_25 rfl) rfl ?_)))
  by_cases y2 : 12 < ru.allow.length
  ·
   refine EL.valg rfl rfl (x_gtr (r := true) rfl rfl (decide_eq_true (by omega))) rfl ?_
   refine EL.pf rfl rfl rfl (EL.mv rfl rfl (EL.skip rfl rfl rfl rfl (EL.skip rfl rfl rfl rfl (EL.skip rfl rfl rfl rfl (EL.skip rfl rfl rfl rfl (EL.pt rfl rfl rfl (EL.mv rfl rfl (EL.skip rfl rfl rfl rfl (EL.skip rfl rfl rfl rfl ?_)))))))));refine EL.skip rfl rfl rfl rfl (EL.skip rfl rfl rfl rfl (EL.pt rfl rfl rfl (EL.mv rfl rfl (EL.skip rfl rfl rfl rfl (EL.skip rfl rfl rfl rfl (EL.skip rfl rfl rfl rfl (EL.pt rfl rfl rfl (EL.nil (EX.seq ?_)))))))));refine EC.yes rfl (EC.seq (EC.region (EL.as rfl rfl (EL.nil (EX.seq (EC.ret (EX.seq_ret ?_)))))))
   exact EX.done (res1 rfl rfl) ⟨⟨_, rfl, fun h => by cases h⟩, hbw⟩
  ·
   refine EL.valg rfl rfl (x_gtr (r := false) rfl rfl (decide_eq_false (by omega))) rfl ?_
   refine EL.pf rfl rfl rfl (EL.mv rfl rfl (EL.valg rfl rfl (fa_28_3 rfl) rfl (EL.valg rfl rfl (ld_25 rfl (q1.at (j := 4) rfl)) rfl (EL.valg rfl rfl (ln_25 rfl) rfl ?_))))
   by_cases y3 : 12 < ru.apart.length
   ·
    refine EL.valg rfl rfl (x_gtr (r := true) rfl rfl (decide_eq_true (by omega))) rfl ?_
    refine EL.pf rfl rfl rfl (EL.mv rfl rfl (EL.skip rfl rfl rfl rfl (EL.skip rfl rfl rfl rfl (EL.skip rfl rfl rfl rfl (EL.skip rfl rfl rfl rfl (EL.pt rfl rfl rfl (EL.mv rfl rfl (EL.skip rfl rfl rfl rfl (EL.skip rfl rfl rfl rfl ?_)))))))));refine EL.skip rfl rfl rfl rfl (EL.pt rfl rfl rfl (EL.nil (EX.seq (EC.yes rfl (EC.seq (EC.region (EL.as rfl rfl (EL.nil (EX.seq ?_)))))))));refine EC.ret (EX.seq_ret ?_)
    exact EX.done (res1 rfl rfl) ⟨⟨_, rfl, fun h => by cases h⟩, hbw⟩
   ·
    refine EL.valg rfl rfl (x_gtr (r := false) rfl rfl (decide_eq_false (by omega))) rfl ?_
    refine EL.pf rfl rfl rfl (EL.mv rfl rfl (EL.valg rfl rfl (fa_28_4 rfl) rfl (EL.valg rfl rfl (ld_26 rfl (q1.at (j := 5) rfl)) rfl (EL.valg rfl rfl (ln_26 rfl) rfl ?_))))
    by_cases y4 : 8 < ru.kinds.length
    ·
     refine EL.valg rfl rfl (x_gtr (r := true) rfl rfl (decide_eq_true (by omega))) rfl ?_
     refine EL.pf rfl rfl rfl (EL.mv rfl rfl (EL.skip rfl rfl rfl rfl (EL.skip rfl rfl rfl rfl (EL.skip rfl rfl rfl rfl (EL.pt rfl rfl rfl (EL.nil (EX.seq (EC.yes rfl (EC.seq ?_)))))))));refine EC.region (EL.as rfl rfl (EL.nil (EX.seq (EC.ret (EX.seq_ret ?_)))))
     exact EX.done (res1 rfl rfl) ⟨⟨_, rfl, fun h => by cases h⟩, hbw⟩
    ·
     refine EL.valg rfl rfl (x_gtr (r := false) rfl rfl (decide_eq_false (by omega))) rfl ?_
     refine EL.pf rfl rfl rfl (EL.mv rfl rfl (EL.mg rfl rfl rfl rfl (EL.valg rfl rfl (ln_29 rfl) rfl ?_)))
     by_cases y5 : 120 < l.length
     ·
      refine EL.valg rfl rfl (x_gtr (r := true) rfl rfl (decide_eq_true (by omega))) rfl ?_
      refine EL.pf rfl rfl rfl (EL.nil (EX.seq (EC.yes rfl (EC.seq (EC.region (EL.as rfl rfl (EL.nil (EX.seq (EC.ret ?_)))))))));refine EX.seq_ret ?_
      exact EX.done (res1 rfl rfl) ⟨⟨_, rfl, fun h => by cases h⟩, hbw⟩
     ·
      refine EL.valg rfl rfl (x_gtr (r := false) rfl rfl (decide_eq_false (by omega))) rfl ?_
      refine EL.pf rfl rfl rfl (EL.nil (EX.seq (EC.no rfl (EC.skip (EX.seq (EC.seq (EC.seq (EC.region (EL.as rfl rfl ?_)))))))));refine EL.nil (EX.seq (EC.block ?_));refine EC.loopD [4, 5, 34, 35, 36, 37, 38, 39, 40, 41, 42, 43, 44, 45, 46, 47] (fun x : Nat => [(5, .int .i64 (x : Nat))]) (fun x W => x ≤ ru.allow.length ∧ (∀ j, j < x → (ru.allow.getD j []).length ≤ 12) ∧ Blk W g1 28 #[.slice Al ru.levels.length cl, .int .i64 ru.fade.lo, .int .i64 ru.fade.hi, .slice Aa ru.allow.length ca, .slice Ap ru.apart.length cp, .slice Ak ru.kinds.length ck] ∧ Below w.heap.size w W) (fun x => ru.allow.length - x) 0 ⟨Nat.zero_le _, fun j hj => absurd hj (by omega), q1, hbw⟩ ⟨rfl, trivial⟩ ?_
      clear q1 hbw
      rintro i5 wx ⟨hi_5, hall5, q1, hbw⟩
      by_cases hlt5 : i5 < ru.allow.length
      ·
       obtain ⟨bt, ot, eAt, _, htc⟩ := vals_cells ua i5 (by rw [hr.allow.len]; exact hlt5) wx B _ _ _ (hr.below (hbw.mono hB)).allow.rd
       obtain ⟨Ai, ci, ei, _⟩ := (hr.allow.row i5 hlt5).shape;rw [ei] at htc;refine EC.seq (EC.seq (EC.region (EL.mv rfl rfl (EL.val (fa_28_2 rfl) rfl (EL.val (ld_25 rfl (q1.at (j := 3) rfl)) rfl (EL.val (ln_25 rfl) rfl ?_))))));refine EL.val (x_lss rfl rfl (decide_eq_true (show (((i5 : Nat) : Int) < ((ru.allow.length : Nat) : Int)) by omega))) rfl ?_
       refine EL.nil (EX.seq (EC.yes rfl (EC.skip (EX.seq (EC.seq (EC.block (EC.seq (EC.region (EL.val (fa_28_2 rfl) rfl ?_)))))))));refine EL.val (ld_25 rfl (q1.at (j := 3) rfl)) rfl (EL.mv rfl rfl ?_);refine EL.val (ix_25 (by show some (Value.slice Aa _ _) = _; rw [eAt]) rfl hlt5) rfl ?_
       refine EL.val (ld_22 rfl htc) rfl (EL.val (ln_22 rfl) rfl ?_)
       by_cases hrow5 : 12 < (ru.allow.getD i5 []).length
       ·
        refine EL.val (x_gtr (r := true) rfl rfl (decide_eq_true (by omega))) rfl ?_
        refine EL.nil (EX.seq (EC.yes rfl (EC.seq (EC.region (EL.as rfl rfl (EL.nil (EX.seq (EC.ret (EX.blk_ret ?_)))))))));refine EX.seq_ret (EX.seq_ret (EX.blk_ret (EX.seq_ret ?_)))
        exact EX.done (res1 rfl rfl) ⟨⟨_, rfl, fun h => by cases h⟩, hbw⟩
       ·
        refine EL.val (x_gtr (r := false) rfl rfl (decide_eq_false (by omega))) rfl ?_
        refine EL.nil (EX.seq (EC.no rfl (EC.skip (EX.blk (EX.seq (EC.region (EL.mv rfl rfl ?_)))))));refine EL.val (x_add rfl rfl (c := ((i5 + 1 : Nat) : Int)) ((IntWalk.i64_in _ ⟨by first | omega | (simp only; omega), by first | omega | (simp only; omega)⟩).trans (by first | omega | (simp only; omega)))) rfl ?_
        refine EL.as rfl rfl (EL.nil ?_);refine EX.roundD (i5 + 1) ⟨rfl, trivial⟩ (by repeat first | with_reducible exact .refl _ | refine sp_ rfl ?_ | exact .refl _ | refine sd_ rfl ?_ | refine sn_ ?_) ⟨hlt5, (fun j hj => by rcases Nat.lt_or_ge j i5 with h0 | h0; exact hall5 j h0; rw [show j = i5 by omega]; omega), q1, hbw⟩ (by omega)
      ·
       have hxe5 : i5 = ru.allow.length := by omega
       refine EC.seq (EC.seq (EC.region (EL.mv rfl rfl (EL.val (fa_28_2 rfl) rfl (EL.val (ld_25 rfl (q1.at (j := 3) rfl)) rfl (EL.val (ln_25 rfl) rfl ?_))))));refine EL.val (x_lss rfl rfl (decide_eq_false (show ¬(((i5 : Nat) : Int) < ((ru.allow.length : Nat) : Int)) by omega))) rfl ?_
       refine EL.nil (EX.seq (EC.no rfl (EC.exit (EX.seq_exit (EX.seq_exit (EX.blk_here (EX.seq (EC.seq (EC.seq ?_)))))))));refine EC.region (EL.as rfl rfl (EL.nil (EX.seq (EC.block ?_))));refine EC.loopD [4, 6, 48, 49, 50, 51, 52, 53, 54, 55, 56, 57, 58, 59, 60, 61] (fun x : Nat => [(6, .int .i64 (x : Nat))]) (fun x W => x ≤ ru.apart.length ∧ (∀ j, j < x → (ru.apart.getD j []).length ≤ 12) ∧ Blk W g1 28 #[.slice Al ru.levels.length cl, .int .i64 ru.fade.lo, .int .i64 ru.fade.hi, .slice Aa ru.allow.length ca, .slice Ap ru.apart.length cp, .slice Ak ru.kinds.length ck] ∧ Below w.heap.size w W) (fun x => ru.apart.length - x) 0 ⟨Nat.zero_le _, fun j hj => absurd hj (by omega), q1, hbw⟩ ⟨rfl, trivial⟩ ?_
       clear q1 hbw
       rintro i6 wx ⟨hi_6, hall6, q1, hbw⟩
       by_cases hlt6 : i6 < ru.apart.length
       ·
        obtain ⟨bt, ot, eAt, _, htc⟩ := vals_cells up i6 (by rw [hr.apart.len]; exact hlt6) wx B _ _ _ (hr.below (hbw.mono hB)).apart.rd
        obtain ⟨Ai, ci, ei, _⟩ := (hr.apart.row i6 hlt6).shape;rw [ei] at htc;refine EC.seq (EC.seq (EC.region (EL.mv rfl rfl (EL.val (fa_28_3 rfl) rfl (EL.val (ld_25 rfl (q1.at (j := 4) rfl)) rfl (EL.val (ln_25 rfl) rfl ?_))))));refine EL.val (x_lss rfl rfl (decide_eq_true (show (((i6 : Nat) : Int) < ((ru.apart.length : Nat) : Int)) by omega))) rfl ?_
        refine EL.nil (EX.seq (EC.yes rfl (EC.skip (EX.seq (EC.seq (EC.block (EC.seq (EC.region (EL.val (fa_28_3 rfl) rfl ?_)))))))));refine EL.val (ld_25 rfl (q1.at (j := 4) rfl)) rfl (EL.mv rfl rfl ?_);refine EL.val (ix_25 (by show some (Value.slice Ap _ _) = _; rw [eAt]) rfl hlt6) rfl ?_
        refine EL.val (ld_22 rfl htc) rfl (EL.val (ln_22 rfl) rfl ?_)
        by_cases hrow6 : 12 < (ru.apart.getD i6 []).length
        ·
         refine EL.val (x_gtr (r := true) rfl rfl (decide_eq_true (by omega))) rfl ?_
         refine EL.nil (EX.seq (EC.yes rfl (EC.seq (EC.region (EL.as rfl rfl (EL.nil (EX.seq (EC.ret (EX.blk_ret ?_)))))))));refine EX.seq_ret (EX.seq_ret (EX.blk_ret (EX.seq_ret ?_)))
         exact EX.done (res1 rfl rfl) ⟨⟨_, rfl, fun h => by cases h⟩, hbw⟩
        ·
         refine EL.val (x_gtr (r := false) rfl rfl (decide_eq_false (by omega))) rfl ?_
         refine EL.nil (EX.seq (EC.no rfl (EC.skip (EX.blk (EX.seq (EC.region (EL.mv rfl rfl ?_)))))));refine EL.val (x_add rfl rfl (c := ((i6 + 1 : Nat) : Int)) ((IntWalk.i64_in _ ⟨by first | omega | (simp only; omega), by first | omega | (simp only; omega)⟩).trans (by first | omega | (simp only; omega)))) rfl ?_
         refine EL.as rfl rfl (EL.nil ?_);refine EX.roundD (i6 + 1) ⟨rfl, trivial⟩ (by repeat first | with_reducible exact .refl _ | refine sp_ rfl ?_ | exact .refl _ | refine sd_ rfl ?_ | refine sn_ ?_) ⟨hlt6, (fun j hj => by rcases Nat.lt_or_ge j i6 with h0 | h0; exact hall6 j h0; rw [show j = i6 by omega]; omega), q1, hbw⟩ (by omega)
       ·
        have hxe6 : i6 = ru.apart.length := by omega
        refine EC.seq (EC.seq (EC.region (EL.mv rfl rfl (EL.val (fa_28_3 rfl) rfl (EL.val (ld_25 rfl (q1.at (j := 4) rfl)) rfl (EL.val (ln_25 rfl) rfl ?_))))));refine EL.val (x_lss rfl rfl (decide_eq_false (show ¬(((i6 : Nat) : Int) < ((ru.apart.length : Nat) : Int)) by omega))) rfl ?_
        refine EL.nil (EX.seq (EC.no rfl (EC.exit (EX.seq_exit (EX.seq_exit (EX.blk_here (EX.seq (EC.seq (EC.region ?_)))))))));refine EL.as rfl rfl (EL.nil (EX.seq (EC.ret ?_)))
        exact EX.done (res1 rfl rfl) ⟨⟨_, rfl, fun _ => ⟨by omega, by omega, by omega, by omega, by omega, fun j hj => hall5 j (by omega), fun j hj => hall6 j (by omega)⟩⟩, hbw⟩
theorem kd_info : (Try.prog.info? 52).map (fun i => (i.zero, i.size, i.bytes)) = some (some (.agg #[.int .i64 0, .int .i64 0, .int .i64 0, .int .i64 0, .int .i64 0]), 5, 40) := by kernel_rfl
theorem kd_elem : Elem Try.prog 26 52 5 40 := Elem.mk' Try.underlying26 kd_info rfl (by omega)
theorem mono_ll {k C : Nat} {ls : List (List Int)} {f : Option Addr → Nat → Value} {N : Nat} : Mono fun r w => ∃ A c us, r k = f A c ∧ OwnLL w C w.heap.size (.slice A N c) ls us := fun _ _ _ hb ⟨A, c, us, h1, h2⟩ => ⟨A, c, us, h1, (h2.below hb).more hb.size⟩
set_option maxHeartbeats 1000000 in
theorem own_any {ru : Rules} {ua up : List Value} {vl va vp vk : Value} {w : World} {B : Nat} (hr : RdRules w B vl va vp vk ru ua up) (hB : B ≤ w.heap.size) {l : List Ev} (hw_ : Wee ru l) :
  Calls Try.prog 14 #[rulesV vl va vp vk ru] w fun e w' => (∃ vl' va' vp' vk' ua' up', e = .returned (rulesV vl' va' vp' vk' ru) ∧ RdRules w' w'.heap.size vl' va' vp' vk' ru ua' up') ∧ Below w.heap.size w w' := by
 obtain ⟨Al, cl, Aa, ca, Ap, cp, Ak, ck, rfl, rfl, rfl, rfl⟩ := hr.sh4;have hbw := Below.refl w.heap.size w
 unfold rulesV
 refine EC.enter 21 Try.func14 rfl rfl rfl (EC.seq (EC.region (EL.newP (bx_28 rfl) rfl ?_)));intro g1 w1 q1 hb1 hg1 hl1;have bhbw_1 := Nat.le_trans hbw.size hg1;replace hbw := bo_ hbw hb1;clear hb1 hg1 hl1;refine EL.newP al_28 rfl ?_;intro g2 w2 q2 hb2 hg2 hl2;have n1_2 := q1.na hg2;have bhbw_2 := Nat.le_trans hbw.size hg2;replace q1 := q1.bl hb2;replace hbw := bo_ hbw hb2;clear hb2 hg2 hl2;refine EL.nil (EX.seq (EC.seq ?_));have lt_1 := q1.lt;have lt_2 := q2.lt;refine EC.regionP [[], [0], [0, 1], [], [], [4], [0, 1, 2, 3, 4, 5], [0, 1, 2, 4, 5], [0, 1, 2, 3, 4, 5, 6, 7], [0, 1, 2, 3, 4, 5, 6, 7, 8], [0, 1, 2, 3, 4, 5, 6, 7, 8, 9]] 8 [] (phi (fun i_ r => match i_ with | 0 => r 0 = .pointer (some ⟨g1, 0, none⟩) | 1 => r 1 = .slice Al ru.levels.length cl | 4 => r 4 = .pointer (some ⟨g1, 5, none⟩) | 5 => r 5 = .slice Ak ru.kinds.length ck | 7 => r 7 = .pointer (some ⟨g1, 0, none⟩) | _ => True) [(2, fun r w_ => ∃ A c, r 2 = .slice A ru.levels.length c ∧ w_.ownsRow w.heap.size 3 1 (.slice A ru.levels.length c) ru.levels.length (ints ru.levels)), (3, fun r w_ => ∃ g_, r 3 = .slice (some ⟨g_, 0, none⟩) 0 0 ∧ Blk w_ g_ 52 #[] ∧ w2.heap.size ≤ g_), (6, fun r w_ => ∃ A c, r 6 = .slice A ru.kinds.length c ∧ w_.ownsRow w.heap.size 52 5 (.slice A ru.kinds.length c) ru.kinds.length (kdsC ru.kinds))]) (by kernel_rfl) rfl rfl (phi_cons (mono_cp (f := fun A c => .slice A ru.levels.length c)) (phi_cons mono_bs (phi_cons (mono_cp (f := fun A c => .slice A ru.kinds.length c)) (phi_nil)))) (fun i_ hi_ => ?_) ?_
 ·match i_, hi_ with
  | 0, _ =>
   intro val w1 a hb ha hd;have ha := ha.s0 (d := 1) rfl
   exact hs_val ha rfl rfl (fa_28_0 rfl) rfl rfl
  | 1, _ =>
   intro val w1 a hb ha hd;have e0 : val 0 = _ := hd 0 (memB_mem.1 rfl);have ha := ha.s1 (d := 3) rfl e0
   exact hs_val ha rfl rfl (ld_22 rfl ((q1.below hb q1.lt).at (j := 0) rfl)) rfl rfl
  | 2, _ =>
   intro val w1 a hb ha hd;have e1 : val 1 = _ := hd 1 (memB_mem.1 rfl);have ha := ha.s1 (d := 4) rfl e1;refine hs_call ha rfl rfl (cA1 cF23 rfl) (numbers_any (hr.levels.below ((hbw.trans (hb.mono hbw.size)).mono hB)) (Nat.le_trans hB (Nat.le_trans hbw.size hb.size)) (by have := hw_.n; omega)) rfl ?_
   rintro e w' ⟨⟨v', rfl, ho⟩, hb'⟩
   obtain ⟨A, c9, rfl, _⟩ := (Rd.of_own ho).shape
   exact ⟨_, rfl, hb', ⟨A, c9, rfl, own_less ho (Nat.le_trans hbw.size hb.size)⟩⟩
  | 3, _ =>
   intro val w1 a hb ha hd;have ha := ha.sub (Sub.nil _)
   exact hs_newS ha rfl rfl (bs_26_0) rfl (fun g w' hq _ hge => ⟨g, rfl, hq, Nat.le_trans hb.size hge⟩)
  | 4, _ =>
   intro val w1 a hb ha hd;have ha := ha.s0 (d := 1) rfl
   exact hs_val ha rfl rfl (fa_28_4 rfl) rfl rfl
  | 5, _ =>
   intro val w1 a hb ha hd;have e4 : val 4 = _ := hd 4 (memB_mem.1 rfl);have ha := ha.s1 (d := 7) rfl e4
   exact hs_val ha rfl rfl (ld_26 rfl ((q1.below hb q1.lt).at (j := 5) rfl)) rfl rfl
  | 6, _ =>
   intro val w1 a hb ha hd;obtain ⟨g3_, e3, q3_, h3_⟩ := hd 3 (memB_mem.1 rfl);change val 3 = _ at e3;have e5 : val 5 = _ := hd 5 (memB_mem.1 rfl);have ha := ha.s2 (d := 8) (e := 6) rfl e5 rfl e3;refine hs_copy kd_elem ha rfl rfl rfl q3_ (Nat.le_trans hbw.size h3_) (hr.kinds.below ((hbw.trans (hb.mono hbw.size)).mono hB)) (kdsC_one _) (by have := hw_.k; omega) rfl (Nat.le_trans hbw.size hb.size) rfl (fun v' w' ho => ?_)
   obtain ⟨A, c9, rfl, _⟩ := (Rd.of_own ho).shape
   exact ⟨A, c9, rfl, ho⟩
  | 7, _ =>
   intro val w1 a hb ha hd;have ha := ha.s0 (d := 1) rfl
   exact hs_val ha rfl rfl (fa_28_0 rfl) rfl rfl
  | k + 8, h => exact absurd h (by omega)
 ·intro val wR1 hb halc hd
  have e0 : val 0 = _ := hd 0 (by omega)
  have e1 : val 1 = _ := hd 1 (by omega)
  obtain ⟨A1, c1, e2, hn1⟩ := hd 2 (by omega)
  obtain ⟨ga3_1, e3, qa3_1, hga3_1⟩ := hd 3 (by omega)
  change val 3 = _ at e3;change Blk wR1 ga3_1 52 #[] at qa3_1;have e4 : val 4 = _ := hd 4 (by omega)
  have e5 : val 5 = _ := hd 5 (by omega)
  obtain ⟨A4, c4, e6, hn4⟩ := hd 6 (by omega)
  have e7 : val 7 = _ := hd 7 (by omega)
  refine EL.ends (cs := [_, _, _, _, _, _, _, _]) ⟨e0, e1, e2, e3, e4, e5, e6, e7, trivial⟩ rfl ?_;replace q1 := q1.bl hb;replace q2 := q2.bl hb;have n1_3 : g1 ≠ ga3_1 := Nat.ne_of_lt (Nat.lt_of_lt_of_le lt_1 hga3_1);have n2_3 : g2 ≠ ga3_1 := Nat.ne_of_lt (Nat.lt_of_lt_of_le lt_2 hga3_1);have bhbw_3 := Nat.le_trans hbw.size hga3_1;replace hbw := bo_ hbw hb;clear hb;refine EL.store rfl rfl q1 sz_22 rfl rfl rfl rfl ?_;intro w4 hq4 hg4;replace q2 := q2.gr hg4 n1_2.symm;replace hn1 := own_type hn1 q1 rfl hg4;replace hn4 := own_type hn4 q1 rfl hg4;replace hbw := below_store hbw hg4 bhbw_1;replace q1 := hq4;clear hg4 hq4;refine EL.val (fa_28_4 rfl) rfl (EL.store rfl rfl q1 sz_26 rfl rfl rfl rfl ?_);intro w5 hq5 hg5;replace q2 := q2.gr hg5 n1_2.symm;replace hn1 := own_type hn1 q1 rfl hg5;replace hn4 := own_type hn4 q1 rfl hg5;replace hbw := below_store hbw hg5 bhbw_1;replace q1 := hq5;clear hg5 hq5;refine EL.nil (EX.seq (EC.seq ?_));have lt_1 := q1.lt;have lt_2 := q2.lt;refine EC.regionP [[], [0], [0, 1], [], [3], [0, 1, 2, 3, 4], [0, 1, 2, 3, 4], [0, 1, 2, 3, 4, 5, 6], [0, 1, 2, 3, 4, 5, 6, 7], [0, 1, 2, 3, 4, 5, 6, 7, 8]] 7 [] (phi (fun i_ r => match i_ with | 0 => r 0 = .pointer (some ⟨g1, 3, none⟩) | 1 => r 1 = .slice Aa ru.allow.length ca | 3 => r 3 = .pointer (some ⟨g1, 4, none⟩) | 4 => r 4 = .slice Ap ru.apart.length cp | 6 => r 6 = .pointer (some ⟨g1, 3, none⟩) | _ => True) [(2, fun r w_ => ∃ A c us, r 2 = .slice A ru.allow.length c ∧ OwnLL w_ w.heap.size w_.heap.size (.slice A ru.allow.length c) ru.allow us), (5, fun r w_ => ∃ A c us, r 5 = .slice A ru.apart.length c ∧ OwnLL w_ w.heap.size w_.heap.size (.slice A ru.apart.length c) ru.apart us)]) (by kernel_rfl) rfl rfl (phi_cons (mono_ll (f := fun A c => .slice A ru.allow.length c)) (phi_cons (mono_ll (f := fun A c => .slice A ru.apart.length c)) (phi_nil))) (fun i_ hi_ => ?_) ?_
  ·match i_, hi_ with
   | 0, _ =>
    intro val w1 a hb ha hd;have ha := ha.s0 (d := 1) rfl
    exact hs_val ha rfl rfl (fa_28_2 rfl) rfl rfl
   | 1, _ =>
    intro val w1 a hb ha hd;have e0 : val 0 = _ := hd 0 (memB_mem.1 rfl);have ha := ha.s1 (d := 12) rfl e0
    exact hs_val ha rfl rfl (ld_25 rfl ((q1.below hb q1.lt).at (j := 3) rfl)) rfl rfl
   | 2, _ =>
    intro val w1 a hb ha hd;have e1 : val 1 = _ := hd 1 (memB_mem.1 rfl);have ha := ha.s1 (d := 13) rfl e1;refine hs_call ha rfl rfl (cA1 cF51 rfl) (rows_any (hr.allow.below ((hbw.trans (hb.mono hbw.size)).mono hB)) (Nat.le_trans hB (Nat.le_trans hbw.size hb.size)) (by have := hw_.a; omega) (fun i hi => by have := hw_.ra i hi; omega)) rfl ?_
    rintro e w' ⟨⟨v', us, rfl, ho⟩, hb'⟩
    obtain ⟨A, c9, rfl, _⟩ := ho.rd.rd.shape
    exact ⟨_, rfl, hb', ⟨A, c9, us, rfl, ho.less (Nat.le_trans hbw.size hb.size)⟩⟩
   | 3, _ =>
    intro val w1 a hb ha hd;have ha := ha.s0 (d := 1) rfl
    exact hs_val ha rfl rfl (fa_28_3 rfl) rfl rfl
   | 4, _ =>
    intro val w1 a hb ha hd;have e3 : val 3 = _ := hd 3 (memB_mem.1 rfl);have ha := ha.s1 (d := 15) rfl e3
    exact hs_val ha rfl rfl (ld_25 rfl ((q1.below hb q1.lt).at (j := 4) rfl)) rfl rfl
   | 5, _ =>
    intro val w1 a hb ha hd;have e4 : val 4 = _ := hd 4 (memB_mem.1 rfl);have ha := ha.s1 (d := 16) rfl e4;refine hs_call ha rfl rfl (cA1 cF51 rfl) (rows_any (hr.apart.below ((hbw.trans (hb.mono hbw.size)).mono hB)) (Nat.le_trans hB (Nat.le_trans hbw.size hb.size)) (by have := hw_.p; omega) (fun i hi => by have := hw_.rp i hi; omega)) rfl ?_
    rintro e w' ⟨⟨v', us, rfl, ho⟩, hb'⟩
    obtain ⟨A, c9, rfl, _⟩ := ho.rd.rd.shape
    exact ⟨_, rfl, hb', ⟨A, c9, us, rfl, ho.less (Nat.le_trans hbw.size hb.size)⟩⟩
   | 6, _ =>
    intro val w1 a hb ha hd;have ha := ha.s0 (d := 1) rfl
    exact hs_val ha rfl rfl (fa_28_2 rfl) rfl rfl
   | k + 7, h => exact absurd h (by omega)
  ·intro val wR2 hb halc hd
   have e0 : val 0 = _ := hd 0 (by omega)
   have e1 : val 1 = _ := hd 1 (by omega)
   obtain ⟨A2, c2, us2, e2, hn2⟩ := hd 2 (by omega)
   have e3 : val 3 = _ := hd 3 (by omega)
   have e4 : val 4 = _ := hd 4 (by omega)
   obtain ⟨A3, c3, us3, e5, hn3⟩ := hd 5 (by omega)
   have e6 : val 6 = _ := hd 6 (by omega)
   refine EL.ends (cs := [_, _, _, _, _, _, _]) ⟨e0, e1, e2, e3, e4, e5, e6, trivial⟩ rfl ?_;replace q1 := q1.bl hb;replace q2 := q2.bl hb;replace hn1 := own_below hn1 hb (Nat.le_refl _);replace hn4 := own_below hn4 hb (Nat.le_refl _);replace hbw := bo_ hbw hb;clear hb;refine EL.store rfl rfl q1 sz_25 rfl rfl rfl rfl ?_;intro w6 hq6 hg6;replace q2 := q2.gr hg6 n1_2.symm;replace hn1 := own_type hn1 q1 rfl hg6;replace hn4 := own_type hn4 q1 rfl hg6;replace hn2 := (hn2.box q1 rfl rfl hg6).more hg6.size;replace hn3 := (hn3.box q1 rfl rfl hg6).more hg6.size;replace hbw := below_store hbw hg6 bhbw_1;replace q1 := hq6;clear hg6 hq6;refine EL.val (fa_28_3 rfl) rfl (EL.store rfl rfl q1 sz_25 rfl rfl rfl rfl ?_);intro w7 hq7 hg7;replace q2 := q2.gr hg7 n1_2.symm;replace hn1 := own_type hn1 q1 rfl hg7;replace hn4 := own_type hn4 q1 rfl hg7;replace hn2 := (hn2.box q1 rfl rfl hg7).more hg7.size;replace hn3 := (hn3.box q1 rfl rfl hg7).more hg7.size;replace hbw := below_store hbw hg7 bhbw_1;replace q1 := hq7;clear hg7 hq7;refine EL.nil (EX.seq (EC.seq (EC.region (EL.val (ld_28 rfl (q1.at (j := 0) rfl) (q1.at (j := 1) rfl) (q1.at (j := 2) rfl) (q1.at (j := 3) rfl) (q1.at (j := 4) rfl) (q1.at (j := 5) rfl)) rfl (EL.store rfl rfl q2 sz_28 rfl rfl rfl rfl ?_)))));intro w8 hq8 hg8;replace q1 := q1.gr hg8 n1_2;replace hn1 := own_type hn1 q2 rfl hg8;replace hn4 := own_type hn4 q2 rfl hg8;replace hn2 := (hn2.box q2 rfl rfl hg8).more hg8.size;replace hn3 := (hn3.box q2 rfl rfl hg8).more hg8.size;replace hbw := below_store hbw hg8 bhbw_2;replace q2 := hq8;clear hg8 hq8;refine EL.nil (EX.seq (EC.ret ?_))
   exact EX.done (resc1 rfl rfl (lv_28 (q2.at (j := 0) rfl) (q2.at (j := 1) rfl) (q2.at (j := 2) rfl) (q2.at (j := 3) rfl) (q2.at (j := 4) rfl) (q2.at (j := 5) rfl))) ⟨⟨_, _, _, _, us2, us3, rfl, ⟨Rd.of_own hn1, hn2.rd, hn3.rd, Rd.of_own hn4⟩⟩, hbw⟩
def three : Rules := ⟨[100, 60, 40], ⟨10, 20⟩, [[100, 0, 30], [60, 60, 0], [40, 40, 40]], [[0, 1, 0], [0, 0, 0], [0, 0, 0]], [⟨⟨30, 40⟩, 60, 5, 20000⟩, ⟨⟨100, 120⟩, 240, 20, 90000⟩]⟩
def lK : List Ev := [⟨1, 0⟩, ⟨2, 0⟩, ⟨1, 2⟩, ⟨2, 1⟩]
def tK : List (List Ev) := [[⟨1, 0⟩], [⟨1, 1⟩]]
theorem three_ref : refE three lK = 0 := by kernel_rfl
theorem three_ref3 : refE three (lK.take 3) = 0 := by kernel_rfl
theorem three_short : Short three := ⟨by decide, by decide, by decide, by decide⟩
theorem three_res : resE three (lK.take 3) = [⟨40, 60⟩, ⟨0, 0⟩, ⟨40, 40⟩] := by kernel_rfl
theorem three_aud : audE three lK = [⟨2, 0, true⟩] := by kernel_rfl
theorem three_slop : (slopE three lK).length = 2 ∧ ((slopE three lK).getD 1 []) = [0, 2] := ⟨by kernel_rfl, by kernel_rfl⟩
theorem three_bill : billE three lK = .tuple #[.int .i64 300, .int .i64 25, .int .i64 110000, .int .i64 0] := by kernel_rfl
/-- the best, found by looking -/
def bestB (L : List Sx) (p : Pl) : Bool := L.any (fun x => decide (cmpP x.2 p = 0)) && L.all (fun x => decide (cmpP p x.2 ≤ 0))
theorem best_of {L : List Sx} {p : Pl} (h : bestB L p = true) : IsBest L p := by
 unfold bestB at h
 rw [Bool.and_eq_true, List.any_eq_true, List.all_eq_true] at h;obtain ⟨⟨x, hx, h1⟩, h2⟩ := h;have e := cmp_pl.eq _ _ (of_decide_eq_true h1)
 exact ⟨⟨x.1, by rw [← e]; exact hx⟩, fun y hy => of_decide_eq_true (h2 y hy)⟩
def pK : Pl := ⟨[⟨0, 1⟩, ⟨0, -1⟩], 1, 90000⟩
theorem three_code : codeS three (lK.take 1) [2, 1] = 0 := by kernel_rfl
theorem three_code1 : codeS three (lK.take 1) [1] = 7 := by kernel_rfl
theorem three_at1 : atS three (lK.take 1) [1] = 0 := by kernel_rfl
theorem three_plan : IsBest (compl (extY (yardOf three 1)) (([2, 1] : List Int).map Int.toNat) ([tkE three (lK.take 1), tank0, tank0], pl0)) pK := best_of (by kernel_rfl)
theorem three_codeF : codeF three tK [2, 1] = 0 := by kernel_rfl
theorem three_fleet : IsBest (compl (extY (yardOf three tK.length)) (([2, 1] : List Int).map Int.toNat) (fillF three tK tK.length, pl0)) pK := best_of (by kernel_rfl)
section
variable {n : Nat} {σ : Sg} {w : World} {dst : Option Tmp} {ty : TypeId} {pos : String} {af : Array Edge} {g : Option (Nat × Bool)} {x y z : Operand} {at' : Array TypeId}
theorem bs_25_3 {x0 x1 x2 : Operand} {A0 A1 A2 : Option Addr} {m0 c0 m1 c1 m2 c2 : Nat} (h0 : evS σ x0 = some (.slice A0 m0 c0)) (h1 : evS σ x1 = some (.slice A1 m1 c1)) (h2 : evS σ x2 = some (.slice A2 m2 c2)) (a : Act) (ha : Env n σ a) : (execOp a.eval ⟨dst, .buildSlice 25 3 #[(0, x0), (1, x1), (2, x2)], ty, pos, af, g⟩).run Try.prog w = .ok (.value (.slice (some ⟨w.heap.size, 0, none⟩) 3 3)) (w.alloc (.cells #[.slice A0 m0 c0, .slice A1 m1 c1, .slice A2 m2 c2] 22)) := by
 simp only [execOp, List.map_toArray, List.map_cons, List.map_nil, ha.eval h0, ha.eval h1, ha.eval h2]
 go_simp
theorem bd_52_0_1_2_3 {x0 x1 x2 x3 : Operand} {v0_0 : Value} {v0_1 : Value} {z1 : Int} {z2 : Int} {z3 : Int} (h0 : evS σ x0 = some (.agg #[v0_0, v0_1])) (h1 : evS σ x1 = some (.int .i64 z1)) (h2 : evS σ x2 = some (.int .i64 z2)) (h3 : evS σ x3 = some (.int .i64 z3)) : Gives Try.prog n σ w ⟨dst, .build 52 #[(0, x0), (1, x1), (2, x2), (3, x3)], ty, pos, af, g⟩ (.agg #[v0_0, v0_1, .int .i64 z1, .int .i64 z2, .int .i64 z3]) := fun a ha => by
 simp only [execOp, List.map_toArray, List.map_cons, List.map_nil, ha.eval h0, ha.eval h1, ha.eval h2, ha.eval h3]
 go_simp
theorem bs_26_2 {x0 x1 : Operand} {v0_0 v0_1 v0_2 v0_3 v0_4 v1_0 v1_1 v1_2 v1_3 v1_4 : Value} (h0 : evS σ x0 = some (.agg #[v0_0, v0_1, v0_2, v0_3, v0_4])) (h1 : evS σ x1 = some (.agg #[v1_0, v1_1, v1_2, v1_3, v1_4]))  (a : Act) (ha : Env n σ a) : (execOp a.eval ⟨dst, .buildSlice 26 2 #[(0, x0), (1, x1)], ty, pos, af, g⟩).run Try.prog w = .ok (.value (.slice (some ⟨w.heap.size, 0, none⟩) 2 2)) (w.alloc (.cells #[v0_0, v0_1, v0_2, v0_3, v0_4, v1_0, v1_1, v1_2, v1_3, v1_4] 52)) := by
 simp only [execOp, List.map_toArray, List.map_cons, List.map_nil, ha.eval h0, ha.eval h1]
 go_simp
theorem bd_28_0_1_2_3_4 {x0 x1 x2 x3 x4 : Operand} {A0 : Option Addr} {m0 : Nat} {c0 : Nat} {v1_0 : Value} {v1_1 : Value} {A2 : Option Addr} {m2 : Nat} {c2 : Nat} {A3 : Option Addr} {m3 : Nat} {c3 : Nat} {A4 : Option Addr} {m4 : Nat} {c4 : Nat} (h0 : evS σ x0 = some (.slice A0 m0 c0)) (h1 : evS σ x1 = some (.agg #[v1_0, v1_1])) (h2 : evS σ x2 = some (.slice A2 m2 c2)) (h3 : evS σ x3 = some (.slice A3 m3 c3)) (h4 : evS σ x4 = some (.slice A4 m4 c4)) : Gives Try.prog n σ w ⟨dst, .build 28 #[(0, x0), (1, x1), (2, x2), (3, x3), (4, x4)], ty, pos, af, g⟩ (.agg #[.slice A0 m0 c0, v1_0, v1_1, .slice A2 m2 c2, .slice A3 m3 c3, .slice A4 m4 c4]) := fun a ha => by
 simp only [execOp, List.map_toArray, List.map_cons, List.map_nil, ha.eval h0, ha.eval h1, ha.eval h2, ha.eval h3, ha.eval h4]
 go_simp
end
set_option maxHeartbeats 1000000 in
theorem three_any (w : World) :
  Calls Try.prog 47 #[] w fun e w' => (∃ vl va vp vk ua up, e = .returned (rulesV vl va vp vk three) ∧ RdRules w' w'.heap.size vl va vp vk three ua up) ∧ Below w.heap.size w w' := by
 have hbw := Below.refl w.heap.size w;refine EC.enter 17 Try.func47 rfl rfl rfl (EC.seq (EC.region (EL.newP al_28 rfl ?_)));intro g1 w1 q1 hb1 hg1 hl1;have bhbw_1 := Nat.le_trans hbw.size hg1;replace hbw := bo_ hbw hb1;clear hb1 hg1 hl1;refine EL.nil (EX.seq (EC.seq (EC.region (EL.newS (bs_22_3 rfl rfl rfl) rfl ?_))));intro g2 w2 q2 hb2 hg2 hl2;have n1_2 := q1.na hg2;have bhbw_2 := Nat.le_trans hbw.size hg2;replace q1 := q1.bl hb2;replace hbw := bo_ hbw hb2;clear hb2 hg2 hl2;refine EL.val (bd_24_0_1 rfl rfl) rfl (EL.newS (bs_22_3 rfl rfl rfl) rfl ?_);intro g3 w3 q3 hb3 hg3 hl3;have n1_3 := q1.na hg3;have n2_3 := q2.na hg3;have bhbw_3 := Nat.le_trans hbw.size hg3;replace q1 := q1.bl hb3;replace q2 := q2.bl hb3;replace hbw := bo_ hbw hb3;clear hb3 hg3 hl3;refine EL.newS (bs_22_3 rfl rfl rfl) rfl ?_;intro g4 w4 q4 hb4 hg4 hl4;have n1_4 := q1.na hg4;have n2_4 := q2.na hg4;have n3_4 := q3.na hg4;have bhbw_4 := Nat.le_trans hbw.size hg4;replace q1 := q1.bl hb4;replace q2 := q2.bl hb4;replace q3 := q3.bl hb4;replace hbw := bo_ hbw hb4;clear hb4 hg4 hl4;refine EL.newS (bs_22_3 rfl rfl rfl) rfl ?_;intro g5 w5 q5 hb5 hg5 hl5;have n1_5 := q1.na hg5;have n2_5 := q2.na hg5;have n3_5 := q3.na hg5;have n4_5 := q4.na hg5;have bhbw_5 := Nat.le_trans hbw.size hg5;replace q1 := q1.bl hb5;replace q2 := q2.bl hb5;replace q3 := q3.bl hb5;replace q4 := q4.bl hb5;replace hbw := bo_ hbw hb5;clear hb5 hg5 hl5;refine EL.newS (bs_25_3 rfl rfl rfl) rfl ?_;intro g6 w6 q6 hb6 hg6 hl6;have n1_6 := q1.na hg6;have n2_6 := q2.na hg6;have n3_6 := q3.na hg6;have n4_6 := q4.na hg6;have n5_6 := q5.na hg6;have bhbw_6 := Nat.le_trans hbw.size hg6;replace q1 := q1.bl hb6;replace q2 := q2.bl hb6;replace q3 := q3.bl hb6;replace q4 := q4.bl hb6;replace q5 := q5.bl hb6;replace hbw := bo_ hbw hb6;clear hb6 hg6 hl6;refine EL.newS (bs_22_3 rfl rfl rfl) rfl ?_;intro g7 w7 q7 hb7 hg7 hl7;have n1_7 := q1.na hg7;have n2_7 := q2.na hg7;have n3_7 := q3.na hg7;have n4_7 := q4.na hg7;have n5_7 := q5.na hg7;have n6_7 := q6.na hg7;have bhbw_7 := Nat.le_trans hbw.size hg7;replace q1 := q1.bl hb7;replace q2 := q2.bl hb7;replace q3 := q3.bl hb7;replace q4 := q4.bl hb7;replace q5 := q5.bl hb7;replace q6 := q6.bl hb7;replace hbw := bo_ hbw hb7;clear hb7 hg7 hl7;refine EL.newS (bs_22_3 rfl rfl rfl) rfl ?_;intro g8 w8 q8 hb8 hg8 hl8;have n1_8 := q1.na hg8;have n2_8 := q2.na hg8;have n3_8 := q3.na hg8;have n4_8 := q4.na hg8;have n5_8 := q5.na hg8;have n6_8 := q6.na hg8;have n7_8 := q7.na hg8;have bhbw_8 := Nat.le_trans hbw.size hg8;replace q1 := q1.bl hb8;replace q2 := q2.bl hb8;replace q3 := q3.bl hb8;replace q4 := q4.bl hb8;replace q5 := q5.bl hb8;replace q6 := q6.bl hb8;replace q7 := q7.bl hb8;replace hbw := bo_ hbw hb8;clear hb8 hg8 hl8;refine EL.newS (bs_22_3 rfl rfl rfl) rfl ?_;intro g9 w9 q9 hb9 hg9 hl9;have n1_9 := q1.na hg9;have n2_9 := q2.na hg9;have n3_9 := q3.na hg9;have n4_9 := q4.na hg9;have n5_9 := q5.na hg9;have n6_9 := q6.na hg9;have n7_9 := q7.na hg9;have n8_9 := q8.na hg9;have bhbw_9 := Nat.le_trans hbw.size hg9;replace q1 := q1.bl hb9;replace q2 := q2.bl hb9;replace q3 := q3.bl hb9;replace q4 := q4.bl hb9;replace q5 := q5.bl hb9;replace q6 := q6.bl hb9;replace q7 := q7.bl hb9;replace q8 := q8.bl hb9;replace hbw := bo_ hbw hb9;clear hb9 hg9 hl9;refine EL.newS (bs_25_3 rfl rfl rfl) rfl ?_;intro g10 w10 q10 hb10 hg10 hl10;have n1_10 := q1.na hg10;have n2_10 := q2.na hg10;have n3_10 := q3.na hg10;have n4_10 := q4.na hg10;have n5_10 := q5.na hg10;have n6_10 := q6.na hg10;have n7_10 := q7.na hg10;have n8_10 := q8.na hg10;have n9_10 := q9.na hg10;have bhbw_10 := Nat.le_trans hbw.size hg10;replace q1 := q1.bl hb10;replace q2 := q2.bl hb10;replace q3 := q3.bl hb10;replace q4 := q4.bl hb10;replace q5 := q5.bl hb10;replace q6 := q6.bl hb10;replace q7 := q7.bl hb10;replace q8 := q8.bl hb10;replace q9 := q9.bl hb10;replace hbw := bo_ hbw hb10;clear hb10 hg10 hl10;refine EL.val (bd_24_0_1 rfl rfl) rfl (EL.val (bd_52_0_1_2_3 rfl rfl rfl rfl) rfl (EL.val (bd_24_0_1 rfl rfl) rfl (EL.val (bd_52_0_1_2_3 rfl rfl rfl rfl) rfl (EL.newS (bs_26_2 rfl rfl) rfl ?_))));intro g11 w11 q11 hb11 hg11 hl11;have n1_11 := q1.na hg11;have n2_11 := q2.na hg11;have n3_11 := q3.na hg11;have n4_11 := q4.na hg11;have n5_11 := q5.na hg11;have n6_11 := q6.na hg11;have n7_11 := q7.na hg11;have n8_11 := q8.na hg11;have n9_11 := q9.na hg11;have n10_11 := q10.na hg11;have bhbw_11 := Nat.le_trans hbw.size hg11;replace q1 := q1.bl hb11;replace q2 := q2.bl hb11;replace q3 := q3.bl hb11;replace q4 := q4.bl hb11;replace q5 := q5.bl hb11;replace q6 := q6.bl hb11;replace q7 := q7.bl hb11;replace q8 := q8.bl hb11;replace q9 := q9.bl hb11;replace q10 := q10.bl hb11;replace hbw := bo_ hbw hb11;clear hb11 hg11 hl11;refine EL.val (bd_28_0_1_2_3_4 rfl rfl rfl rfl rfl) rfl (EL.store rfl rfl q1 sz_28 rfl rfl rfl rfl ?_);intro w12 hq12 hg12;replace q2 := q2.gr hg12 n1_2.symm;replace q3 := q3.gr hg12 n1_3.symm;replace q4 := q4.gr hg12 n1_4.symm;replace q5 := q5.gr hg12 n1_5.symm;replace q6 := q6.gr hg12 n1_6.symm;replace q7 := q7.gr hg12 n1_7.symm;replace q8 := q8.gr hg12 n1_8.symm;replace q9 := q9.gr hg12 n1_9.symm;replace q10 := q10.gr hg12 n1_10.symm;replace q11 := q11.gr hg12 n1_11.symm;replace hbw := below_store hbw hg12 bhbw_1;replace q1 := hq12;clear hg12 hq12;refine EL.nil (EX.seq (EC.ret ?_));have hL1 : RdLL iC 1 w12 w12.heap.size (.slice (some ⟨g6, 0, none⟩) 3 3) three.allow [.slice (some ⟨g3, 0, none⟩) 3 3, .slice (some ⟨g4, 0, none⟩) 3 3, .slice (some ⟨g5, 0, none⟩) 3 3] := ⟨rfl, rd_blk (k := 3) (l := [.slice (some ⟨g3, 0, none⟩) 3 3, .slice (some ⟨g4, 0, none⟩) 3 3, .slice (some ⟨g5, 0, none⟩) 3 3]) q6 rfl, fun i hi => by (have hi : i < 3 := hi); exact (match i, hi with | 0, _ => rd_blk (k := 3) (l := [.int .i64 100, .int .i64 0, .int .i64 30]) q3 rfl | 1, _ => rd_blk (k := 3) (l := [.int .i64 60, .int .i64 60, .int .i64 0]) q4 rfl | 2, _ => rd_blk (k := 3) (l := [.int .i64 40, .int .i64 40, .int .i64 40]) q5 rfl)⟩
 have hL2 : RdLL iC 1 w12 w12.heap.size (.slice (some ⟨g10, 0, none⟩) 3 3) three.apart [.slice (some ⟨g7, 0, none⟩) 3 3, .slice (some ⟨g8, 0, none⟩) 3 3, .slice (some ⟨g9, 0, none⟩) 3 3] := ⟨rfl, rd_blk (k := 3) (l := [.slice (some ⟨g7, 0, none⟩) 3 3, .slice (some ⟨g8, 0, none⟩) 3 3, .slice (some ⟨g9, 0, none⟩) 3 3]) q10 rfl, fun i hi => by (have hi : i < 3 := hi); exact (match i, hi with | 0, _ => rd_blk (k := 3) (l := [.int .i64 0, .int .i64 1, .int .i64 0]) q7 rfl | 1, _ => rd_blk (k := 3) (l := [.int .i64 0, .int .i64 0, .int .i64 0]) q8 rfl | 2, _ => rd_blk (k := 3) (l := [.int .i64 0, .int .i64 0, .int .i64 0]) q9 rfl)⟩
 exact EX.done (resc1 rfl rfl (lv_28 (q1.at (j := 0) rfl) (q1.at (j := 1) rfl) (q1.at (j := 2) rfl) (q1.at (j := 3) rfl) (q1.at (j := 4) rfl) (q1.at (j := 5) rfl))) ⟨⟨_, _, _, _, _, _, rfl, ⟨rd_blk (k := 3) (l := [.int .i64 100, .int .i64 60, .int .i64 40]) q2 rfl, hL1, hL2, rd_blk (k := 2) (l := [.int .i64 30, .int .i64 40, .int .i64 60, .int .i64 5, .int .i64 20000, .int .i64 100, .int .i64 120, .int .i64 240, .int .i64 20, .int .i64 90000]) q11 rfl⟩⟩, hbw⟩
theorem atF_zero {ru : Rules} {tanks : List (List Ev)} {jobs : List Int} (h : codeF ru tanks jobs = 0) : atF ru tanks jobs = 0 := by
 unfold codeF at h
 unfold atF
 split
 ·rename_i he
  rw [if_pos he] at h
  split
  ·rename_i hd
   rw [if_pos hd] at h
   cases h
  ·rfl
 ·rfl
theorem kRes {ua up : List Value} {vl va vp vk : Value} {w : World} {B : Nat} (hr : RdRules w B vl va vp vk three ua up) (hB : B ≤ w.heap.size) {v : Value} (hl : Rd w B 2 v (lK.take 3).length (evsC (lK.take 3))) : Calls Try.prog 33 #[rulesV vl va vp vk three, v] w fun e w' => (∃ u, e = .returned (.tuple #[u, .int .i64 0]) ∧ w'.ownsRow w.heap.size 24 2 u 3 (bdsC [⟨40, 60⟩, ⟨0, 0⟩, ⟨40, 40⟩])) ∧ Below w.heap.size w w' := by
 have h := Residues_any hr hB three_short hl (by decide)
 rw [three_ref3, three_res] at h
 exact h
theorem kAud {ua up : List Value} {vl va vp vk : Value} {w : World} {B : Nat} (hr : RdRules w B vl va vp vk three ua up) (hB : B ≤ w.heap.size) {v : Value} (hl : Rd w B 2 v lK.length (evsC lK)) : Calls Try.prog 13 #[rulesV vl va vp vk three, v] w fun e w' => (∃ u, e = .returned (.tuple #[u, .int .i64 0]) ∧ w'.ownsRow w.heap.size 46 3 u 1 (brsC [⟨2, 0, true⟩])) ∧ Below w.heap.size w w' := by
 have h := Audit_any hr hB three_short hl (by decide)
 rw [three_ref, three_aud] at h
 exact h
theorem kSlop {ua up : List Value} {vl va vp vk : Value} {w : World} {B : Nat} (hr : RdRules w B vl va vp vk three ua up) (hB : B ≤ w.heap.size) {v : Value} (hl : Rd w B 2 v lK.length (evsC lK)) : Calls Try.prog 16 #[rulesV vl va vp vk three, v] w fun e w' => (∃ u us, e = .returned (.tuple #[u, .int .i64 0]) ∧ OwnLL w' w.heap.size w'.heap.size u (slopE three lK) us) ∧ Below w.heap.size w w' := by
 have h := Slops_any hr hB three_short hl (by decide)
 rw [three_ref] at h
 exact h
theorem kBill {ua up : List Value} {vl va vp vk : Value} {w : World} {B : Nat} (hr : RdRules w B vl va vp vk three ua up) (hB : B ≤ w.heap.size) {v : Value} (hl : Rd w B 2 v lK.length (evsC lK)) : Calls Try.prog 17 #[rulesV vl va vp vk three, v] w fun e w' => e = .returned (.tuple #[.int .i64 300, .int .i64 25, .int .i64 110000, .int .i64 0]) ∧ Below w.heap.size w w' := by
 have h := Bill_any hr hB three_short hl (by decide)
 rw [three_bill] at h
 exact h
theorem kPlan {ua up : List Value} {vl va vp vk : Value} {w : World} {B : Nat} (hr : RdRules w B vl va vp vk three ua up) (hB : B ≤ w.heap.size) {v : Value} (hl : Rd w B 2 v (lK.take 1).length (evsC (lK.take 1))) {vj : Value} (hv : Rd w B 1 vj ([2, 1] : List Int).length (ints [2, 1])) : Calls Try.prog 24 #[rulesV vl va vp vk three, v, vj] w fun e w' => (∃ u, e = .returned (.tuple #[u, .int .i64 90000, .int .i64 0, .int .i64 0]) ∧ w'.ownsRow w.heap.size 3 1 u 2 (ints [1, -1])) ∧ Below w.heap.size w w' := by
 refine (Plan_any hr hB three_short hl (by decide) hv (by decide)).mono fun e w' h => ?_
 obtain ⟨⟨u, ws, c, rfl, ho, h1, _⟩, hb⟩ := h;obtain ⟨p, hp, rfl, rfl⟩ := h1 three_code;obtain rfl := hp.one three_plan
 exact ⟨⟨u, by rw [three_code, at_zero three_code]; rfl, ho⟩, hb⟩
theorem kPlan1 {ua up : List Value} {vl va vp vk : Value} {w : World} {B : Nat} (hr : RdRules w B vl va vp vk three ua up) (hB : B ≤ w.heap.size) {v : Value} (hl : Rd w B 2 v (lK.take 1).length (evsC (lK.take 1))) {vj : Value} (hv : Rd w B 1 vj ([1] : List Int).length (ints [1])) : Calls Try.prog 24 #[rulesV vl va vp vk three, v, vj] w fun e w' => (∃ u, e = .returned (.tuple #[u, .int .i64 0, .int .i64 0, .int .i64 7]) ∧ w'.ownsRow w.heap.size 3 1 u 0 []) ∧ Below w.heap.size w w' := by
 refine (Plan_any hr hB three_short hl (by decide) hv (by decide)).mono fun e w' h => ?_
 obtain ⟨⟨u, ws, c, rfl, ho, _, h1⟩, hb⟩ := h;obtain ⟨rfl, rfl⟩ := h1 (by rw [three_code1]; decide)
 exact ⟨⟨u, by rw [three_code1, three_at1]; rfl, ho⟩, hb⟩
theorem kFleet {ua up : List Value} {vl va vp vk : Value} {w : World} {B : Nat} (hr : RdRules w B vl va vp vk three ua up) (hB : B ≤ w.heap.size) {vt : Value} {ut : List Value} (ht : RdLL evC 2 w B vt tK ut) {vj : Value} (hv : Rd w B 1 vj ([2, 1] : List Int).length (ints [2, 1])) : Calls Try.prog 38 #[rulesV vl va vp vk three, vt, vj] w fun e w' => (∃ u, e = .returned (.tuple #[u, .int .i64 90000, .int .i64 0, .int .i64 0]) ∧ w'.ownsRow w.heap.size 70 2 u 2 (stsC [⟨0, 1⟩, ⟨0, -1⟩])) ∧ Below w.heap.size w w' := by
 refine (Fleet_any hr hB three_short ht (fun i hi => by (have hi : i < 2 := hi); exact (match i, hi with | 0, _ => by decide | 1, _ => by decide)) (by decide) hv (by decide)).mono fun e w' h => ?_
 obtain ⟨⟨u, st, c, rfl, ho, h1, _⟩, hb⟩ := h;obtain ⟨p, hp, rfl, rfl⟩ := h1 three_codeF;obtain rfl := hp.one three_fleet
 exact ⟨⟨u, by rw [three_codeF, atF_zero three_codeF]; rfl, ho⟩, hb⟩
section
variable {n : Nat} {σ : Sg} {w : World} {dst : Option Tmp} {ty : TypeId} {pos : String} {af : Array Edge} {g : Option (Nat × Bool)} {x y z : Operand} {at' : Array TypeId}
theorem eql_24 {a0 a1 b0 b1 : Int} {r : Bool} (hx : evS σ x = some (.agg #[.int .i64 a0, .int .i64 a1])) (hy : evS σ y = some (.agg #[.int .i64 b0, .int .i64 b1])) (hc : decide (a0 = b0 ∧ a1 = b1) = r) : Gives Try.prog n σ w ⟨dst, .binOp .eql 24 x y 24, ty, pos, af, g⟩ (.bool r) := fun a ha => by
 subst hc
 simp only [execOp, ha.eval hx, ha.eval hy]
 go_simp
 repeat' split
 all_goals simp_all
theorem ix_32 {b o m c k : Nat} (hx : evS σ x = some (.slice (some ⟨b, o, none⟩) m c)) (hy : evS σ y = some (.int .i64 (k : Int))) (hk : k < m) : Gives Try.prog n σ w ⟨dst, .indexAddr 32 x y, ty, pos, af, g⟩ (.pointer (some ⟨b, o + k * 3, none⟩)) := fun a ha => by
 have k0 : (0 : Int) ≤ (k : Int) := Int.natCast_nonneg _;have k1 : (k : Int) < (m : Int) := by omega
 simp only [execOp, ha.eval hx, ha.eval hy]
 simp [go_sem, k0, k1]
theorem eql_70 {a0 a1 b0 b1 : Int} {r : Bool} (hx : evS σ x = some (.agg #[.int .i64 a0, .int .i64 a1])) (hy : evS σ y = some (.agg #[.int .i64 b0, .int .i64 b1])) (hc : decide (a0 = b0 ∧ a1 = b1) = r) : Gives Try.prog n σ w ⟨dst, .binOp .eql 70 x y 70, ty, pos, af, g⟩ (.bool r) := fun a ha => by
 subst hc
 simp only [execOp, ha.eval hx, ha.eval hy]
 go_simp
 repeat' split
 all_goals simp_all
theorem cF46 : cF 46 := fun _ _ => by simp [go_sem]
theorem cF45 : cF 45 := fun _ _ => by simp [go_sem]
theorem bs_29_4 {x0 x1 x2 x3 : Operand} {v0_0 v0_1 v1_0 v1_1 v2_0 v2_1 v3_0 v3_1 : Value} (h0 : evS σ x0 = some (.agg #[v0_0, v0_1])) (h1 : evS σ x1 = some (.agg #[v1_0, v1_1])) (h2 : evS σ x2 = some (.agg #[v2_0, v2_1])) (h3 : evS σ x3 = some (.agg #[v3_0, v3_1]))  (a : Act) (ha : Env n σ a) : (execOp a.eval ⟨dst, .buildSlice 29 4 #[(0, x0), (1, x1), (2, x2), (3, x3)], ty, pos, af, g⟩).run Try.prog w = .ok (.value (.slice (some ⟨w.heap.size, 0, none⟩) 4 4)) (w.alloc (.cells #[v0_0, v0_1, v1_0, v1_1, v2_0, v2_1, v3_0, v3_1] 50)) := by
 simp only [execOp, List.map_toArray, List.map_cons, List.map_nil, ha.eval h0, ha.eval h1, ha.eval h2, ha.eval h3]
 go_simp
theorem slh_29 {b o m c hi : Nat} (hx : evS σ x = some (.slice (some ⟨b, o, none⟩) m c)) (hh : evS σ y = some (.int .i64 (hi : Int))) (h2 : hi ≤ c) : Gives Try.prog n σ w ⟨dst, .slice 29 x none (some y) none, ty, pos, af, g⟩ (.slice (some ⟨b, o, none⟩) hi c) := fun a ha => by
 have k1 : (0 : Int) ≤ (hi : Int) := Int.natCast_nonneg _;have k3 : (hi : Int) ≤ (c : Int) := by omega
 simp only [execOp, Option.map_some, Option.map_none, ha.eval hx, ha.eval hh]
 by_cases e : c = 0
 ·subst e; obtain rfl : hi = 0 := by omega
  simp [go_sem]
 ·simp [go_sem, k1, k3, h2, e]
theorem cA0 {F : FuncId} (hF : cF F)  (a : Act) (_ : Env n σ a) : (execOp a.eval ⟨dst, .call { callee := .value (.func F), args := #[], argTypes := at' }, ty, pos, af, g⟩).run Try.prog w = .ok (.enter F #[]) w := by
 simp only [execOp, resolve, List.map_toArray, List.map_nil]
 simp [go_sem, Act.eval, hF _ _]
theorem cF47 : cF 47 := fun _ _ => by simp [go_sem]
theorem cF33 : cF 33 := fun _ _ => by simp [go_sem]
theorem cF13 : cF 13 := fun _ _ => by simp [go_sem]
theorem cF16 : cF 16 := fun _ _ => by simp [go_sem]
theorem cF17 : cF 17 := fun _ _ => by simp [go_sem]
theorem cF24 : cF 24 := fun _ _ => by simp [go_sem]
theorem bs_29_1 {x0 : Operand} {v0_0 v0_1 : Value} (h0 : evS σ x0 = some (.agg #[v0_0, v0_1]))  (a : Act) (ha : Env n σ a) : (execOp a.eval ⟨dst, .buildSlice 29 1 #[(0, x0)], ty, pos, af, g⟩).run Try.prog w = .ok (.value (.slice (some ⟨w.heap.size, 0, none⟩) 1 1)) (w.alloc (.cells #[v0_0, v0_1] 50)) := by
 simp only [execOp, List.map_toArray, List.map_cons, List.map_nil, ha.eval h0]
 go_simp
theorem bs_96_2 {x0 x1 : Operand} {A0 A1 : Option Addr} {m0 c0 m1 c1 : Nat} (h0 : evS σ x0 = some (.slice A0 m0 c0)) (h1 : evS σ x1 = some (.slice A1 m1 c1)) (a : Act) (ha : Env n σ a) : (execOp a.eval ⟨dst, .buildSlice 96 2 #[(0, x0), (1, x1)], ty, pos, af, g⟩).run Try.prog w = .ok (.value (.slice (some ⟨w.heap.size, 0, none⟩) 2 2)) (w.alloc (.cells #[.slice A0 m0 c0, .slice A1 m1 c1] 29)) := by
 simp only [execOp, List.map_toArray, List.map_cons, List.map_nil, ha.eval h0, ha.eval h1]
 go_simp
theorem cF38 : cF 38 := fun _ _ => by simp [go_sem]
theorem ln_32 {A : Option Addr} {m c : Nat} (hx : evS σ x = some (.slice A m c)) : Gives Try.prog n σ w ⟨dst, .call { callee := .builtin .len, args := #[x], argTypes := #[32] }, ty, pos, af, g⟩ (.int .i64 (m : Int)) := fun a ha => by
 simp only [execOp, resolve, List.map_toArray, List.map_cons, List.map_nil, ha.eval hx]
 simp [go_sem]
theorem ld_46 {b o : Nat} {v0 v1 v2 : Value} (hx : evS σ x = some (.pointer (some ⟨b, o, none⟩))) (c0 : w.cell? ⟨b, o, none⟩ = some v0) (c1 : w.cell? ⟨b, o + 1, none⟩ = some v1) (c2 : w.cell? ⟨b, o + 2, none⟩ = some v2) : Gives Try.prog n σ w ⟨dst, .load 46 x, ty, pos, af, g⟩ (.agg #[v0, v1, v2]) := fun a ha => by
 simp only [execOp, ha.eval hx]
 simp [go_sem, c0, c1, c2]
theorem bd_46_0_2 {x0 x1 : Operand} {z0 : Int} {b1 : Bool} (h0 : evS σ x0 = some (.int .i64 z0)) (h1 : evS σ x1 = some (.bool b1)) : Gives Try.prog n σ w ⟨dst, .build 46 #[(0, x0), (2, x1)], ty, pos, af, g⟩ (.agg #[.int .i64 z0, .int .i64 0, .bool b1]) := fun a ha => by
 simp only [execOp, List.map_toArray, List.map_cons, List.map_nil, ha.eval h0, ha.eval h1]
 go_simp
theorem bd_70_1 {x0 : Operand} {z0 : Int} (h0 : evS σ x0 = some (.int .i64 z0)) : Gives Try.prog n σ w ⟨dst, .build 70 #[(1, x0)], ty, pos, af, g⟩ (.agg #[.int .i64 0, .int .i64 z0]) := fun a ha => by
 simp only [execOp, List.map_toArray, List.map_cons, List.map_nil, ha.eval h0]
 go_simp
end
theorem mono_th {k : Nat} : Mono fun r w => ∃ vl va vp vk ua up, r k = rulesV vl va vp vk three ∧ RdRules w w.heap.size vl va vp vk three ua up := fun _ _ _ hb ⟨vl, va, vp, vk, ua, up, h1, h2⟩ => ⟨vl, va, vp, vk, ua, up, h1, (h2.below hb).more hb.size⟩
theorem rd_pre {w : World} {B n c m : Nat} {A : Option Addr} {l : List Ev} (h : Rd w B 2 (.slice A n c) n (evsC l)) (hm : m ≤ n) : Rd w B 2 (.slice A m c) (l.take m).length (evsC (l.take m)) := by
 have hl : l.length = n := by have := h.len; rw [evsC_len] at this; omega
 have hlm : (l.take m).length = m := by rw [List.length_take]; omega
 rw [hlm];obtain ⟨hl0, A', c', h8, hc, hrd⟩ := h
 injection h8 with h8 _ h9
 subst h8 h9;refine ⟨by rw [evsC_len, hlm], A, c, rfl, by omega, fun h0 => ?_⟩
 obtain ⟨b, off, e, hb, hcell⟩ := hrd (by omega)
 refine ⟨b, off, e, hb, fun j u hj => hcell j u ?_⟩
 have e2 : evsC l = evsC (l.take m) ++ evsC (l.drop m) := by
  unfold evsC
  rw [← List.flatMap_append, List.take_append_drop]
 rw [e2, List.getElem?_append_left (List.getElem?_eq_some_iff.1 hj).1]
 exact hj
theorem brs_cells (l : List Br) (k : Nat) (hk : k < l.length) (w : World) (B : Nat) (A : Option Addr) (n c : Nat) (hr : Rd w B 3 (.slice A n c) n (brsC l)) :
  ∃ b off, A = some ⟨b, off, none⟩ ∧ b < B ∧ w.cell? ⟨b, off + k * 3, none⟩ = some (.int .i64 ((l.getD k ⟨0, 0, false⟩).event : Nat)) ∧ w.cell? ⟨b, off + k * 3 + 1, none⟩ = some (.int .i64 ((l.getD k ⟨0, 0, false⟩).cargo : Nat)) ∧ w.cell? ⟨b, off + k * 3 + 2, none⟩ = some (.bool (l.getD k ⟨0, 0, false⟩).sure) := by
 have hl : n * 3 = l.length * 3 := by rw [← hr.len]; exact flat_len brC_len l
 obtain ⟨b, off, rfl, hb, hc⟩ := hr.at_ (by omega)
 have e : l.getD k ⟨0, 0, false⟩ = l[k] := by simp [hk]
 rw [e];have g := fun j hj => flat_get brC_len l k hk j hj
 exact ⟨b, off, rfl, hb, hc (k * 3) _ (g 0 (by omega)), hc (k * 3 + 1) _ (g 1 (by omega)), hc (k * 3 + 2) _ (g 2 (by omega))⟩
theorem x_eqBr {n : Nat} {σ : Sg} {w : World} {dst : Option Tmp} {ty : TypeId} {pos : String} {af : Array Edge} {g : Option (Nat × Bool)} {x y : Operand} {a0 a1 b0 b1 : Int} {a2 b2 r : Bool} (hx : evS σ x = some (.agg #[.int .i64 a0, .int .i64 a1, .bool a2])) (hy : evS σ y = some (.agg #[.int .i64 b0, .int .i64 b1, .bool b2])) (hc : decide (a0 = b0 ∧ a1 = b1 ∧ a2 = b2) = r) : Gives Try.prog n σ w ⟨dst, .binOp .eql 46 x y 46, ty, pos, af, g⟩ (.bool r) := fun a ha => by
 subst hc
 simp only [execOp, ha.eval hx, ha.eval hy]
 go_simp
 repeat' split
 all_goals simp_all
set_option maxHeartbeats 4000000 in
theorem known_any (w : World) : Calls Try.prog 12 #[] w fun e w' => e = .returned (.bool true) ∧ Below w.heap.size w w' := by
 have hbw := Below.refl w.heap.size w;refine EC.enter 213 Try.func12 rfl rfl rfl (EC.seq (EC.region (EL.as rfl rfl (EL.nil (EX.seq (EC.seq (EC.region (EL.call (cA1 cF46 rfl) rfl (lload_any _ _) ?_))))))))
 rintro e w1 ⟨rfl, hc1⟩
 refine ⟨_, rfl, ?_⟩;replace hbw := bo_ hbw hc1;clear hc1;refine EL.call (cA1 cF45 rfl) rfl (lclean_any _ _) ?_
 rintro e w2 ⟨rfl, hc2⟩
 refine ⟨_, rfl, ?_⟩;replace hbw := bo_ hbw hc2;clear hc2;refine EL.call (cA1 cF46 rfl) rfl (lload_any _ _) ?_
 rintro e w3 ⟨rfl, hc3⟩
 refine ⟨_, rfl, ?_⟩;replace hbw := bo_ hbw hc3;clear hc3;refine EL.call (cA1 cF45 rfl) rfl (lclean_any _ _) ?_
 rintro e w4 ⟨rfl, hc4⟩
 refine ⟨_, rfl, ?_⟩;replace hbw := bo_ hbw hc4;clear hc4;refine EL.newS (bs_29_4 rfl rfl rfl rfl) rfl ?_;intro g5 w5 q5 hb5 hg5 hl5;have bhbw_5 := Nat.le_trans hbw.size hg5;replace hbw := bo_ hbw hb5;clear hb5 hg5 hl5;have hE : Rd w5 w5.heap.size 2 (.slice (some ⟨g5, 0, none⟩) 4 4) lK.length (evsC lK) := rd_blk (k := 4) (l := [.int .i64 1, .int .i64 0, .int .i64 2, .int .i64 0, .int .i64 1, .int .i64 2, .int .i64 2, .int .i64 1]) q5 rfl;refine EL.as rfl rfl (EL.nil (EX.seq (EC.seq ?_)));refine EC.regionP [[], [], [1], [0, 1, 2], [0, 1, 2, 3], [0, 1, 2, 3, 4], [0, 1, 2, 3, 4], [0, 1, 2, 3, 4, 5], [0, 1, 2, 3, 4, 5, 6, 7]] 8 [] (phi (fun i_ r => match i_ with | 1 => r 1 = .slice (some ⟨g5, 0, none⟩) 4 4 | 2 => r 2 = .slice (some ⟨g5, 0, none⟩) 3 4 | 6 => r 6 = .int .i64 0 | _ => True) [(0, fun r w_ => ∃ vl va vp vk ua up, r 0 = rulesV vl va vp vk three ∧ RdRules w_ w_.heap.size vl va vp vk three ua up), (3, fun r w_ => ∃ A c, r 3 = .tuple #[.slice A 3 c, .int .i64 0] ∧ w_.ownsRow w.heap.size 24 2 (.slice A 3 c) 3 (bdsC [⟨40, 60⟩, ⟨0, 0⟩, ⟨40, 40⟩])), (4, fun r w_ => ∃ A c, r 4 = .tuple #[.slice A 3 c, .int .i64 0] ∧ w_.ownsRow w.heap.size 24 2 (.slice A 3 c) 3 (bdsC [⟨40, 60⟩, ⟨0, 0⟩, ⟨40, 40⟩])), (5, fun r w_ => ∃ A c, r 5 = .slice A 3 c ∧ w_.ownsRow w.heap.size 24 2 (.slice A 3 c) 3 (bdsC [⟨40, 60⟩, ⟨0, 0⟩, ⟨40, 40⟩])), (7, fun r w_ => ∃ A c, r 7 = .slice A 3 c ∧ w_.ownsRow w.heap.size 24 2 (.slice A 3 c) 3 (bdsC [⟨40, 60⟩, ⟨0, 0⟩, ⟨40, 40⟩]))]) (by kernel_rfl) rfl rfl (phi_cons mono_th (phi_cons (mono_cp (f := fun A c => .tuple #[.slice A 3 c, .int .i64 0])) (phi_cons (mono_cp (f := fun A c => .tuple #[.slice A 3 c, .int .i64 0])) (phi_cons (mono_cp (f := fun A c => .slice A 3 c)) (phi_cons (mono_cp (f := fun A c => .slice A 3 c)) (phi_nil)))))) (fun i_ hi_ => ?_) ?_
 ·match i_, hi_ with
  | 0, _ =>
   intro val w1 a hb ha hd;have ha := ha.sub (Sub.nil _);refine hs_call ha rfl rfl (cA0 cF47) (three_any _) rfl ?_
   rintro e w' ⟨⟨vl, va, vp, vk, ua, up, rfl, hR⟩, hb'⟩
   exact ⟨_, rfl, hb', ⟨vl, va, vp, vk, ua, up, rfl, hR⟩⟩
  | 1, _ =>
   intro val w1 a hb ha hd;have ha := ha.s0 (d := 1) rfl
   exact hs_val ha rfl rfl (x_move rfl) rfl rfl
  | 2, _ =>
   intro val w1 a hb ha hd;have e1 : val 1 = _ := hd 1 (memB_mem.1 rfl);have ha := ha.s1 (d := 31) rfl e1
   exact hs_val ha rfl rfl (slh_29 (hi := 3) rfl rfl (by decide)) rfl rfl
  | 3, _ =>
   intro val w1 a hb ha hd;obtain ⟨vl0_, va0_, vp0_, vk0_, ua0_, up0_, e0, hR0_⟩ := hd 0 (memB_mem.1 rfl);have e2 : val 2 = _ := hd 2 (memB_mem.1 rfl);have ha := ha.s2 (d := 32) (e := 30) rfl e2 rfl e0;refine hs_call ha rfl rfl (cA2 cF33 rfl rfl) (kRes hR0_ (Nat.le_refl _) (rd_pre (m := 3) ((hE.below hb).more hb.size) (by decide))) rfl ?_
   rintro e w' ⟨⟨u, rfl, ho⟩, hb'⟩
   obtain ⟨A, c9, rfl, _⟩ := (Rd.of_own ho).shape
   exact ⟨_, rfl, hb', ⟨A, c9, rfl, own_less ho (Nat.le_trans hbw.size hb.size)⟩⟩
  | 4, _ =>
   intro val w1 a hb ha hd;obtain ⟨A2_3, c2_3, e3, ho2_3⟩ := hd 3 (memB_mem.1 rfl);have ha := ha.s1 (d := 33) rfl e3
   exact hs_val ha rfl rfl (x_move rfl) ⟨A2_3, c2_3, rfl, ho2_3⟩ rfl
  | 5, _ =>
   intro val w1 a hb ha hd;obtain ⟨A2_4, c2_4, e4, ho2_4⟩ := hd 4 (memB_mem.1 rfl);have ha := ha.s1 (d := 29) rfl e4
   exact hs_val ha rfl rfl (x_extract rfl rfl) ⟨A2_4, c2_4, rfl, ho2_4⟩ rfl
  | 6, _ =>
   intro val w1 a hb ha hd;obtain ⟨A2_4, c2_4, e4, ho2_4⟩ := hd 4 (memB_mem.1 rfl);have ha := ha.s1 (d := 29) rfl e4
   exact hs_val ha rfl rfl (x_extract rfl rfl) rfl rfl
  | 7, _ =>
   intro val w1 a hb ha hd;obtain ⟨A2_5, c2_5, e5, ho2_5⟩ := hd 5 (memB_mem.1 rfl);have ha := ha.s1 (d := 34) rfl e5
   exact hs_val ha rfl rfl (x_assign rfl) ⟨A2_5, c2_5, rfl, ho2_5⟩ rfl
  | k + 8, h => exact absurd h (by omega)
 ·intro val wR2 hb halc hd
  obtain ⟨vl0_, va0_, vp0_, vk0_, ua0_, up0_, e0, hR0_⟩ := hd 0 (by omega)
  have e1 : val 1 = _ := hd 1 (by omega)
  have e2 : val 2 = _ := hd 2 (by omega)
  obtain ⟨A2_3, c2_3, e3, ho2_3⟩ := hd 3 (by omega)
  obtain ⟨A2_4, c2_4, e4, ho2_4⟩ := hd 4 (by omega)
  obtain ⟨A2_5, c2_5, e5, ho2_5⟩ := hd 5 (by omega)
  have e6 : val 6 = _ := hd 6 (by omega)
  obtain ⟨A2_7, c2_7, e7, ho2_7⟩ := hd 7 (by omega)
  refine EL.ends (cs := [_, _, _, _, _, _, _, _]) ⟨e0, e1, e2, e3, e4, e5, e6, e7, trivial⟩ rfl ?_;replace hE := (hE.below hb).more hb.size;replace hbw := bo_ hbw hb;clear hb;have hr2 := ho2_7;clear ho2_3 ho2_4 ho2_5 ho2_7 hR0_;refine EL.as rfl rfl (EL.nil (EX.seq (EC.seq (EC.region (EL.call (cA0 cF47) rfl (three_any _) ?_)))))
  rintro e w6 ⟨⟨vl6, va6, vp6, vk6, ua6, up6, rfl, hR⟩, hc6⟩
  refine ⟨_, rfl, ?_⟩;replace hE := (hE.below hc6).more hc6.size;replace hr2 := own_below hr2 hc6 (Nat.le_refl _);replace hbw := bo_ hbw hc6;clear hc6;refine EL.mv rfl rfl (EL.call (cA2 cF13 rfl rfl) rfl (kAud hR (Nat.le_refl _) hE) ?_)
  rintro e w7 ⟨⟨u7, rfl, ho7⟩, hc7⟩
  refine ⟨_, rfl, ?_⟩;have hrA := own_less ho7 hbw.size;clear ho7;replace hE := (hE.below hc7).more hc7.size;replace hr2 := own_below hr2 hc7 (Nat.le_refl _);replace hbw := bo_ hbw hc7;clear hc7 hR;obtain ⟨AhrA, chrA, rfl, _⟩ := (Rd.of_own hrA).shape;refine EL.mv rfl rfl (EL.xt rfl rfl rfl (EL.xt rfl rfl rfl (EL.as rfl rfl (EL.as rfl rfl (EL.nil (EX.seq (EC.seq (EC.region (EL.call (cA0 cF47) rfl (three_any _) ?_)))))))))
  rintro e w8 ⟨⟨vl8, va8, vp8, vk8, ua8, up8, rfl, hR⟩, hc8⟩
  refine ⟨_, rfl, ?_⟩;replace hE := (hE.below hc8).more hc8.size;replace hr2 := own_below hr2 hc8 (Nat.le_refl _);replace hrA := own_below hrA hc8 (Nat.le_refl _);replace hbw := bo_ hbw hc8;clear hc8;refine EL.mv rfl rfl (EL.call (cA2 cF16 rfl rfl) rfl (kSlop hR (Nat.le_refl _) hE) ?_)
  rintro e w9 ⟨⟨u9, usS, rfl, ho9⟩, hc9⟩
  refine ⟨_, rfl, ?_⟩;have hS := ho9.less hbw.size;clear ho9;replace hE := (hE.below hc9).more hc9.size;replace hr2 := own_below hr2 hc9 (Nat.le_refl _);replace hrA := own_below hrA hc9 (Nat.le_refl _);replace hbw := bo_ hbw hc9;clear hc9 hR;obtain ⟨AS, cS, rfl, _⟩ := hS.rd.rd.shape;refine EL.mv rfl rfl (EL.xt rfl rfl rfl (EL.xt rfl rfl rfl (EL.as rfl rfl (EL.as rfl rfl (EL.nil (EX.seq (EC.seq (EC.region (EL.call (cA0 cF47) rfl (three_any _) ?_)))))))))
  rintro e w10 ⟨⟨vl10, va10, vp10, vk10, ua10, up10, rfl, hR⟩, hc10⟩
  refine ⟨_, rfl, ?_⟩;replace hE := (hE.below hc10).more hc10.size;replace hr2 := own_below hr2 hc10 (Nat.le_refl _);replace hrA := own_below hrA hc10 (Nat.le_refl _);replace hS := (hS.below hc10).more hc10.size;replace hbw := bo_ hbw hc10;clear hc10;refine EL.mv rfl rfl (EL.call (cA2 cF17 rfl rfl) rfl (kBill hR (Nat.le_refl _) hE) ?_)
  rintro e w11 ⟨rfl, hc11⟩
  refine ⟨_, rfl, ?_⟩;replace hE := (hE.below hc11).more hc11.size;replace hr2 := own_below hr2 hc11 (Nat.le_refl _);replace hrA := own_below hrA hc11 (Nat.le_refl _);replace hS := (hS.below hc11).more hc11.size;replace hR := (hR.below hc11).more hc11.size;replace hbw := bo_ hbw hc11;clear hc11;clear hR;refine EL.mv rfl rfl (EL.xt rfl rfl rfl (EL.xt rfl rfl rfl (EL.xt rfl rfl rfl (EL.xt rfl rfl rfl (EL.as rfl rfl (EL.as rfl rfl (EL.as rfl rfl (EL.as rfl rfl (EL.nil ?_)))))))));refine EX.seq (EC.seq ?_);refine EC.regionP [[], [], [1], [], [0, 1, 2, 3], [0, 1, 2, 3, 4], [0, 1, 2, 3, 4, 5], [0, 1, 2, 3, 4, 5], [0, 1, 2, 3, 4, 5], [0, 1, 2, 3, 4, 5], [0, 1, 2, 3, 4, 5, 6], [0, 1, 2, 3, 4, 5, 6, 7, 10], [0, 1, 2, 3, 4, 5, 6, 7, 8, 10, 11], [0, 1, 2, 3, 4, 5, 6, 7, 8, 9, 10, 11, 12]] 13 [] (phi (fun i_ r => match i_ with | 1 => r 1 = .slice (some ⟨g5, 0, none⟩) 4 4 | 2 => r 2 = .slice (some ⟨g5, 0, none⟩) 1 4 | 7 => r 7 = .int .i64 90000 | 8 => r 8 = .int .i64 0 | 9 => r 9 = .int .i64 0 | 11 => r 11 = .int .i64 90000 | 12 => r 12 = .int .i64 0 | _ => True) [(0, fun r w_ => ∃ vl va vp vk ua up, r 0 = rulesV vl va vp vk three ∧ RdRules w_ w_.heap.size vl va vp vk three ua up), (3, fun r w_ => ∃ g_, r 3 = .slice (some ⟨g_, 0, none⟩) 2 2 ∧ Blk w_ g_ 3 #[.int .i64 2, .int .i64 1] ∧ w11.heap.size ≤ g_), (4, fun r w_ => ∃ A c, r 4 = .tuple #[.slice A 2 c, .int .i64 90000, .int .i64 0, .int .i64 0] ∧ w_.ownsRow w.heap.size 3 1 (.slice A 2 c) 2 (ints [1, -1])), (5, fun r w_ => ∃ A c, r 5 = .tuple #[.slice A 2 c, .int .i64 90000, .int .i64 0, .int .i64 0] ∧ w_.ownsRow w.heap.size 3 1 (.slice A 2 c) 2 (ints [1, -1])), (6, fun r w_ => ∃ A c, r 6 = .slice A 2 c ∧ w_.ownsRow w.heap.size 3 1 (.slice A 2 c) 2 (ints [1, -1])), (10, fun r w_ => ∃ A c, r 10 = .slice A 2 c ∧ w_.ownsRow w.heap.size 3 1 (.slice A 2 c) 2 (ints [1, -1]))]) (by kernel_rfl) rfl rfl (phi_cons mono_th (phi_cons mono_bs (phi_cons (mono_cp (f := fun A c => .tuple #[.slice A 2 c, .int .i64 90000, .int .i64 0, .int .i64 0])) (phi_cons (mono_cp (f := fun A c => .tuple #[.slice A 2 c, .int .i64 90000, .int .i64 0, .int .i64 0])) (phi_cons (mono_cp (f := fun A c => .slice A 2 c)) (phi_cons (mono_cp (f := fun A c => .slice A 2 c)) (phi_nil))))))) (fun i_ hi_ => ?_) ?_
  ·match i_, hi_ with
   | 0, _ =>
    intro val w1 a hb ha hd;have ha := ha.sub (Sub.nil _);refine hs_call ha rfl rfl (cA0 cF47) (three_any _) rfl ?_
    rintro e w' ⟨⟨vl, va, vp, vk, ua, up, rfl, hR⟩, hb'⟩
    exact ⟨_, rfl, hb', ⟨vl, va, vp, vk, ua, up, rfl, hR⟩⟩
   | 1, _ =>
    intro val w1 a hb ha hd;have ha := ha.s0 (d := 1) rfl
    exact hs_val ha rfl rfl (x_move rfl) rfl rfl
   | 2, _ =>
    intro val w1 a hb ha hd;have e1 : val 1 = _ := hd 1 (memB_mem.1 rfl);have ha := ha.s1 (d := 58) rfl e1
    exact hs_val ha rfl rfl (slh_29 (hi := 1) rfl rfl (by decide)) rfl rfl
   | 3, _ =>
    intro val w1 a hb ha hd;have ha := ha.sub (Sub.nil _)
    exact hs_newS ha rfl rfl (bs_22_2 rfl rfl) rfl (fun g w' hq _ hge => ⟨g, rfl, hq, Nat.le_trans hb.size hge⟩)
   | 4, _ =>
    intro val w1 a hb ha hd;obtain ⟨vl0_, va0_, vp0_, vk0_, ua0_, up0_, e0, hR0_⟩ := hd 0 (memB_mem.1 rfl);have e2 : val 2 = _ := hd 2 (memB_mem.1 rfl);obtain ⟨g3_, e3, q3_, h3_⟩ := hd 3 (memB_mem.1 rfl);change val 3 = _ at e3;have ha := ha.sub (Sub.ins (d := 60) (Sub.ins (d := 59) (Sub.ins (d := 57) (Sub.nil _) (dep_get rfl e0)) (dep_get rfl e2)) (dep_get rfl e3));refine hs_call ha rfl rfl (cA3 cF24 rfl rfl rfl) (kPlan hR0_ (Nat.le_refl _) (rd_pre (m := 1) ((hE.below hb).more hb.size) (by decide)) (rd_blk (k := 2) (l := [.int .i64 2, .int .i64 1]) q3_ rfl)) rfl ?_
    rintro e w' ⟨⟨u, rfl, ho⟩, hb'⟩
    obtain ⟨A, c9, rfl, _⟩ := (Rd.of_own ho).shape
    exact ⟨_, rfl, hb', ⟨A, c9, rfl, own_less ho (Nat.le_trans hbw.size hb.size)⟩⟩
   | 5, _ =>
    intro val w1 a hb ha hd;obtain ⟨A6_4, c6_4, e4, ho6_4⟩ := hd 4 (memB_mem.1 rfl);have ha := ha.s1 (d := 61) rfl e4
    exact hs_val ha rfl rfl (x_move rfl) ⟨A6_4, c6_4, rfl, ho6_4⟩ rfl
   | 6, _ =>
    intro val w1 a hb ha hd;obtain ⟨A6_5, c6_5, e5, ho6_5⟩ := hd 5 (memB_mem.1 rfl);have ha := ha.s1 (d := 56) rfl e5
    exact hs_val ha rfl rfl (x_extract rfl rfl) ⟨A6_5, c6_5, rfl, ho6_5⟩ rfl
   | 7, _ =>
    intro val w1 a hb ha hd;obtain ⟨A6_5, c6_5, e5, ho6_5⟩ := hd 5 (memB_mem.1 rfl);have ha := ha.s1 (d := 56) rfl e5
    exact hs_val ha rfl rfl (x_extract rfl rfl) rfl rfl
   | 8, _ =>
    intro val w1 a hb ha hd;obtain ⟨A6_5, c6_5, e5, ho6_5⟩ := hd 5 (memB_mem.1 rfl);have ha := ha.s1 (d := 56) rfl e5
    exact hs_val ha rfl rfl (x_extract rfl rfl) rfl rfl
   | 9, _ =>
    intro val w1 a hb ha hd;obtain ⟨A6_5, c6_5, e5, ho6_5⟩ := hd 5 (memB_mem.1 rfl);have ha := ha.s1 (d := 56) rfl e5
    exact hs_val ha rfl rfl (x_extract rfl rfl) rfl rfl
   | 10, _ =>
    intro val w1 a hb ha hd;obtain ⟨A6_6, c6_6, e6, ho6_6⟩ := hd 6 (memB_mem.1 rfl);have ha := ha.s1 (d := 62) rfl e6
    exact hs_val ha rfl rfl (x_assign rfl) ⟨A6_6, c6_6, rfl, ho6_6⟩ rfl
   | 11, _ =>
    intro val w1 a hb ha hd;have e7 : val 7 = _ := hd 7 (memB_mem.1 rfl);have ha := ha.s1 (d := 63) rfl e7
    exact hs_val ha rfl rfl (x_assign rfl) rfl rfl
   | 12, _ =>
    intro val w1 a hb ha hd;have e8 : val 8 = _ := hd 8 (memB_mem.1 rfl);have ha := ha.s1 (d := 64) rfl e8
    exact hs_val ha rfl rfl (x_assign rfl) rfl rfl
   | k + 13, h => exact absurd h (by omega)
  ·intro val wR6 hb halc hd
   obtain ⟨vl0_, va0_, vp0_, vk0_, ua0_, up0_, e0, hR0_⟩ := hd 0 (by omega)
   have e1 : val 1 = _ := hd 1 (by omega)
   have e2 : val 2 = _ := hd 2 (by omega)
   obtain ⟨ga3_6, e3, qa3_6, hga3_6⟩ := hd 3 (by omega)
   change val 3 = _ at e3;change Blk wR6 ga3_6 3 #[.int .i64 2, .int .i64 1] at qa3_6;obtain ⟨A6_4, c6_4, e4, ho6_4⟩ := hd 4 (by omega)
   obtain ⟨A6_5, c6_5, e5, ho6_5⟩ := hd 5 (by omega)
   obtain ⟨A6_6, c6_6, e6, ho6_6⟩ := hd 6 (by omega)
   have e7 : val 7 = _ := hd 7 (by omega)
   have e8 : val 8 = _ := hd 8 (by omega)
   have e9 : val 9 = _ := hd 9 (by omega)
   obtain ⟨A6_10, c6_10, e10, ho6_10⟩ := hd 10 (by omega)
   have e11 : val 11 = _ := hd 11 (by omega)
   have e12 : val 12 = _ := hd 12 (by omega)
   refine EL.ends (cs := [_, _, _, _, _, _, _, _, _, _, _, _, _]) ⟨e0, e1, e2, e3, e4, e5, e6, e7, e8, e9, e10, e11, e12, trivial⟩ rfl ?_;replace hE := (hE.below hb).more hb.size;replace hr2 := own_below hr2 hb (Nat.le_refl _);replace hrA := own_below hrA hb (Nat.le_refl _);replace hS := (hS.below hb).more hb.size;have bhbw_12 := Nat.le_trans hbw.size hga3_6;replace hbw := bo_ hbw hb;clear hb;have hr6 := ho6_10;clear ho6_4 ho6_5 ho6_6 ho6_10 hR0_;refine EL.as rfl rfl (EL.nil (EX.seq (EC.seq (EC.region (EL.call (cA0 cF47) rfl (three_any _) ?_)))))
   rintro e w13 ⟨⟨vl13, va13, vp13, vk13, ua13, up13, rfl, hR⟩, hc13⟩
   refine ⟨_, rfl, ?_⟩;replace hE := (hE.below hc13).more hc13.size;replace hr2 := own_below hr2 hc13 (Nat.le_refl _);replace hrA := own_below hrA hc13 (Nat.le_refl _);replace hS := (hS.below hc13).more hc13.size;replace hr6 := own_below hr6 hc13 (Nat.le_refl _);replace hbw := bo_ hbw hc13;clear hc13;refine EL.call (cA1 cF46 rfl) rfl (lload_any _ _) ?_
   rintro e w14 ⟨rfl, hc14⟩
   refine ⟨_, rfl, ?_⟩;replace hE := (hE.below hc14).more hc14.size;replace hr2 := own_below hr2 hc14 (Nat.le_refl _);replace hrA := own_below hrA hc14 (Nat.le_refl _);replace hS := (hS.below hc14).more hc14.size;replace hr6 := own_below hr6 hc14 (Nat.le_refl _);replace hR := (hR.below hc14).more hc14.size;replace hbw := bo_ hbw hc14;clear hc14;refine EL.newS (bs_29_1 rfl) rfl ?_;intro g15 w15 q15 hb15 hg15 hl15;have bhbw_15 := Nat.le_trans hbw.size hg15;replace hE := (hE.below hb15).more hb15.size;replace hr2 := own_below hr2 hb15 (Nat.le_refl _);replace hrA := own_below hrA hb15 (Nat.le_refl _);replace hS := (hS.below hb15).more hb15.size;replace hr6 := own_below hr6 hb15 (Nat.le_refl _);replace hR := (hR.below hb15).more hb15.size;replace hbw := bo_ hbw hb15;clear hb15 hg15 hl15;refine EL.call (cA1 cF46 rfl) rfl (lload_any _ _) ?_
   rintro e w16 ⟨rfl, hc16⟩
   refine ⟨_, rfl, ?_⟩;replace q15 := q15.bl hc16;replace hE := (hE.below hc16).more hc16.size;replace hr2 := own_below hr2 hc16 (Nat.le_refl _);replace hrA := own_below hrA hc16 (Nat.le_refl _);replace hS := (hS.below hc16).more hc16.size;replace hr6 := own_below hr6 hc16 (Nat.le_refl _);replace hR := (hR.below hc16).more hc16.size;replace hbw := bo_ hbw hc16;clear hc16;refine EL.newS (bs_29_1 rfl) rfl ?_;intro g17 w17 q17 hb17 hg17 hl17;have n15_17 := q15.na hg17;have bhbw_17 := Nat.le_trans hbw.size hg17;replace q15 := q15.bl hb17;replace hE := (hE.below hb17).more hb17.size;replace hr2 := own_below hr2 hb17 (Nat.le_refl _);replace hrA := own_below hrA hb17 (Nat.le_refl _);replace hS := (hS.below hb17).more hb17.size;replace hr6 := own_below hr6 hb17 (Nat.le_refl _);replace hR := (hR.below hb17).more hb17.size;replace hbw := bo_ hbw hb17;clear hb17 hg17 hl17;refine EL.newS (bs_96_2 rfl rfl) rfl ?_;intro g18 w18 q18 hb18 hg18 hl18;have n15_18 := q15.na hg18;have n17_18 := q17.na hg18;have bhbw_18 := Nat.le_trans hbw.size hg18;replace q15 := q15.bl hb18;replace q17 := q17.bl hb18;replace hE := (hE.below hb18).more hb18.size;replace hr2 := own_below hr2 hb18 (Nat.le_refl _);replace hrA := own_below hrA hb18 (Nat.le_refl _);replace hS := (hS.below hb18).more hb18.size;replace hr6 := own_below hr6 hb18 (Nat.le_refl _);replace hR := (hR.below hb18).more hb18.size;replace hbw := bo_ hbw hb18;clear hb18 hg18 hl18;refine EL.newS (bs_22_2 rfl rfl) rfl ?_;intro g19 w19 q19 hb19 hg19 hl19;have n15_19 := q15.na hg19;have n17_19 := q17.na hg19;have n18_19 := q18.na hg19;have bhbw_19 := Nat.le_trans hbw.size hg19;replace q15 := q15.bl hb19;replace q17 := q17.bl hb19;replace q18 := q18.bl hb19;replace hE := (hE.below hb19).more hb19.size;replace hr2 := own_below hr2 hb19 (Nat.le_refl _);replace hrA := own_below hrA hb19 (Nat.le_refl _);replace hS := (hS.below hb19).more hb19.size;replace hr6 := own_below hr6 hb19 (Nat.le_refl _);replace hR := (hR.below hb19).more hb19.size;replace hbw := bo_ hbw hb19;clear hb19 hg19 hl19;have hT : RdLL evC 2 w19 w19.heap.size (.slice (some ⟨g18, 0, none⟩) 2 2) tK [.slice (some ⟨g15, 0, none⟩) 1 1, .slice (some ⟨g17, 0, none⟩) 1 1] := ⟨rfl, rd_blk (k := 2) (l := [.slice (some ⟨g15, 0, none⟩) 1 1, .slice (some ⟨g17, 0, none⟩) 1 1]) q18 rfl, fun i hi => by (have hi : i < 2 := hi); exact (match i, hi with | 0, _ => rd_blk (k := 1) (l := [.int .i64 1, .int .i64 0]) q15 rfl | 1, _ => rd_blk (k := 1) (l := [.int .i64 1, .int .i64 1]) q17 rfl)⟩
   have hJ := rd_blk (size := 1) (k := 2) (l := [.int .i64 2, .int .i64 1]) q19 rfl;refine EL.call (cA3 cF38 rfl rfl rfl) rfl (kFleet hR (Nat.le_refl _) hT hJ) ?_
   rintro e w20 ⟨⟨u20, rfl, ho20⟩, hc20⟩
   refine ⟨_, rfl, ?_⟩;have hrF := own_less ho20 hbw.size;clear ho20;replace hE := (hE.below hc20).more hc20.size;replace hr2 := own_below hr2 hc20 (Nat.le_refl _);replace hrA := own_below hrA hc20 (Nat.le_refl _);replace hS := (hS.below hc20).more hc20.size;replace hr6 := own_below hr6 hc20 (Nat.le_refl _);replace hbw := bo_ hbw hc20;clear hc20 hR;obtain ⟨AhrF, chrF, rfl, _⟩ := (Rd.of_own hrF).shape;refine EL.mv rfl rfl (EL.xt rfl rfl rfl (EL.xt rfl rfl rfl (EL.xt rfl rfl rfl (EL.xt rfl rfl rfl (EL.as rfl rfl (EL.as rfl rfl (EL.as rfl rfl (EL.as rfl rfl (EL.nil ?_)))))))));refine EX.seq (EC.seq ?_);refine EC.regionP [[], [], [1], [], [0, 1, 2, 3], [0, 1, 2, 3, 4], [0, 1, 2, 3, 4, 5], [0, 1, 2, 3, 4, 5], [0, 1, 2, 3, 4, 5], [0, 1, 2, 3, 4, 5], [0, 1, 2, 3, 4, 5, 6], [0, 1, 2, 3, 4, 5, 6, 7, 10], [0, 1, 2, 3, 4, 5, 6, 7, 8, 10, 11], [0, 1, 2, 3, 4, 5, 6, 7, 8, 9, 10, 11, 12]] 13 [] (phi (fun i_ r => match i_ with | 1 => r 1 = .slice (some ⟨g5, 0, none⟩) 4 4 | 2 => r 2 = .slice (some ⟨g5, 0, none⟩) 1 4 | 7 => r 7 = .int .i64 0 | 8 => r 8 = .int .i64 0 | 9 => r 9 = .int .i64 7 | 11 => r 11 = .int .i64 0 | 12 => r 12 = .int .i64 0 | _ => True) [(0, fun r w_ => ∃ vl va vp vk ua up, r 0 = rulesV vl va vp vk three ∧ RdRules w_ w_.heap.size vl va vp vk three ua up), (3, fun r w_ => ∃ g_, r 3 = .slice (some ⟨g_, 0, none⟩) 1 1 ∧ Blk w_ g_ 3 #[.int .i64 1] ∧ w20.heap.size ≤ g_), (4, fun r w_ => ∃ A c, r 4 = .tuple #[.slice A 0 c, .int .i64 0, .int .i64 0, .int .i64 7] ∧ w_.ownsRow w.heap.size 3 1 (.slice A 0 c) 0 []), (5, fun r w_ => ∃ A c, r 5 = .tuple #[.slice A 0 c, .int .i64 0, .int .i64 0, .int .i64 7] ∧ w_.ownsRow w.heap.size 3 1 (.slice A 0 c) 0 []), (6, fun r w_ => ∃ A c, r 6 = .slice A 0 c ∧ w_.ownsRow w.heap.size 3 1 (.slice A 0 c) 0 []), (10, fun r w_ => ∃ A c, r 10 = .slice A 0 c ∧ w_.ownsRow w.heap.size 3 1 (.slice A 0 c) 0 [])]) (by kernel_rfl) rfl rfl (phi_cons mono_th (phi_cons mono_bs (phi_cons (mono_cp (f := fun A c => .tuple #[.slice A 0 c, .int .i64 0, .int .i64 0, .int .i64 7])) (phi_cons (mono_cp (f := fun A c => .tuple #[.slice A 0 c, .int .i64 0, .int .i64 0, .int .i64 7])) (phi_cons (mono_cp (f := fun A c => .slice A 0 c)) (phi_cons (mono_cp (f := fun A c => .slice A 0 c)) (phi_nil))))))) (fun i_ hi_ => ?_) ?_
   ·match i_, hi_ with
    | 0, _ =>
     intro val w1 a hb ha hd;have ha := ha.sub (Sub.nil _);refine hs_call ha rfl rfl (cA0 cF47) (three_any _) rfl ?_
     rintro e w' ⟨⟨vl, va, vp, vk, ua, up, rfl, hR⟩, hb'⟩
     exact ⟨_, rfl, hb', ⟨vl, va, vp, vk, ua, up, rfl, hR⟩⟩
    | 1, _ =>
     intro val w1 a hb ha hd;have ha := ha.s0 (d := 1) rfl
     exact hs_val ha rfl rfl (x_move rfl) rfl rfl
    | 2, _ =>
     intro val w1 a hb ha hd;have e1 : val 1 = _ := hd 1 (memB_mem.1 rfl);have ha := ha.s1 (d := 81) rfl e1
     exact hs_val ha rfl rfl (slh_29 (hi := 1) rfl rfl (by decide)) rfl rfl
    | 3, _ =>
     intro val w1 a hb ha hd;have ha := ha.sub (Sub.nil _)
     exact hs_newS ha rfl rfl (bs_22_1 rfl) rfl (fun g w' hq _ hge => ⟨g, rfl, hq, Nat.le_trans hb.size hge⟩)
    | 4, _ =>
     intro val w1 a hb ha hd;obtain ⟨vl0_, va0_, vp0_, vk0_, ua0_, up0_, e0, hR0_⟩ := hd 0 (memB_mem.1 rfl);have e2 : val 2 = _ := hd 2 (memB_mem.1 rfl);obtain ⟨g3_, e3, q3_, h3_⟩ := hd 3 (memB_mem.1 rfl);change val 3 = _ at e3;have ha := ha.sub (Sub.ins (d := 83) (Sub.ins (d := 82) (Sub.ins (d := 80) (Sub.nil _) (dep_get rfl e0)) (dep_get rfl e2)) (dep_get rfl e3));refine hs_call ha rfl rfl (cA3 cF24 rfl rfl rfl) (kPlan1 hR0_ (Nat.le_refl _) (rd_pre (m := 1) ((hE.below hb).more hb.size) (by decide)) (rd_blk (k := 1) (l := [.int .i64 1]) q3_ rfl)) rfl ?_
     rintro e w' ⟨⟨u, rfl, ho⟩, hb'⟩
     obtain ⟨A, c9, rfl, _⟩ := (Rd.of_own ho).shape
     exact ⟨_, rfl, hb', ⟨A, c9, rfl, own_less ho (Nat.le_trans hbw.size hb.size)⟩⟩
    | 5, _ =>
     intro val w1 a hb ha hd;obtain ⟨A8_4, c8_4, e4, ho8_4⟩ := hd 4 (memB_mem.1 rfl);have ha := ha.s1 (d := 84) rfl e4
     exact hs_val ha rfl rfl (x_move rfl) ⟨A8_4, c8_4, rfl, ho8_4⟩ rfl
    | 6, _ =>
     intro val w1 a hb ha hd;obtain ⟨A8_5, c8_5, e5, ho8_5⟩ := hd 5 (memB_mem.1 rfl);have ha := ha.s1 (d := 79) rfl e5
     exact hs_val ha rfl rfl (x_extract rfl rfl) ⟨A8_5, c8_5, rfl, ho8_5⟩ rfl
    | 7, _ =>
     intro val w1 a hb ha hd;obtain ⟨A8_5, c8_5, e5, ho8_5⟩ := hd 5 (memB_mem.1 rfl);have ha := ha.s1 (d := 79) rfl e5
     exact hs_val ha rfl rfl (x_extract rfl rfl) rfl rfl
    | 8, _ =>
     intro val w1 a hb ha hd;obtain ⟨A8_5, c8_5, e5, ho8_5⟩ := hd 5 (memB_mem.1 rfl);have ha := ha.s1 (d := 79) rfl e5
     exact hs_val ha rfl rfl (x_extract rfl rfl) rfl rfl
    | 9, _ =>
     intro val w1 a hb ha hd;obtain ⟨A8_5, c8_5, e5, ho8_5⟩ := hd 5 (memB_mem.1 rfl);have ha := ha.s1 (d := 79) rfl e5
     exact hs_val ha rfl rfl (x_extract rfl rfl) rfl rfl
    | 10, _ =>
     intro val w1 a hb ha hd;obtain ⟨A8_6, c8_6, e6, ho8_6⟩ := hd 6 (memB_mem.1 rfl);have ha := ha.s1 (d := 85) rfl e6
     exact hs_val ha rfl rfl (x_assign rfl) ⟨A8_6, c8_6, rfl, ho8_6⟩ rfl
    | 11, _ =>
     intro val w1 a hb ha hd;have e7 : val 7 = _ := hd 7 (memB_mem.1 rfl);have ha := ha.s1 (d := 86) rfl e7
     exact hs_val ha rfl rfl (x_assign rfl) rfl rfl
    | 12, _ =>
     intro val w1 a hb ha hd;have e8 : val 8 = _ := hd 8 (memB_mem.1 rfl);have ha := ha.s1 (d := 87) rfl e8
     exact hs_val ha rfl rfl (x_assign rfl) rfl rfl
    | k + 13, h => exact absurd h (by omega)
   ·intro val wR8 hb halc hd
    obtain ⟨vl0_, va0_, vp0_, vk0_, ua0_, up0_, e0, hR0_⟩ := hd 0 (by omega)
    have e1 : val 1 = _ := hd 1 (by omega)
    have e2 : val 2 = _ := hd 2 (by omega)
    obtain ⟨ga3_8, e3, qa3_8, hga3_8⟩ := hd 3 (by omega)
    change val 3 = _ at e3;change Blk wR8 ga3_8 3 #[.int .i64 1] at qa3_8;obtain ⟨A8_4, c8_4, e4, ho8_4⟩ := hd 4 (by omega)
    obtain ⟨A8_5, c8_5, e5, ho8_5⟩ := hd 5 (by omega)
    obtain ⟨A8_6, c8_6, e6, ho8_6⟩ := hd 6 (by omega)
    have e7 : val 7 = _ := hd 7 (by omega)
    have e8 : val 8 = _ := hd 8 (by omega)
    have e9 : val 9 = _ := hd 9 (by omega)
    obtain ⟨A8_10, c8_10, e10, ho8_10⟩ := hd 10 (by omega)
    have e11 : val 11 = _ := hd 11 (by omega)
    have e12 : val 12 = _ := hd 12 (by omega)
    refine EL.ends (cs := [_, _, _, _, _, _, _, _, _, _, _, _, _]) ⟨e0, e1, e2, e3, e4, e5, e6, e7, e8, e9, e10, e11, e12, trivial⟩ rfl ?_;replace hE := (hE.below hb).more hb.size;replace hr2 := own_below hr2 hb (Nat.le_refl _);replace hrA := own_below hrA hb (Nat.le_refl _);replace hS := (hS.below hb).more hb.size;replace hr6 := own_below hr6 hb (Nat.le_refl _);replace hrF := own_below hrF hb (Nat.le_refl _);have bhbw_21 := Nat.le_trans hbw.size hga3_8;replace hbw := bo_ hbw hb;clear hb;have hr8 := ho8_10;clear ho8_4 ho8_5 ho8_6 ho8_10 hR0_;refine EL.as rfl rfl (EL.nil (EX.seq (EC.seq (EC.seq (EC.region ?_)))));have h1S : 1 < (slopE three lK).length := by rw [three_slop.1]; decide
    obtain ⟨bS, oS, eS, _, hsc⟩ := vals_cells usS 1 (by rw [hS.len]; exact h1S) wR8 wR8.heap.size _ _ _ hS.rd.rd
    have hSr := hS.rd.row 1 h1S;rw [← ints_flat] at hSr;obtain ⟨AS1, cS1, eS1, _⟩ := hSr.shape;rw [eS1] at hsc hSr;obtain ⟨bS1, oS1, eA1, _, hs1⟩ := ints_cells _ 1 (by rw [three_slop.2]; decide) wR8 wR8.heap.size _ _ _ hSr
    rw [three_slop.2] at hs1;obtain ⟨b2, o2, eR2, _, r0, r1⟩ := bds_cells _ 0 (by decide) wR8 wR8.heap.size _ _ _ (Rd.of_own hr2)
    obtain ⟨bA, oA, eAA, _, a0, a1, a2⟩ := brs_cells _ 0 (by decide) wR8 wR8.heap.size _ _ _ (Rd.of_own hrA)
    obtain ⟨b6, o6, eR6, _, p0⟩ := ints_cells [1, -1] 0 (by decide) wR8 wR8.heap.size _ _ _ (Rd.of_own hr6)
    obtain ⟨b6b, o6b, eR6b, _, p1⟩ := ints_cells [1, -1] 1 (by decide) wR8 wR8.heap.size _ _ _ (Rd.of_own hr6)
    obtain ⟨bF, oF, eRF, _, f0, f1⟩ := sts_cells _ 0 (by decide) wR8 wR8.heap.size _ _ _ (Rd.of_own hrF)
    obtain ⟨bFb, oFb, eRFb, _, f2, f3⟩ := sts_cells _ 1 (by decide) wR8 wR8.heap.size _ _ _ (Rd.of_own hrF)
    refine EL.mv rfl rfl ?_;refine EL.val (x_neq (r := false) rfl rfl (decide_eq_false (by decide))) rfl ?_
    refine EL.mv rfl rfl (EL.mg rfl rfl rfl rfl ?_);refine EL.valg rfl rfl (x_neq (r := false) rfl rfl (decide_eq_false (by decide))) rfl ?_
    refine EL.pf rfl rfl rfl (EL.mv rfl rfl (EL.mg rfl rfl rfl rfl ?_));refine EL.valg rfl rfl (x_neq (r := false) rfl rfl (decide_eq_false (by decide))) rfl ?_
    refine EL.pf rfl rfl rfl (EL.mv rfl rfl (EL.mg rfl rfl rfl rfl ?_));refine EL.valg rfl rfl (x_neq (r := false) rfl rfl (decide_eq_false (by decide))) rfl ?_
    refine EL.pf rfl rfl rfl (EL.mv rfl rfl (EL.mg rfl rfl rfl rfl ?_));refine EL.valg rfl rfl (x_neq (r := false) rfl rfl (decide_eq_false (by decide))) rfl ?_
    refine EL.pf rfl rfl rfl (EL.mv rfl rfl (EL.mg rfl rfl rfl rfl ?_));refine EL.valg rfl rfl (x_neq (r := false) rfl rfl (decide_eq_false (by decide))) rfl ?_
    refine EL.pf rfl rfl rfl (EL.mv rfl rfl (EL.mg rfl rfl rfl rfl ?_));refine EL.valg rfl rfl (x_neq (r := false) rfl rfl (decide_eq_false (by decide))) rfl ?_
    refine EL.pf rfl rfl rfl (EL.mv rfl rfl (EL.mg rfl rfl rfl rfl ?_));refine EL.valg rfl rfl (x_neq (r := false) rfl rfl (decide_eq_false (by decide))) rfl ?_
    refine EL.pf rfl rfl rfl (EL.mv rfl rfl (EL.mg rfl rfl rfl rfl (EL.valg rfl rfl (ln_60 rfl) rfl ?_)));refine EL.valg rfl rfl (x_neq (r := false) rfl rfl (decide_eq_false (by decide))) rfl ?_
    refine EL.pf rfl rfl rfl (EL.mv rfl rfl (EL.mg rfl rfl rfl rfl (EL.valg rfl rfl (ln_32 rfl) rfl ?_)));refine EL.valg rfl rfl (x_neq (r := false) rfl rfl (decide_eq_false (by decide))) rfl ?_
    refine EL.pf rfl rfl rfl (EL.mv rfl rfl (EL.mg rfl rfl rfl rfl (EL.valg rfl rfl (ln_25 rfl) rfl ?_)));refine EL.valg rfl rfl (x_neq (r := false) rfl rfl (decide_eq_false (by rw [three_slop.1]; decide))) rfl ?_
    refine EL.pf rfl rfl rfl (EL.mv rfl rfl (EL.mg rfl rfl rfl rfl ?_));refine EL.valg rfl rfl (ix_25 (k := 1) (by show some (Value.slice AS _ _) = _; rw [eS]) rfl (h1S)) rfl ?_
    refine EL.valg rfl rfl (ld_22 rfl hsc) rfl (EL.valg rfl rfl (ln_22 rfl) rfl ?_);refine EL.valg rfl rfl (x_neq (r := false) rfl rfl (decide_eq_false (by rw [three_slop.2]; decide))) rfl ?_
    refine EL.pf rfl rfl rfl (EL.mv rfl rfl (EL.mg rfl rfl rfl rfl (EL.valg rfl rfl (ln_22 rfl) rfl ?_)));refine EL.valg rfl rfl (x_neq (r := false) rfl rfl (decide_eq_false (by decide))) rfl ?_
    refine EL.pf rfl rfl rfl (EL.mv rfl rfl (EL.mg rfl rfl rfl rfl (EL.valg rfl rfl (ln_65 rfl) rfl ?_)));refine EL.valg rfl rfl (x_neq (r := false) rfl rfl (decide_eq_false (by decide))) rfl ?_
    refine EL.pf rfl rfl rfl (EL.nil (EX.seq (EC.no rfl (EC.skip (EX.seq (EC.seq (EC.region (EL.mv rfl rfl ?_))))))));refine EL.val (ix_60 (k := 0) (by show some (Value.slice A2_7 _ _) = _; rw [eR2]) rfl (by decide)) rfl ?_
    refine EL.val (ld_24 rfl r0 r1) rfl (EL.val (bd_24_0_1 rfl rfl) rfl ?_);refine EL.val (eql_24 (r := true) rfl rfl (by decide)) rfl ?_
    refine EL.mv rfl rfl (EL.mg rfl rfl rfl rfl ?_);refine EL.valg rfl rfl (ix_32 (k := 0) (by show some (Value.slice AhrA _ _) = _; rw [eAA]) rfl (by decide)) rfl ?_
    refine EL.valg rfl rfl (ld_46 rfl a0 a1 a2) rfl (EL.valg rfl rfl (bd_46_0_2 rfl rfl) rfl ?_);refine EL.valg rfl rfl (x_eqBr (r := true) rfl rfl (by decide)) rfl ?_
    refine EL.pt rfl rfl rfl (EL.mv rfl rfl (EL.mg rfl rfl rfl rfl ?_));refine EL.valg rfl rfl (ix_25 (k := 1) (by show some (Value.slice AS _ _) = _; rw [eS]) rfl (h1S)) rfl ?_
    refine EL.valg rfl rfl (ld_22 rfl hsc) rfl ?_;refine EL.valg rfl rfl (ix_22 (k := 1) (by show some (Value.slice AS1 _ _) = _; rw [eA1]) rfl (by rw [three_slop.2]; decide)) rfl ?_
    refine EL.valg rfl rfl (ld_3 rfl hs1) rfl ?_;refine EL.valg rfl rfl (x_eql (r := true) rfl rfl (decide_eq_true (by decide))) rfl ?_
    refine EL.pt rfl rfl rfl (EL.mv rfl rfl (EL.mg rfl rfl rfl rfl ?_));refine EL.valg rfl rfl (x_eql (r := true) rfl rfl (decide_eq_true (by decide))) rfl ?_
    refine EL.pt rfl rfl rfl (EL.mv rfl rfl (EL.mg rfl rfl rfl rfl ?_));refine EL.valg rfl rfl (x_eql (r := true) rfl rfl (decide_eq_true (by decide))) rfl ?_
    refine EL.pt rfl rfl rfl (EL.mv rfl rfl (EL.mg rfl rfl rfl rfl ?_));refine EL.valg rfl rfl (x_eql (r := true) rfl rfl (decide_eq_true (by decide))) rfl ?_
    refine EL.pt rfl rfl rfl (EL.mv rfl rfl (EL.mg rfl rfl rfl rfl ?_));refine EL.valg rfl rfl (ix_22 (k := 0) (by show some (Value.slice A6_10 _ _) = _; rw [eR6]) rfl (by decide)) rfl ?_
    refine EL.valg rfl rfl (ld_3 rfl p0) rfl ?_;refine EL.valg rfl rfl (x_eql (r := true) rfl rfl (decide_eq_true (by decide))) rfl ?_
    refine EL.pt rfl rfl rfl (EL.mv rfl rfl (EL.mg rfl rfl rfl rfl ?_));refine EL.valg rfl rfl (ix_22 (k := 1) (by show some (Value.slice A6_10 _ _) = _; rw [eR6b]) rfl (by decide)) rfl ?_
    refine EL.valg rfl rfl (ld_3 rfl p1) rfl ?_;refine EL.valg rfl rfl (x_eql (r := true) rfl rfl (decide_eq_true (by decide))) rfl ?_
    refine EL.pt rfl rfl rfl (EL.mv rfl rfl (EL.mg rfl rfl rfl rfl ?_));refine EL.valg rfl rfl (x_eql (r := true) rfl rfl (decide_eq_true (by decide))) rfl ?_
    refine EL.pt rfl rfl rfl (EL.mv rfl rfl (EL.mg rfl rfl rfl rfl ?_));refine EL.valg rfl rfl (ix_65 (k := 0) (by show some (Value.slice AhrF _ _) = _; rw [eRF]) rfl (by decide)) rfl ?_
    refine EL.valg rfl rfl (ld_70 rfl f0 f1) rfl (EL.valg rfl rfl (bd_70_1 rfl) rfl ?_);refine EL.valg rfl rfl (eql_70 (r := true) rfl rfl (by decide)) rfl ?_
    refine EL.pt rfl rfl rfl (EL.mv rfl rfl (EL.mg rfl rfl rfl rfl ?_));refine EL.valg rfl rfl (ix_65 (k := 1) (by show some (Value.slice AhrF _ _) = _; rw [eRFb]) rfl (by decide)) rfl ?_
    refine EL.valg rfl rfl (ld_70 rfl f2 f3) rfl (EL.valg rfl rfl (bd_70_1 rfl) rfl ?_);refine EL.valg rfl rfl (eql_70 (r := true) rfl rfl (by decide)) rfl ?_
    refine EL.pt rfl rfl rfl (EL.as rfl rfl (EL.nil (EX.seq (EC.ret ?_))))
    exact EX.done (res1 rfl rfl) ⟨rfl, hbw⟩
section
variable {n : Nat} {σ : Sg} {w : World} {dst : Option Tmp} {ty : TypeId} {pos : String} {af : Array Edge} {g : Option (Nat × Bool)} {x y z : Operand} {at' : Array TypeId}
theorem cF11 : cF 11 := fun _ _ => by simp [go_sem]
theorem cF14 : cF 14 := fun _ _ => by simp [go_sem]
theorem cF15 : cF 15 := fun _ _ => by simp [go_sem]
theorem cF12 : cF 12 := fun _ _ => by simp [go_sem]
theorem cF27 : cF 27 := fun _ _ => by simp [go_sem]
theorem cF36 : cF 36 := fun _ _ => by simp [go_sem]
end
end Go.Proofs.Ytdkedhcbdbpccaa
namespace Go.Proofs.Ytdkedhcbdbpccaa
open Go Go.ChangeShapes Go.WideShapes Go.Deep Go.RowKit Go.Joins
theorem cell_spot {w : World} {x : Addr} {u : Value} (h : w.cell? x = some u) : x.spot = none ∧ x.block < w.heap.size := by
 unfold World.cell? at h
 split at h
 ·rename_i c e f hg
  split at h
  ·cases h
  ·rename_i hs
   refine ⟨by simpa using hs, ?_⟩
   rcases Nat.lt_or_ge x.block w.heap.size with hlt | hge
   ·exact hlt
   ·rw [Array.getElem?_eq_none hge] at hg; cases hg
 ·cases h
section
variable {H : Type} {enc : TypeId × Value → H} {P : Program} {w : World} {base : Nat} {spare : Nat → Bool} {held : Bool}
/-- rows of cells, one behind the other -/
theorem rd_of_cells {b off n c s : Nat} {B : Nat} (row : Nat → List Value) (hlen : ∀ i, (row i).length = s) (hs : 0 < s) (hB : b < B) (hnc : n ≤ c)
  (hcell : ∀ i, i < n → ∀ j u, (row i)[j]? = some u → w.cell? ⟨b, off + (i * s + j), none⟩ = some u) :
  Rd w B s (.slice (some ⟨b, off, none⟩) n c) n ((List.range n).flatMap row) := by
 refine ⟨by rw [flat_len hlen, List.length_range], _, _, rfl, hnc, fun _ => ⟨b, off, rfl, hB, fun q u hu => ?_⟩⟩
 have hq : q < n * s := by
  have := (List.getElem?_eq_some_iff.1 hu).1
  rwa [flat_len hlen, List.length_range] at this
 have hk : q / s < n := by
  rw [Nat.div_lt_iff_lt_mul hs]
  exact hq
 have e : q = q / s * s + q % s := by rw [Nat.mul_comm]; exact (Nat.div_add_mod q s).symm
 have hg := flat_get hlen (List.range n) (q / s) (by simpa using hk) (q % s) (Nat.mod_lt _ hs)
 rw [← e, List.getElem_range] at hg;rw [hg] at hu;have := hcell (q / s) hk (q % s) u hu
 rwa [← e] at this
theorem add_lit_more (x : Addr) (n : Nat) (h : x.spot = none) : x.add n = ⟨x.block, x.off + n, none⟩ := by
 obtain ⟨b, o, s⟩ := x;subst h;rw [Addr.add_lit]
/-- a slice, opened to its elements -/
theorem rd_list {α : Type} [Inhabited α] {f : α → List Value} {s : Nat} {Good : α → Prop} (hf : ∀ x, (f x).length = s) (hs : 0 < s) {t e : TypeId} {fuel : Nat} {v : Value} {x : DataW H × List MemPlace} (ht : P.underlying t = some (.slice e)) (hC : P.cellsOf e = s)
  (hE : ∀ (fuel : Nat) (cs : List Value) (x : DataW H × List MemPlace), cs.length = s → DataW.trod enc P w base spare held fuel e cs = some x → ∃ y : α, cs = f y ∧ Good y) (h : DataW.trod enc P w base spare held fuel t [v] = some x) :
  ∃ l : List α, Rd w w.heap.size s v l.length (l.flatMap f) ∧ (∀ y ∈ l, Good y) ∧ l.length ≤ maxLen := by
 rcases open_slice ht h with ⟨hcs, _⟩ | ⟨a, len, cap, m, n, D, Pl, hcs, _, hl, hcap, hm, _, hi⟩
 ·injection hcs with hcs
  subst hcs
  exact ⟨[], Rd.nil_ _ _ _, by simp, Nat.zero_le _⟩
 ·injection hcs with hcs
  subst hcs;have hcell : ∀ i, i < len → ∃ y : α, (∀ j u, (f y)[j]? = some u → w.cell? (a.add (i * s + j)) = some u) ∧ Good y := by
   intro i hi';obtain ⟨cs', hc, ht'⟩ := hi i (by rw [hm]; split <;> omega)
   rw [hC] at hc;obtain ⟨_, hcl, hat⟩ := World.cells?_some hc;obtain ⟨y, hy, hg⟩ := hE _ cs' _ hcl ht';subst hy;refine ⟨y, fun j u hu => ?_, hg⟩
   have hj : j < s := by
    have := (List.getElem?_eq_some_iff.1 hu).1
    rwa [hf] at this
   have h1 := hat j hj;rw [Go.Deep.add_add] at h1;rw [h1, hu]
  let pick : Nat → α := fun i => if h : i < len then Classical.choose (hcell i h) else default
  have hpick : ∀ i, (h : i < len) → (∀ j u, (f (pick i))[j]? = some u → w.cell? (a.add (i * s + j)) = some u) ∧ Good (pick i) := fun i h => by
   have := Classical.choose_spec (hcell i h)
   simp only [pick, dif_pos h]
   exact this
  refine ⟨(List.range len).map pick, ?_, ?_, by simp; omega⟩
  ·rw [List.length_map, List.length_range]
   rcases Nat.eq_zero_or_pos len with hz | hz
   ·subst hz
    exact ⟨by simp, _, _, rfl, hl, fun h => absurd h (by omega)⟩
   ·have h0 := (hpick 0 hz).1 0 _ (List.getElem?_eq_getElem (by rw [hf]; exact hs))
    obtain ⟨hsp, hb⟩ := cell_spot h0;have e0 : a.add (0 * s + 0) = a := by simp [Addr.add]
    rw [e0] at hsp hb;have hx : a = ⟨a.block, a.off, none⟩ := by obtain ⟨b, o, s⟩ := a; subst hsp; rfl
    rw [hx, List.flatMap_map];refine rd_of_cells _ (fun i => hf _) hs hb hl fun i hi' j u hu => ?_
    have h1 := (hpick i hi').1 j u hu;rw [add_lit_more a _ hsp] at h1
    exact h1
  ·intro y hy
   obtain ⟨i, hi', rfl⟩ := List.mem_map.1 hy
   exact (hpick i (by simpa using hi')).2
theorem fld_of {fs : Array Field} {n : Nat} {cs : List Value} {ys : List (DataW H × List MemPlace)} (hf : ∀ (i : Nat) (f : Field), fs[i]? = some f → DataW.trod enc P w base spare held n f.type ((cs.drop f.offset).take (P.cellsOf f.type)) = ys[i]?)
  {j ft off z : Nat} {f : Field} (hj : fs[j]? = some f) (h1 : f.type = ft) (h2 : f.offset = off) (h3 : P.cellsOf ft = z) : DataW.trod enc P w base spare held n ft ((cs.drop off).take z) = ys[j]? := by
 subst h1 h2 h3
 exact hf j f hj
end
section
variable {H : Type} {enc : TypeId × Value → H} {w : World} {base : Nat} {spare : Nat → Bool} {held : Bool}
theorem co_3 : Try.prog.cellsOf 3 = 1 := by kernel_rfl
set_option maxRecDepth 100000 in
theorem cells_24 {fuel : Nat} {cs : List Value} {x : DataW H × List MemPlace} (hl : cs.length = 2) (h : DataW.trod enc Try.prog w base spare held fuel 24 cs = some x) : ∃ (z0 : Int) (z1 : Int), cs = [.int .i64 z0, .int .i64 z1] := by
 obtain ⟨ys, n, _, _, _, hyl, hf⟩ := DataW.trod_struct Try.underlying24 h
 match cs, hl with
 | [u0, u1], _ =>
  match ys, hyl with
  | [y0, y1], _ =>
   have q0 : DataW.trod enc Try.prog w base spare held n 3 [u0] = some y0 := fld_of hf (j := 0) rfl rfl rfl co_3;obtain ⟨z0, hz0, _, _⟩ := DataW.trod_int Try.underlying3 q0
   injection hz0 with hz0
   subst hz0;have q1 : DataW.trod enc Try.prog w base spare held n 3 [u1] = some y1 := fld_of hf (j := 1) rfl rfl rfl co_3;obtain ⟨z1, hz1, _, _⟩ := DataW.trod_int Try.underlying3 q1
   injection hz1 with hz1
   subst hz1
   exact ⟨z0, z1, rfl⟩
theorem co_24 : Try.prog.cellsOf 24 = 2 := by kernel_rfl
set_option maxRecDepth 100000 in
theorem cells_52 {fuel : Nat} {cs : List Value} {x : DataW H × List MemPlace} (hl : cs.length = 5) (h : DataW.trod enc Try.prog w base spare held fuel 52 cs = some x) : ∃ (z0 : Int) (z1 : Int) (z2 : Int) (z3 : Int) (z4 : Int), cs = [.int .i64 z0, .int .i64 z1, .int .i64 z2, .int .i64 z3, .int .i64 z4] := by
 obtain ⟨ys, n, _, _, _, hyl, hf⟩ := DataW.trod_struct Try.underlying52 h
 match cs, hl with
 | [u0, u1, u2, u3, u4], _ =>
  match ys, hyl with
  | [y0, y1, y2, y3], _ =>
   have q0 : DataW.trod enc Try.prog w base spare held n 24 [u0, u1] = some y0 := fld_of hf (j := 0) rfl rfl rfl co_24;obtain ⟨a0, a1, e0⟩ := cells_24 rfl q0
   simp only [List.cons.injEq, and_true] at e0
   obtain ⟨rfl, rfl⟩ := e0;have q1 : DataW.trod enc Try.prog w base spare held n 3 [u2] = some y1 := fld_of hf (j := 1) rfl rfl rfl co_3;obtain ⟨z2, hz2, _, _⟩ := DataW.trod_int Try.underlying3 q1
   injection hz2 with hz2
   subst hz2;have q2 : DataW.trod enc Try.prog w base spare held n 3 [u3] = some y2 := fld_of hf (j := 2) rfl rfl rfl co_3;obtain ⟨z3, hz3, _, _⟩ := DataW.trod_int Try.underlying3 q2
   injection hz3 with hz3
   subst hz3;have q3 : DataW.trod enc Try.prog w base spare held n 3 [u4] = some y3 := fld_of hf (j := 3) rfl rfl rfl co_3;obtain ⟨z4, hz4, _, _⟩ := DataW.trod_int Try.underlying3 q3
   injection hz4 with hz4
   subst hz4
   exact ⟨a0, a1, z2, z3, z4, rfl⟩
theorem co_52 : Try.prog.cellsOf 52 = 5 := by kernel_rfl
theorem co_48 : Try.prog.cellsOf 48 = 1 := by kernel_rfl
set_option maxRecDepth 100000 in
theorem cells_50 {fuel : Nat} {cs : List Value} {x : DataW H × List MemPlace} (hl : cs.length = 2) (h : DataW.trod enc Try.prog w base spare held fuel 50 cs = some x) : ∃ (z0 : Int) (z1 : Int), cs = [.int .i64 z0, .int .i64 z1] := by
 obtain ⟨ys, n, _, _, _, hyl, hf⟩ := DataW.trod_struct Try.underlying50 h
 match cs, hl with
 | [u0, u1], _ =>
  match ys, hyl with
  | [y0, y1], _ =>
   have q0 : DataW.trod enc Try.prog w base spare held n 48 [u0] = some y0 := fld_of hf (j := 0) rfl rfl rfl co_48;obtain ⟨z0, hz0, _, _⟩ := DataW.trod_int Try.underlying48 q0
   injection hz0 with hz0
   subst hz0;have q1 : DataW.trod enc Try.prog w base spare held n 3 [u1] = some y1 := fld_of hf (j := 1) rfl rfl rfl co_3;obtain ⟨z1, hz1, _, _⟩ := DataW.trod_int Try.underlying3 q1
   injection hz1 with hz1
   subst hz1
   exact ⟨z0, z1, rfl⟩
theorem co_50 : Try.prog.cellsOf 50 = 2 := by kernel_rfl
theorem co_22 : Try.prog.cellsOf 22 = 1 := by kernel_rfl
theorem co_25 : Try.prog.cellsOf 25 = 1 := by kernel_rfl
theorem co_26 : Try.prog.cellsOf 26 = 1 := by kernel_rfl
set_option maxRecDepth 100000 in
theorem cells_28 {fuel : Nat} {cs : List Value} {x : DataW H × List MemPlace} (hl : cs.length = 6) (h : DataW.trod enc Try.prog w base spare held fuel 28 cs = some x) : ∃ (v0 : Value) (z1 : Int) (z2 : Int) (v3 : Value) (v4 : Value) (v5 : Value), cs = [v0, .int .i64 z1, .int .i64 z2, v3, v4, v5] ∧ (∃ n x, DataW.trod enc Try.prog w base spare held n 22 [v0] = some x) ∧ (∃ n x, DataW.trod enc Try.prog w base spare held n 25 [v3] = some x) ∧ (∃ n x, DataW.trod enc Try.prog w base spare held n 25 [v4] = some x) ∧ (∃ n x, DataW.trod enc Try.prog w base spare held n 26 [v5] = some x) := by
 obtain ⟨ys, n, _, _, _, hyl, hf⟩ := DataW.trod_struct Try.underlying28 h
 match cs, hl with
 | [u0, u1, u2, u3, u4, u5], _ =>
  match ys, hyl with
  | [y0, y1, y2, y3, y4], _ =>
   have q0 : DataW.trod enc Try.prog w base spare held n 22 [u0] = some y0 := fld_of hf (j := 0) rfl rfl rfl co_22;have q1 : DataW.trod enc Try.prog w base spare held n 24 [u1, u2] = some y1 := fld_of hf (j := 1) rfl rfl rfl co_24;obtain ⟨a1, a2, e1⟩ := cells_24 rfl q1
   simp only [List.cons.injEq, and_true] at e1
   obtain ⟨rfl, rfl⟩ := e1;have q2 : DataW.trod enc Try.prog w base spare held n 25 [u3] = some y2 := fld_of hf (j := 2) rfl rfl rfl co_25;have q3 : DataW.trod enc Try.prog w base spare held n 25 [u4] = some y3 := fld_of hf (j := 3) rfl rfl rfl co_25;have q4 : DataW.trod enc Try.prog w base spare held n 26 [u5] = some y4 := fld_of hf (j := 4) rfl rfl rfl co_26
   exact ⟨u0, a1, a2, u3, u4, u5, rfl, ⟨_, _, q0⟩, ⟨_, _, q2⟩, ⟨_, _, q3⟩, ⟨_, _, q4⟩⟩
theorem co_28 : Try.prog.cellsOf 28 = 6 := by kernel_rfl
theorem co_29 : Try.prog.cellsOf 29 = 1 := by kernel_rfl
theorem cells_len_28 {fuel : Nat} {v : Value} {x : DataW H × List MemPlace} (h : DataW.trod enc Try.prog w base spare held fuel 28 v.cells.toList = some x) : v.cells.toList.length = 6 := by
 obtain ⟨_, _, _, _, hlen, _, _⟩ := DataW.trod_struct Try.underlying28 h;rw [hlen]
 exact co_28
instance : Inhabited Kd := ⟨kd0⟩
instance : Inhabited Ev := ⟨ev0⟩
instance : Inhabited (List Int × Value) := ⟨([], .slice none 0 0)⟩
theorem rd_ints {fuel : Nat} {v : Value} {x : DataW H × List MemPlace} (h : DataW.trod enc Try.prog w base spare held fuel 22 [v] = some x) : ∃ l : List Int, Rd w w.heap.size 1 v l.length (ints l) ∧ l.length ≤ maxLen := by
 obtain ⟨l, h1, _, h2⟩ := rd_list (s := 1) (f := iC) (Good := fun _ => True) (fun _ => rfl) (by omega) Try.underlying22 co_3 (fun _ cs _ hl ht => by
  match cs, hl with
  | [u], _ =>
   obtain ⟨z, hz, _, _⟩ := DataW.trod_int Try.underlying3 ht
   injection hz with hz
   subst hz
   exact ⟨z, rfl, trivial⟩) h
 exact ⟨l, by rw [ints_flat]; exact h1, h2⟩
theorem rd_kds {fuel : Nat} {v : Value} {x : DataW H × List MemPlace} (h : DataW.trod enc Try.prog w base spare held fuel 26 [v] = some x) : ∃ l : List Kd, Rd w w.heap.size 5 v l.length (kdsC l) ∧ l.length ≤ maxLen := by
 obtain ⟨l, h1, _, h2⟩ := rd_list (f := kdC) (Good := fun _ => True) kdC_len (by omega) Try.underlying26 co_52 (fun _ cs _ hl ht => by
  obtain ⟨a, b, c, d, e, rfl⟩ := cells_52 hl ht
  exact ⟨⟨⟨a, b⟩, c, d, e⟩, rfl, trivial⟩) h
 exact ⟨l, h1, h2⟩
theorem rd_evs {fuel : Nat} {v : Value} {x : DataW H × List MemPlace} (h : DataW.trod enc Try.prog w base spare held fuel 29 [v] = some x) : ∃ l : List Ev, Rd w w.heap.size 2 v l.length (evsC l) ∧ l.length ≤ maxLen := by
 obtain ⟨l, h1, _, h2⟩ := rd_list (f := evC) (Good := fun _ => True) evC_len (by omega) Try.underlying29 co_50 (fun _ cs _ hl ht => by
  obtain ⟨a, b, rfl⟩ := cells_50 hl ht
  exact ⟨⟨a, b⟩, rfl, trivial⟩) h
 exact ⟨l, h1, h2⟩
theorem flat_snd {α β : Type} : ∀ l : List (α × β), l.flatMap (fun p => [p.2]) = l.map Prod.snd
 | [] => rfl
 | (a, b) :: l => by simp [flat_snd l]
theorem rd_rows {fuel : Nat} {v : Value} {x : DataW H × List MemPlace} (h : DataW.trod enc Try.prog w base spare held fuel 25 [v] = some x) : ∃ (l : List (List Int)) (vs : List Value), RdLL iC 1 w w.heap.size v l vs ∧ l.length ≤ maxLen := by
 obtain ⟨l, h1, h3, h2⟩ := rd_list (α := List Int × Value) (s := 1) (f := fun p => [p.2]) (Good := fun p => Rd w w.heap.size 1 p.2 p.1.length (ints p.1) ∧ p.1.length ≤ maxLen) (fun _ => rfl) (by omega) Try.underlying25 co_22 (fun _ cs _ hl ht => by
  match cs, hl with
  | [u], _ =>
   obtain ⟨l, h1, h2⟩ := rd_ints ht
   exact ⟨(l, u), rfl, h1, h2⟩) h
 rw [flat_snd] at h1;refine ⟨l.map Prod.fst, l.map Prod.snd, ⟨by simp, by simpa using h1, fun i hi => ?_⟩, by simpa using h2⟩
 have hi' : i < l.length := by simpa using hi
 have e1 : (l.map Prod.fst).getD i [] = l[i].1 := by simp [hi']
 have e2 : (l.map Prod.snd).getD i undef = l[i].2 := by simp [hi']
 rw [e1, e2, ← ints_flat]
 exact (h3 _ (List.getElem_mem hi')).1
theorem rules_of {v : Value} {d : DataW H} {p : List MemPlace} (h : DataW.Trod enc Try.prog w base spare held 28 v d p) : ∃ (ru : Rules) (ua up : List Value) (vl va vp vk : Value), v = rulesV vl va vp vk ru ∧ RdRules w w.heap.size vl va vp vk ru ua up := by
 obtain ⟨fuel, hf⟩ := h;obtain ⟨a, lo, hi, b, c, k, he, ⟨_, _, ha⟩, ⟨_, _, hb⟩, ⟨_, _, hc⟩, ⟨_, _, hk⟩⟩ := cells_28 (cells_len_28 hf) hf;obtain ⟨l, h1, _⟩ := rd_ints ha;obtain ⟨m, us, h3, _⟩ := rd_rows hb;obtain ⟨s, ut, h5, _⟩ := rd_rows hc;obtain ⟨q, h7, _⟩ := rd_kds hk;refine ⟨⟨l, ⟨lo, hi⟩, m, s, q⟩, us, ut, a, b, c, k, ?_, ⟨h1, h3, h5, h7⟩⟩
 unfold rulesV
 cases v with
  | agg cs =>
   have : cs = #[a, .int .i64 lo, .int .i64 hi, b, c, k] := by
    apply Array.ext'
    simpa [Value.cells] using he
   rw [this]
  | _ => simp [Value.cells] at he
end
end Go.Proofs.Ytdkedhcbdbpccaa
namespace Go.Proofs.Ytdkedhcbdbpccaa
open Go Go.RowKit
theorem afterR_ok {ru : Rules} (hro : RulesOk ru) {l : List Ev} (hv : l.all (evB ru) = true) : RtOk ru.levels.length l.length (afterR ru l) := by
 have key : ∀ i, i ≤ l.length → RtOk ru.levels.length i (afterR ru (l.take i)) := fun i => by
  induction i with
  | zero => intro _; exact clean_ok
  | succ i ih =>
   intro hi;rw [afterR_succ (show i < l.length by omega)]
   exact step_ok hro (ih (by omega)) (by rw [getD_in (show i < l.length by omega)]; exact List.all_eq_true.1 hv _ (List.getElem_mem _))
 have := key l.length (Nat.le_refl _)
 rwa [List.take_length] at this
theorem flatMap_same {α β : Type} {f g : α → List β} : ∀ {l : List α}, (∀ x ∈ l, f x = g x) → l.flatMap f = l.flatMap g
 | [], _ => rfl
 | x :: l, h => by rw [List.flatMap_cons, List.flatMap_cons, h x (List.mem_cons_self ..), flatMap_same fun y hy => h y (List.mem_cons_of_mem _ hy)]
def rt0 : RT := ⟨[], []⟩
def wayR (ru : Rules) (u : RT) (k : Int) : RT := if k < 0 then u else stepR ru u ⟨2, k⟩
def loadR (ru : Rules) (u : RT) (c : Nat) : RT := stepR ru u ⟨1, (c : Nat)⟩
def goR (ru : Rules) (c : Nat) (us : List RT) (i : Nat) (k : Int) : Option (List RT) :=
 if (mayR ru (wayR ru (us.getD i rt0) k) c ru.levels.length).1 = true then some (us.set i (loadR ru (wayR ru (us.getD i rt0) k) c)) else none
def yardR (ru : Rules) (many : Nat) : Yard (List RT) := ⟨many, ru.kinds.length, kcost ru, goR ru⟩
structure SimF (ru : Rules) (many : Nat) (s : List (List Tr)) (us : List RT) : Prop where
 n3 : many ≤ s.length
 nu : us.length = many
 at_ : ∀ i, i < many → Sim ru.levels.length (s.getD i []) (us.getD i rt0)
theorem kinds_in {K : Nat} {k : Int} (h : k ∈ kindsL K) : k = -1 ∨ ∃ j : Nat, j < K ∧ k = ((j : Nat) : Int) := by
 unfold kindsL at h
 rcases List.mem_cons.1 h with h | h
 ·exact .inl h
 ·obtain ⟨j, hj, rfl⟩ := List.mem_map.1 h
  exact .inr ⟨j, List.mem_range.1 hj, rfl⟩
theorem ev_wash {ru : Rules} {j : Nat} (hj : j < ru.kinds.length) : evB ru ⟨2, ((j : Nat) : Int)⟩ = true := by
 unfold evB
 have : inB 0 ((ru.kinds.length : Nat) - 1 : Int) ((j : Nat) : Int) = true := inB_iff.2 ⟨by omega, by omega⟩
 simp [this]
theorem ev_load {ru : Rules} {c : Nat} (hc : c < ru.levels.length) : evB ru ⟨1, ((c : Nat) : Int)⟩ = true := by
 unfold evB
 have : inB 0 ((ru.levels.length : Nat) - 1 : Int) ((c : Nat) : Int) = true := inB_iff.2 ⟨by omega, by omega⟩
 simp [this]
theorem way_sim {ru : Rules} (hro : RulesOk ru) {t : List Tr} {u : RT} {k : Int} (hk : k ∈ kindsL ru.kinds.length) (h : Sim ru.levels.length t u) : Sim ru.levels.length (wayT ru t k) (wayR ru u k) := by
 unfold wayT wayR
 rcases kinds_in hk with rfl | ⟨j, hj, rfl⟩
 ·rw [if_pos (by omega), if_pos (by omega)]
  exact h
 ·rw [if_neg (by omega), if_neg (by omega)]
  have h2 := sim_step (x := ⟨2, ((j : Nat) : Int)⟩) hro (ev_wash hj) h
  unfold stepT at h2
  rwa [if_pos rfl] at h2
theorem load_sim {ru : Rules} (hro : RulesOk ru) {t : List Tr} {u : RT} {c : Nat} (hc : c < ru.levels.length) (h : Sim ru.levels.length t u) : Sim ru.levels.length (loadT ru t c) (loadR ru u c) := by
 have h2 := sim_step (x := ⟨1, ((c : Nat) : Int)⟩) hro (ev_load hc) h
 unfold stepT at h2
 rwa [if_neg (show ¬((1 : Int) = 2) by decide), Int.toNat_natCast] at h2
theorem compl_sim {ru : Rules} (hro : RulesOk ru) {many : Nat} : ∀ (js : List Nat), (∀ c ∈ js, c < ru.levels.length) → ∀ (s : List (List Tr)) (us : List RT) (p : Pl), SimF ru many s us →
  (compl (extY (yardOf ru many)) js (s, p)).map Prod.snd = (compl (extY (yardR ru many)) js (us, p)).map Prod.snd
 | [], _, _, _, _, _ => rfl
 | c :: rem, hjs, s, us, p, h => by
  have hc := hjs c (List.mem_cons_self ..);have key : ∀ i k, i < many → k ∈ kindsL ru.kinds.length → ((ext1 (yardOf ru many) c (s, p) i k).flatMap (compl (extY (yardOf ru many)) rem)).map Prod.snd = ((ext1 (yardR ru many) c (us, p) i k).flatMap (compl (extY (yardR ru many)) rem)).map Prod.snd := fun i k hi hk => by
   have hw := way_sim hro hk (h.at_ i hi);have hm := mayR_sim hro hw (c := c) ru.levels.length (Nat.le_refl _);have e1 : (yardOf ru many).go c s i k = if (mayT ru (wayT ru (s.getD i []) k) c ru.levels.length).1 = true then some (s.set i (loadT ru (wayT ru (s.getD i []) k) c)) else none := rfl
   have e2 : (yardR ru many).go c us i k = if (mayT ru (wayT ru (s.getD i []) k) c ru.levels.length).1 = true then some (us.set i (loadR ru (wayR ru (us.getD i rt0) k) c)) else none := by
    show goR ru c us i k = _
    unfold goR
    rw [hm]
   unfold ext1
   dsimp only
   rw [e1, e2]
   by_cases hmay : (mayT ru (wayT ru (s.getD i []) k) c ru.levels.length).1 = true
   ·rw [if_pos hmay, if_pos hmay]
    simp only [List.flatMap_cons, List.flatMap_nil, List.append_nil]
    have hn3 := h.n3;have hnu := h.nu;refine compl_sim hro rem (fun d hd => hjs d (List.mem_cons_of_mem _ hd)) _ _ _ ⟨by rw [List.length_set]; exact hn3, by rw [List.length_set]; exact hnu, fun j hj => ?_⟩
    rw [getD_setR (by omega), getD_setR (by omega)]
    by_cases hij : i = j
    ·rw [if_pos hij, if_pos hij]; exact load_sim hro hc hw
    ·rw [if_neg hij, if_neg hij]; exact h.at_ j hj
   ·rw [if_neg hmay, if_neg hmay]
    rfl
  show (((List.range many).flatMap fun i => (kindsL ru.kinds.length).flatMap (ext1 (yardOf ru many) c (s, p) i)).flatMap (compl (extY (yardOf ru many)) rem)).map Prod.snd = (((List.range many).flatMap fun i => (kindsL ru.kinds.length).flatMap (ext1 (yardR ru many) c (us, p) i)).flatMap (compl (extY (yardR ru many)) rem)).map Prod.snd
  simp only [List.flatMap_assoc, List.map_flatMap]
  refine flatMap_same fun i hi => flatMap_same fun k hk => ?_
  have h2 := key i k (List.mem_range.1 hi) hk
  simpa only [List.map_flatMap] using h2
theorem depth_same {σ τ : Type} {A : Nat → σ × Pl → List (σ × Pl)} {C : Nat → τ × Pl → List (τ × Pl)} {js : List Nat} {x : σ × Pl} {y : τ × Pl} (h : ∀ k, k ≤ js.length → (compl A (js.take k) x = [] ↔ compl C (js.take k) y = [])) : depthR A js x = depthR C js y := by
 have a := depth_len (ext := A) js x;have b := depth_len (ext := C) js y;refine Nat.le_antisymm ?_ ?_
 ·exact (depth_iff js y _ a).2 fun e => (depth_iff js x _ a).1 (Nat.le_refl _) ((h _ a).2 e)
 ·exact (depth_iff js x _ b).2 fun e => (depth_iff js y _ b).1 (Nat.le_refl _) ((h _ b).1 e)
/-- the best that the reference finds -/
def bestR (ru : Rules) (js : List Nat) (us : List RT) : Option Pl × Nat := tryR (extY (yardR ru us.length)) js (us, pl0) (none, 0)
theorem yardR_ok {ru : Rules} (hro : RulesOk ru) (many : Nat) : ExtOk (extY (yardR ru many)) := extY_ok _ fun k => (kcost_bd hro k).1
section
variable {ru : Rules} {js : List Nat} {s : List (List Tr)} {us : List RT}
theorem best_some (hro : RulesOk ru) (hjs : ∀ c ∈ js, c < ru.levels.length) (hs : SimF ru us.length s us) {p : Pl} (h : IsBest (compl (extY (yardOf ru us.length)) js (s, pl0)) p) : (bestR ru js us).1 = some p := by
 have hB := try_best (yardR_ok hro us.length) js (us, pl0) [] (none, 0) rfl fun q hq => absurd hq List.not_mem_nil
 rw [List.nil_append, ← compl_sim hro js hjs s us pl0 hs] at hB;obtain ⟨⟨t, ht⟩, h2⟩ := h;have hp : p ∈ (compl (extY (yardOf ru us.length)) js (s, pl0)).map Prod.snd := List.mem_map.2 ⟨_, ht, rfl⟩
 unfold bestR
 cases e : (tryR (extY (yardR ru us.length)) js (us, pl0) (none, 0)).1 with
 | none =>
  rw [e] at hB;have hB : _ = [] := hB;rw [hB] at hp
  exact absurd hp List.not_mem_nil
 | some q =>
  rw [e] at hB;obtain ⟨h3, h4⟩ := hB;obtain ⟨x, hx, rfl⟩ := List.mem_map.1 h3;have a := h4 p hp;have b := h2 x hx;have c := cmp_pl.anti p x.2;rw [cmp_pl.eq p x.2 (by omega)]
theorem best_none (hro : RulesOk ru) (hjs : ∀ c ∈ js, c < ru.levels.length) (hs : SimF ru us.length s us) (h : depthR (extY (yardOf ru us.length)) js (s, pl0) < js.length) : bestR ru js us = (none, depthR (extY (yardOf ru us.length)) js (s, pl0)) := by
 have hd : depthR (extY (yardOf ru us.length)) js (s, pl0) = depthR (extY (yardR ru us.length)) js (us, pl0) := depth_same fun k hk => by
  have := compl_sim hro (js.take k) (fun c hc => hjs c (List.mem_of_mem_take hc)) s us pl0 hs
  rw [← List.map_eq_nil_iff (f := Prod.snd), this, List.map_eq_nil_iff]
 have hn : compl (extY (yardR ru us.length)) js (us, pl0) = [] := by
  apply Classical.byContradiction
  intro hne;have := (depth_iff (ext := extY (yardR ru us.length)) js (us, pl0) js.length (Nat.le_refl _)).2 (by rwa [List.take_length])
  omega
 unfold bestR
 rw [try_none (yardR_ok hro us.length) js (us, pl0) 0 hn, hd]
 show (none, max 0 (0 + _)) = _
 rw [Nat.zero_add, Nat.max_eq_right (Nat.zero_le _)]
end
/-! ### In memory -/
/-- a tank of the document, and where its lists lie -/
abbrev Tk := RT × (Option Addr × Nat) × (Option Addr × Nat)
def rkC (N : Nat) (x : Tk) : List Value := [.slice x.2.1.1 N x.2.1.2, .slice x.2.2.1 N x.2.2.2]
def rksC (N : Nat) (l : List Tk) : List Value := l.flatMap (rkC N)
theorem rkC_len {N : Nat} (x : Tk) : (rkC N x).length = 2 := rfl
theorem rksC_len {N : Nat} (l : List Tk) : (rksC N l).length = l.length * 2 := flat_len rkC_len l
theorem rksC_one {N : Nat} (l : List Tk) : ∀ u ∈ rksC N l, u.oneCell' = true := flat_one (by intro x u hu; simp [rkC] at hu; rcases hu with rfl | rfl <;> rfl) l
theorem rk_info : (Try.prog.info? 62).map (fun i => (i.zero, i.size, i.bytes)) = some (some (.agg #[.slice none 0 0, .slice none 0 0]), 2, 48) := by kernel_rfl
theorem rk_elem : Elem Try.prog 64 62 2 48 := Elem.mk' Try.underlying64 rk_info rfl (by omega)
def tk00 : Tk := (rt0, (none, 0), (none, 0))
theorem rks_cells {N : Nat} (l : List Tk) (k : Nat) (hk : k < l.length) (w : World) (B : Nat) (A : Option Addr) (n c : Nat) (hr : Rd w B 2 (.slice A n c) n (rksC N l)) :
  ∃ b off, A = some ⟨b, off, none⟩ ∧ b < B ∧ w.cell? ⟨b, off + k * 2, none⟩ = some (.slice (l.getD k tk00).2.1.1 N (l.getD k tk00).2.1.2) ∧ w.cell? ⟨b, off + k * 2 + 1, none⟩ = some (.slice (l.getD k tk00).2.2.1 N (l.getD k tk00).2.2.2) := by
 have hl : n * 2 = l.length * 2 := by rw [← hr.len, rksC_len]
 obtain ⟨b, off, rfl, hb, hc⟩ := hr.at_ (by omega)
 have e : l.getD k tk00 = l[k] := by simp [hk]
 rw [e];have g := fun j hj => flat_get (rkC_len (N := N)) l k hk j hj
 exact ⟨b, off, rfl, hb, hc (k * 2) _ (g 0 (by omega)), hc (k * 2 + 1) _ (g 1 (by omega))⟩
/-- a row of tanks of one's own -/
structure OwnTs (w : World) (N : Nat) (v : Value) (l : List Tk) : Prop where
 own : w.ownsRow 0 62 2 v l.length (rksC N l)
 res : ∀ x ∈ l, w.ownsRow 0 24 2 (.slice x.2.1.1 N x.2.1.2) N (bdsC x.1.res)
 aft : ∀ x ∈ l, w.ownsRow 0 3 1 (.slice x.2.2.1 N x.2.2.2) N (ints x.1.aft)
section
variable {w w' : World} {N : Nat} {v : Value} {l : List Tk}
theorem OwnTs.below (h : OwnTs w N v l) (hb : Below w.heap.size w w') : OwnTs w' N v l := ⟨own_below h.own hb (Nat.le_refl _), fun x hx => own_below (h.res x hx) hb (Nat.le_refl _), fun x hx => own_below (h.aft x hx) hb (Nat.le_refl _)⟩
theorem OwnTs.type {g T : Nat} {cs : Array Value} (h : OwnTs w N v l) (hq : Blk w g T cs) (h1 : Nat.beq T 62 = false) (h2 : Nat.beq T 24 = false) (h3 : Nat.beq T 3 = false) (hg : w.grownBy w' (some g)) : OwnTs w' N v l :=
 ⟨own_type h.own hq h1 hg, fun x hx => own_type (h.res x hx) hq h2 hg, fun x hx => own_type (h.aft x hx) hq h3 hg⟩
theorem OwnTs.getR (h : OwnTs w N v l) {k : Nat} (hk : k < l.length) : w.ownsRow 0 24 2 (.slice (l.getD k tk00).2.1.1 N (l.getD k tk00).2.1.2) N (bdsC (l.getD k tk00).1.res) := by
 rw [getD_in hk]; exact h.res _ (List.getElem_mem _)
theorem OwnTs.getA (h : OwnTs w N v l) {k : Nat} (hk : k < l.length) : w.ownsRow 0 3 1 (.slice (l.getD k tk00).2.2.1 N (l.getD k tk00).2.2.2) N (ints (l.getD k tk00).1.aft) := by
 rw [getD_in hk]; exact h.aft _ (List.getElem_mem _)
end
theorem rks_set {N : Nat} {l : List Tk} {k : Nat} (hk : k < l.length) (y : Tk) : spl (rksC N l) (k * 2) (rkC N y) = rksC N (l.set k y) := spl_flat rkC_len l k hk y
def bp (b : Option Pl × Nat) : Pl := b.1.getD pl0
/-- the best list that was found, in its box -/
def bestC (b : Option Pl × Nat) (A : Option Addr) (c : Nat) : Array Value := #[.bool b.1.isSome, .slice A (bp b).steps.length c, .int .i64 (bp b).washes, .int .i64 (bp b).cost, .int .i64 (b.2 : Nat)]
def stsAt (w : World) (l : List St) (A : Option Addr) (c : Nat) : Prop := w.ownsRow 0 70 2 (.slice A l.length c) l.length (stsC l)
def BestM (w : World) (g : Nat) (b : Option Pl × Nat) : Prop := ∃ A c, Blk w g 67 (bestC b A c) ∧ stsAt w (bp b).steps A c
theorem gw_below {w W W' : World} {g : Nat} (h : w.grownBy W (some g)) (hb : Below W.heap.size W W') : w.grownBy W' (some g) := grown_below h hb
theorem gw_store {w W W' : World} {g k : Nat} (h : w.grownBy W (some g)) (hg : W.grownBy W' (some k)) (hk : w.heap.size ≤ k) : w.grownBy W' (some g) := World.grownBy.andThen h hg fun j e => by
 injection e with e
 exact .inl (e ▸ hk)
theorem gw_B {w W : World} {g B : Nat} (h : w.grownBy W (some g)) (hg : B ≤ g) (hB : B ≤ w.heap.size) : Below B w W := ⟨h.os, h.tape, h.output, h.size, fun k hk => h.block k (by omega) fun e => by injection e with e; omega⟩
theorem gw_row {w W W' : World} {g : Nat} {row : Option Nat} (h : w.grownBy W (some g)) (hg : W.grownBy W' row) (hk : ∀ b, row = some b → w.heap.size ≤ b) : w.grownBy W' (some g) := World.grownBy.andThen h hg fun j e => .inl (hk j e)
theorem not_all {p : Int → Bool} {l : List Int} {i : Nat} (hi : i < l.length) (h : p (l.getD i 0) = false) : ¬l.all p = true := fun e => by
 have := List.all_eq_true.1 e l[i] (List.getElem_mem hi);rw [getD_in hi, this] at h
 cases h
theorem all_of {p : Int → Bool} {l : List Int} (h : ∀ i, i < l.length → p (l.getD i 0) = true) : l.all p = true := List.all_eq_true.2 fun x hx => by
 obtain ⟨i, hi, rfl⟩ := List.getElem_of_mem hx;rw [← getD_in (d := 0) hi]
 exact h i hi
theorem rJobs_any {ru : Rules} {ua up : List Value} {vl va vp vk : Value} {w : World} {B : Nat} (hr : RdRules w B vl va vp vk ru ua up) (hB : B ≤ w.heap.size) (hro : RulesOk ru) {jobs : List Int} {vj : Value} {C : Nat} (hv : Rd w C 1 vj jobs.length (ints jobs)) (hC : C ≤ w.heap.size) (hjl : jobs.length ≤ 1000) {most : Nat} (hmo : most ≤ 100) :
  Calls Try.prog 26 #[rulesV vl va vp vk ru, vj, .int .i64 (most : Nat)] w fun e w' => e = .returned (.int .i64 (jobsE ru jobs most)) ∧ Below w.heap.size w w' := by
 obtain ⟨Al, cl, Aa, ca, Ap, cp, Ak, ck, rfl, rfl, rfl, rfl⟩ := hr.sh4;obtain ⟨Aj, cj, rfl, _⟩ := hv.shape;have hn8 := hro.n8;have hbw := Below.refl w.heap.size w
 unfold rulesV
 refine EC.enter 28 Try.func26 rfl rfl rfl (EC.seq (EC.region (EL.newP (bx_28 rfl) rfl ?_)));intro g1 w1 q1 hb1 hg1 hl1;have bhbw_1 := Nat.le_trans hbw.size hg1;replace hbw := bo_ hbw hb1;clear hb1 hg1 hl1;refine EL.as rfl rfl (EL.nil (EX.seq (EC.seq (EC.seq (EC.region (EL.mv rfl rfl (EL.val (ln_22 rfl) rfl (EL.mv rfl rfl ?_))))))))
 by_cases hml : most < jobs.length
 ·
  refine EL.val (x_gtr (r := true) rfl rfl (decide_eq_true (by omega))) rfl ?_
  refine EL.nil (EX.seq (EC.yes rfl (EC.seq (EC.region (EL.as rfl rfl (EL.nil (EX.seq (EC.ret (EX.seq_ret ?_)))))))))
  exact EX.done (res1 rfl rfl) ⟨by rw [jobsE, if_pos hml], hbw⟩
 ·
  refine EL.val (x_gtr (r := false) rfl rfl (decide_eq_false (by omega))) rfl ?_
  refine EL.nil (EX.seq (EC.no rfl (EC.skip (EX.seq (EC.seq (EC.seq (EC.region (EL.as rfl rfl (EL.nil ?_)))))))));refine EX.seq (EC.block ?_);refine EC.loopD [6, 7, 12, 13, 14, 15, 16, 17, 18, 19, 20, 21, 22, 23, 24, 25, 26, 27] (fun x : Nat => [(7, .int .i64 (x : Nat))]) (fun x W => x ≤ jobs.length ∧ (∀ i, i < x → inB 0 ((ru.levels.length : Nat) - 1 : Int) (jobs.getD i 0) = true) ∧ Blk W g1 28 #[.slice Al ru.levels.length cl, .int .i64 ru.fade.lo, .int .i64 ru.fade.hi, .slice Aa ru.allow.length ca, .slice Ap ru.apart.length cp, .slice Ak ru.kinds.length ck] ∧ Below w.heap.size w W) (fun x => jobs.length - x) 0 ⟨Nat.zero_le _, fun i hi => absurd hi (by omega), q1, hbw⟩ ⟨rfl, trivial⟩ ?_
  clear q1 hbw
  rintro i wx ⟨hi, hall, q1, hbw⟩
  by_cases hlt : i < jobs.length
  ·
   obtain ⟨bj, oj, ej, _, hjc⟩ := ints_cells jobs i hlt wx C _ _ _ (hv.below (hbw.mono hC))
   cases ej
   refine EC.seq (EC.seq (EC.region (EL.mv rfl rfl (EL.mv rfl rfl (EL.val (ln_22 rfl) rfl ?_)))));refine EL.val (x_lss rfl rfl (decide_eq_true (show (((i : Nat) : Int) < ((jobs.length : Nat) : Int)) by omega))) rfl ?_
   refine EL.nil (EX.seq (EC.yes rfl (EC.skip (EX.seq (EC.seq (EC.block (EC.seq ?_)))))))
   cases hin : inB 0 ((ru.levels.length : Nat) - 1 : Int) (jobs.getD i 0)
   ·
    refine EC.regionQ (by kernel_rfl) (by kernel_rfl) ?_
    refine EQ.mv rfl rfl (EQ.mv rfl rfl ?_);refine EQ.val (fun _ hw => (ix_22 rfl rfl hlt)) rfl ?_
    refine EQ.val (fun _ hw => (ld_3 rfl (below_load hw hjc))) rfl ?_
    refine EQ.val (fun _ hw => (fa_28_0 rfl)) rfl ?_
    refine EQ.val (fun _ hw => (ld_22 rfl (below_load hw (q1.at (j := 0) rfl)))) rfl ?_
    refine EQ.val (fun _ hw => (ln_22 rfl)) rfl ?_
    refine EQ.val (fun _ hw => (x_sub rfl rfl (c := (ru.levels.length : Nat) - 1) (IntWalk.i64_in _ ⟨by omega, by omega⟩))) rfl ?_
    refine EQ.call (fun _ _ _ ha => cA3 cF56 rfl rfl rfl _ ha) rfl (fun W hw => (in_to hin W).mono fun e w' h => ⟨h.1, hw.trans (h.2.mono hw.size)⟩) ?_
    refine EQ.val (fun _ hw => (x_not rfl)) rfl ?_
    refine EQ.fin (fun w2 hw_ => ?_)
    replace q1 := q1.bl hw_;replace hbw := bo_ hbw hw_;clear hw_;refine EX.seq (EC.yes rfl (EC.seq (EC.region (EL.as rfl rfl (EL.nil (EX.seq (EC.ret (EX.blk_ret (EX.seq_ret ?_)))))))));refine EX.seq_ret (EX.blk_ret (EX.seq_ret ?_))
    exact EX.done (res1 rfl rfl) ⟨by rw [jobsE, if_neg hml, if_neg (not_all hlt hin)], hbw⟩
   ·
    refine EC.regionQ (by kernel_rfl) (by kernel_rfl) ?_
    refine EQ.mv rfl rfl (EQ.mv rfl rfl ?_);refine EQ.val (fun _ hw => (ix_22 rfl rfl hlt)) rfl ?_
    refine EQ.val (fun _ hw => (ld_3 rfl (below_load hw hjc))) rfl ?_
    refine EQ.val (fun _ hw => (fa_28_0 rfl)) rfl ?_
    refine EQ.val (fun _ hw => (ld_22 rfl (below_load hw (q1.at (j := 0) rfl)))) rfl ?_
    refine EQ.val (fun _ hw => (ln_22 rfl)) rfl ?_
    refine EQ.val (fun _ hw => (x_sub rfl rfl (c := (ru.levels.length : Nat) - 1) (IntWalk.i64_in _ ⟨by omega, by omega⟩))) rfl ?_
    refine EQ.call (fun _ _ _ ha => cA3 cF56 rfl rfl rfl _ ha) rfl (fun W hw => (in_to hin W).mono fun e w' h => ⟨h.1, hw.trans (h.2.mono hw.size)⟩) ?_
    refine EQ.val (fun _ hw => (x_not rfl)) rfl ?_
    refine EQ.fin (fun w3 hw_ => ?_)
    replace q1 := q1.bl hw_;replace hbw := bo_ hbw hw_;clear hw_;refine EX.seq (EC.no rfl (EC.skip (EX.blk (EX.seq (EC.region (EL.mv rfl rfl ?_))))));refine EL.val (x_add rfl rfl (c := ((i + 1 : Nat) : Int)) ((IntWalk.i64_in _ ⟨by first | omega | (simp only; omega), by first | omega | (simp only; omega)⟩).trans (by first | omega | (simp only; omega)))) rfl ?_
    refine EL.as rfl rfl (EL.nil ?_);refine EX.roundD (i + 1) ⟨rfl, trivial⟩ (by repeat first | with_reducible exact .refl _ | refine sp_ rfl ?_ | exact .refl _ | refine sd_ rfl ?_ | refine sn_ ?_) ⟨hlt, (fun j hj => by rcases Nat.lt_or_ge j i with h0 | h0; exact hall j h0; rw [show j = i by omega]; exact hin), q1, hbw⟩ (by omega)
  ·
   have hxe : i = jobs.length := by omega
   refine EC.seq (EC.seq (EC.region (EL.mv rfl rfl (EL.mv rfl rfl (EL.val (ln_22 rfl) rfl ?_)))));refine EL.val (x_lss rfl rfl (decide_eq_false (show ¬(((i : Nat) : Int) < ((jobs.length : Nat) : Int)) by omega))) rfl ?_
   refine EL.nil (EX.seq (EC.no rfl (EC.exit (EX.seq_exit (EX.seq_exit (EX.blk_here (EX.seq (EC.seq (EC.region ?_)))))))));refine EL.as rfl rfl (EL.nil (EX.seq (EC.ret ?_)))
   exact EX.done (res1 rfl rfl) ⟨by rw [jobsE, if_neg hml, if_pos (all_of (hxe ▸ hall))], hbw⟩
/-- what the search knows when all ways by tanks < i, and the first kk kinds of tank i, have been tried -/
def accR (ru : Rules) (us : List RT) (c : Nat) (rem : List Nat) (p : Pl) (a : Option Pl × Nat) (i kk : Nat) : Option Pl × Nat :=
 (((List.range i).flatMap fun i => (kindsL ru.kinds.length).flatMap (ext1 (yardR ru us.length) c (us, p) i)) ++ ((kindsL ru.kinds.length).take kk).flatMap (ext1 (yardR ru us.length) c (us, p) i)).foldl (fun a y => tryR (extY (yardR ru us.length)) rem y a) a
section
variable {ru : Rules} {us : List RT} {c : Nat} {rem : List Nat} {p : Pl} {a : Option Pl × Nat} {i kk : Nat}
theorem acc_zero : accR ru us c rem p a 0 0 = a := rfl
theorem acc_next : accR ru us c rem p a (i + 1) 0 = accR ru us c rem p a i (ru.kinds.length + 1) := by
 unfold accR
 rw [flatI_succ, show (kindsL ru.kinds.length).take (ru.kinds.length + 1) = kindsL ru.kinds.length from List.take_of_length_le (by rw [kindsL_len]; exact Nat.le_refl _)]
 simp
theorem acc_end (hw : ¬worse a.1 p = true) : accR ru us c rem p (a.1, max a.2 p.steps.length) us.length 0 = tryR (extY (yardR ru us.length)) (c :: rem) (us, p) a := by
 unfold accR
 rw [tryR, if_neg hw]
 simp [extY, yardR]
theorem acc_step (h : kk < ru.kinds.length + 1) {k : Int} (hk : k = ((kk : Nat) : Int) - 1) : accR ru us c rem p a i (kk + 1) = (ext1 (yardR ru us.length) c (us, p) i k).foldl (fun a y => tryR (extY (yardR ru us.length)) rem y a) (accR ru us c rem p a i kk) := by
 have hl : kk < (kindsL ru.kinds.length).length := by rw [kindsL_len]; exact h
 have e : (kindsL ru.kinds.length)[kk] = k := by
  rw [hk, ← getD_in (d := 0) hl]
  rcases kinds_val h with ⟨h1, h2⟩ | ⟨j, h1, h2⟩
  ·rw [h2, h1]; rfl
  ·rw [h2]
   rcases kk with _ | q
   ·simp [kindsL] at h2
   ·have h3 : (kindsL ru.kinds.length).getD (q + 1) 0 = ((q : Nat) : Int) := by
     unfold kindsL
     rw [List.getD_cons_succ, getD_in (by simp; omega)]
     simp
    rw [← h2, h3]
    omega
 unfold accR
 rw [List.take_succ_eq_append_getElem hl, List.flatMap_append, ← List.append_assoc, List.foldl_append, e]
 simp
theorem acc_no (h : kk < ru.kinds.length + 1) {k : Int} (hk : k = ((kk : Nat) : Int) - 1) (hg : goR ru c us i k = none) : accR ru us c rem p a i (kk + 1) = accR ru us c rem p a i kk := by
 rw [acc_step h hk]
 unfold ext1
 rw [show (yardR ru us.length).go c (us, p).1 i k = none from hg]
 rfl
theorem acc_yes (h : kk < ru.kinds.length + 1) {k : Int} (hk : k = ((kk : Nat) : Int) - 1) {s : List RT} (hg : goR ru c us i k = some s) : accR ru us c rem p a i (kk + 1) = tryR (extY (yardR ru us.length)) rem (s, addS p ⟨i, k⟩ (numK k) (kcost ru k)) (accR ru us c rem p a i kk) := by
 rw [acc_step h hk]
 unfold ext1
 rw [show (yardR ru us.length).go c (us, p).1 i k = some s from hg]
 rfl
theorem try_worse {ext : Nat → List RT × Pl → List (List RT × Pl)} {js : List Nat} (hw : worse a.1 p = true) : tryR ext js (us, p) a = a := by
 cases js <;> rw [tryR, if_pos hw]
theorem try_end {ext : Nat → List RT × Pl → List (List RT × Pl)} (hw : ¬worse a.1 p = true) : tryR ext [] (us, p) a = (some p, p.steps.length) := by rw [tryR, if_neg hw]
end
theorem RtOk.more {n k k' : Nat} {t : RT} (h : RtOk n k t) (hk : k ≤ k') : RtOk n k' t := ⟨h.rl, h.al, h.bd, fun i => by have := h.af i; omega⟩
theorem way_rt {ru : Rules} (hro : RulesOk ru) {u : RT} {m : Nat} (h : RtOk ru.levels.length m u) {k : Int} (hk : k ∈ kindsL ru.kinds.length) : RtOk ru.levels.length (m + 1) (wayR ru u k) := by
 unfold wayR
 rcases kinds_in hk with rfl | ⟨j, hj, rfl⟩
 ·rw [if_pos (by omega)]; exact h.more (by omega)
 ·rw [if_neg (by omega)]; exact step_ok hro h (ev_wash hj)
theorem load_rt {ru : Rules} (hro : RulesOk ru) {u : RT} {m c : Nat} (h : RtOk ru.levels.length m u) (hc : c < ru.levels.length) : RtOk ru.levels.length (m + 1) (loadR ru u c) := step_ok hro h (ev_load hc)
theorem kk_in {K kk : Nat} (h : kk < K + 1) : ((kk : Nat) : Int) - 1 ∈ kindsL K := by
 unfold kindsL
 rcases kk with _ | q
 ·exact List.mem_cons.2 (.inl rfl)
 ·exact List.mem_cons.2 (.inr (List.mem_map.2 ⟨q, List.mem_range.2 (by omega), by omega⟩))
section
variable {n : Nat} {σ : Sg} {w : World} {dst : Option Tmp} {ty : TypeId} {pos : String} {af : Array Edge} {g : Option (Nat × Bool)} {x y z : Operand} {at' : Array TypeId}
theorem bx_67 {v0 v1 v2 v3 v4 : Value} (hx : evS σ x = some (.agg #[v0, v1, v2, v3, v4])) (a : Act) (ha : Env n σ a) : (execOp a.eval ⟨dst, .box 67 x, ty, pos, af, g⟩).run Try.prog w = .ok (.value (.pointer (some ⟨w.heap.size, 0, none⟩))) (w.alloc (.cells #[v0, v1, v2, v3, v4] 67)) := by
 simp only [execOp, ha.eval hx]
 simp [go_sem]
theorem fa_67_0 {b o : Nat} (hx : evS σ x = some (.pointer (some ⟨b, o, none⟩))) : Gives Try.prog n σ w ⟨dst, .fieldAddr 67 x 0, ty, pos, af, g⟩ (.pointer (some ⟨b, o, none⟩)) := fun a ha => by
 simp only [execOp, ha.eval hx]
 simp [go_sem]
theorem fa_67_2 {b o : Nat} (hx : evS σ x = some (.pointer (some ⟨b, o, none⟩))) : Gives Try.prog n σ w ⟨dst, .fieldAddr 67 x 2, ty, pos, af, g⟩ (.pointer (some ⟨b, o + 2, none⟩)) := fun a ha => by
 simp only [execOp, ha.eval hx]
 simp [go_sem]
theorem fa_67_3 {b o : Nat} (hx : evS σ x = some (.pointer (some ⟨b, o, none⟩))) : Gives Try.prog n σ w ⟨dst, .fieldAddr 67 x 3, ty, pos, af, g⟩ (.pointer (some ⟨b, o + 3, none⟩)) := fun a ha => by
 simp only [execOp, ha.eval hx]
 simp [go_sem]
theorem fa_67_1 {b o : Nat} (hx : evS σ x = some (.pointer (some ⟨b, o, none⟩))) : Gives Try.prog n σ w ⟨dst, .fieldAddr 67 x 1, ty, pos, af, g⟩ (.pointer (some ⟨b, o + 1, none⟩)) := fun a ha => by
 simp only [execOp, ha.eval hx]
 simp [go_sem]
theorem fa_67_4 {b o : Nat} (hx : evS σ x = some (.pointer (some ⟨b, o, none⟩))) : Gives Try.prog n σ w ⟨dst, .fieldAddr 67 x 4, ty, pos, af, g⟩ (.pointer (some ⟨b, o + 4, none⟩)) := fun a ha => by
 simp only [execOp, ha.eval hx]
 simp [go_sem]
theorem bd_67_0_1_2_3_4 {x0 x1 x2 x3 x4 : Operand} {b0 : Bool} {A1 : Option Addr} {m1 : Nat} {c1 : Nat} {z2 : Int} {z3 : Int} {z4 : Int} (h0 : evS σ x0 = some (.bool b0)) (h1 : evS σ x1 = some (.slice A1 m1 c1)) (h2 : evS σ x2 = some (.int .i64 z2)) (h3 : evS σ x3 = some (.int .i64 z3)) (h4 : evS σ x4 = some (.int .i64 z4)) : Gives Try.prog n σ w ⟨dst, .build 67 #[(0, x0), (1, x1), (2, x2), (3, x3), (4, x4)], ty, pos, af, g⟩ (.agg #[.bool b0, .slice A1 m1 c1, .int .i64 z2, .int .i64 z3, .int .i64 z4]) := fun a ha => by
 simp only [execOp, List.map_toArray, List.map_cons, List.map_nil, ha.eval h0, ha.eval h1, ha.eval h2, ha.eval h3, ha.eval h4]
 go_simp
theorem sz_67 : (Try.prog.info? 67).map (·.size) = some 5 := by kernel_rfl
theorem ln_64 {A : Option Addr} {m c : Nat} (hx : evS σ x = some (.slice A m c)) : Gives Try.prog n σ w ⟨dst, .call { callee := .builtin .len, args := #[x], argTypes := #[64] }, ty, pos, af, g⟩ (.int .i64 (m : Int)) := fun a ha => by
 simp only [execOp, resolve, List.map_toArray, List.map_cons, List.map_nil, ha.eval hx]
 simp [go_sem]
theorem ix_64 {b o m c k : Nat} (hx : evS σ x = some (.slice (some ⟨b, o, none⟩) m c)) (hy : evS σ y = some (.int .i64 (k : Int))) (hk : k < m) : Gives Try.prog n σ w ⟨dst, .indexAddr 64 x y, ty, pos, af, g⟩ (.pointer (some ⟨b, o + k * 2, none⟩)) := fun a ha => by
 have k0 : (0 : Int) ≤ (k : Int) := Int.natCast_nonneg _;have k1 : (k : Int) < (m : Int) := by omega
 simp only [execOp, ha.eval hx, ha.eval hy]
 simp [go_sem, k0, k1]
theorem al_67 (a : Act) (_ : Env n σ a) : (execOp a.eval ⟨dst, .alloc 67, ty, pos, af, g⟩).run Try.prog w = .ok (.value (.pointer (some ⟨w.heap.size, 0, none⟩))) (w.alloc (.cells #[.bool false, .slice none 0 0, .int .i64 0, .int .i64 0, .int .i64 0] 67)) := by
 simp only [execOp]
 simp [go_sem]
theorem ld_67 {b o : Nat} {v0 v1 v2 v3 v4 : Value} (hx : evS σ x = some (.pointer (some ⟨b, o, none⟩))) (c0 : w.cell? ⟨b, o, none⟩ = some v0) (c1 : w.cell? ⟨b, o + 1, none⟩ = some v1) (c2 : w.cell? ⟨b, o + 2, none⟩ = some v2) (c3 : w.cell? ⟨b, o + 3, none⟩ = some v3) (c4 : w.cell? ⟨b, o + 4, none⟩ = some v4) : Gives Try.prog n σ w ⟨dst, .load 67 x, ty, pos, af, g⟩ (.agg #[v0, v1, v2, v3, v4]) := fun a ha => by
 simp only [execOp, ha.eval hx]
 simp [go_sem, c0, c1, c2, c3, c4]
theorem bs_65_0 (a : Act) (_ : Env n σ a) : (execOp a.eval ⟨dst, .buildSlice 65 0 #[], ty, pos, af, g⟩).run Try.prog w = .ok (.value (.slice (some ⟨w.heap.size, 0, none⟩) 0 0)) (w.alloc (.cells #[] 70)) := by
 simp only [execOp]
 go_simp
theorem sz_65 : (Try.prog.info? 65).map (·.size) = some 1 := by kernel_rfl
theorem bs_64_0 (a : Act) (_ : Env n σ a) : (execOp a.eval ⟨dst, .buildSlice 64 0 #[], ty, pos, af, g⟩).run Try.prog w = .ok (.value (.slice (some ⟨w.heap.size, 0, none⟩) 0 0)) (w.alloc (.cells #[] 62)) := by
 simp only [execOp]
 go_simp
theorem cA5 {F : FuncId} (hF : cF F) {x0 x1 x2 x3 x4 : Operand} {v0 v1 v2 v3 v4 : Value} (h0 : evS σ x0 = some v0) (h1 : evS σ x1 = some v1) (h2 : evS σ x2 = some v2) (h3 : evS σ x3 = some v3) (h4 : evS σ x4 = some v4) (a : Act) (ha : Env n σ a) : (execOp a.eval ⟨dst, .call { callee := .value (.func F), args := #[x0, x1, x2, x3, x4], argTypes := at' }, ty, pos, af, g⟩).run Try.prog w = .ok (.enter F #[v0, v1, v2, v3, v4]) w := by
 simp only [execOp, resolve, List.map_toArray, List.map_cons, List.map_nil, ha.eval h0, ha.eval h1, ha.eval h2, ha.eval h3, ha.eval h4]
 simp [go_sem, Act.eval, hF _ _]
theorem cF59 : cF 59 := fun _ _ => by simp [go_sem]
end
end Go.Proofs.Ytdkedhcbdbpccaa
