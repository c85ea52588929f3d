/- X3, E22, ExX4, X4, ExX5, X5, ExX6, ExX7, ExX8, X8, ExX9: what LockTruthsProof needs of them (merged by trimpack.py). -/
import Derived.Test.YtlbfnimilcnihaaTruthsT2
set_option linter.unusedVariables false
set_option linter.unusedSimpArgs false
namespace Go.Proofs.Ytlbfnimilcnihaa
open Go Go.RowKit
set_option maxRecDepth 100000 in
theorem QAA {s : ST} {g : Nat} {w : World} {M : Int} (hq : Blk w g 114 (stC s).toArray) (hl : lkB s.lk = true) (hB : WtB M s) (hM : M ≤ 1000000000000) :
  Calls Try.prog 76 #[.pointer (some ⟨g, 0, none⟩)] w fun e w' => e = .returned (.tuple #[]) ∧ Blk w' g 114 (stC (mvS s)).toArray ∧ w.grownBy w' (some g) := by
 have k1 := QGd hl;have k2 := QFc hl;obtain ⟨_, _, _, k3, _⟩ := QAT hl;have b1 := hB.up;have b2 := hB.lo;have b3 := hB.ch;have b4 := hB.mv;have b5 := hB.ba
 unfold QCh at k2 b5
 clear hB hl;obtain ⟨⟨le, cy, tu, fi, sa, hi⟩, up, lo, ch, ba, mv, fr, t0, t1, co⟩ := s
 simp only at k1 k2 k3 b1 b2 b3 b4 b5
 have hq : Blk w g 114 #[.int .i64 le, .int .i64 cy, .int .i64 tu, .int .i64 fi, .int .i64 sa, .bool hi, .int .i64 up, .int .i64 lo, .int .i64 ch, .int .i64 ba, .int .i64 mv, .int .i64 fr, .int .i64 (t0 : Nat), .int .i64 (t1 : Nat), .int .i64 co] := hq;have hgr : w.grownBy w (some g) := ⟨rfl, rfl, rfl, Nat.le_refl _, fun _ _ _ => rfl⟩
 refine EC.enter 134 Try.func76 rfl rfl rfl (EC.seq (EC.seq (EC.region (EL.mv rfl rfl (EL.val (ZH rfl) rfl (EL.val (ZW rfl) rfl (EL.val (QBa rfl) rfl (EL.val (ld_3 rfl (hq.at (j := 10) rfl)) rfl ?_))))))));refine EL.val (x_add rfl rfl (by first | assumption | exact IntWalk.i64_in _ ⟨by omega, by omega⟩)) rfl ?_
 refine EL.val (ZH rfl) rfl (EL.val (ZW rfl) rfl (EL.val (QBa rfl) rfl (EL.store rfl rfl hq sz_3 rfl rfl rfl rfl ?_)));intro w1 hq1 hg1;replace hgr := Zm hgr hg1;replace hq := hq1;clear hg1 hq1;refine EL.nil (EX.seq (EC.seq (EC.region (EL.mv rfl rfl (EL.val (ZH rfl) rfl (EL.val (ZV rfl) rfl (EL.val (QA8 rfl) rfl (EL.val (ld_4 rfl (hq.at (j := 5) rfl)) rfl (EL.nil ?_)))))))));refine EX.seq ?_
 cases hi
 ·
  refine EC.no rfl ?_;refine EC.regionS [[], [], [], [], [3], [3, 4], [3, 4, 5], [3, 4, 5, 6], [3, 4, 5, 6, 7], [], [9], [9, 10], [9, 10, 11], [9, 10, 11, 12], [3, 4, 5, 6, 7, 8, 9, 10, 11, 12, 13], [], [15], [15, 16], [15, 16, 17], [15, 16, 17, 18], [15, 16, 17, 18, 19], [3, 4, 5, 6, 7, 8, 9, 10, 11, 12, 13, 14, 15, 16, 17, 18, 19, 20], [], [22], [22, 23], [22, 23, 24], [22, 23, 24, 25], [22, 23, 24, 25, 26], [], [28], [28, 29], [28, 29, 30], [28, 29, 30, 31], [22, 23, 24, 25, 26, 27, 28, 29, 30, 31, 32], [0, 3, 4, 5, 6, 7, 8, 9, 10, 11, 12, 13, 14, 15, 16, 17, 18, 19, 20, 21, 22, 23, 24, 25, 26, 27, 28, 29, 30, 31, 32], [0, 3, 4, 5, 6, 7, 8, 9, 10, 11, 12, 13, 14, 15, 16, 17, 18, 19, 20, 21, 22, 23, 24, 25, 26, 27, 28, 29, 30, 31, 32, 34], [0, 3, 4, 5, 6, 7, 8, 9, 10, 11, 12, 13, 14, 15, 16, 17, 18, 19, 20, 21, 22, 23, 24, 25, 26, 27, 28, 29, 30, 31, 32, 34, 35], [0, 3, 4, 5, 6, 7, 8, 9, 10, 11, 12, 13, 14, 15, 16, 17, 18, 19, 20, 21, 22, 23, 24, 25, 26, 27, 28, 29, 30, 31, 32, 34, 35, 36], [0, 3, 4, 5, 6, 7, 8, 9, 10, 11, 12, 13, 14, 15, 16, 17, 18, 19, 20, 21, 22, 23, 24, 25, 26, 27, 28, 29, 30, 31, 32, 34, 35, 36, 37], [0, 1, 3, 4, 5, 6, 7, 8, 9, 10, 11, 12, 13, 14, 15, 16, 17, 18, 19, 20, 21, 22, 23, 24, 25, 26, 27, 28, 29, 30, 31, 32, 34, 35, 36, 37, 38], [0, 1, 3, 4, 5, 6, 7, 8, 9, 10, 11, 12, 13, 14, 15, 16, 17, 18, 19, 20, 21, 22, 23, 24, 25, 26, 27, 28, 29, 30, 31, 32, 34, 35, 36, 37, 38, 39], [0, 1, 3, 4, 5, 6, 7, 8, 9, 10, 11, 12, 13, 14, 15, 16, 17, 18, 19, 20, 21, 22, 23, 24, 25, 26, 27, 28, 29, 30, 31, 32, 34, 35, 36, 37, 38, 39, 40], [0, 1, 3, 4, 5, 6, 7, 8, 9, 10, 11, 12, 13, 14, 15, 16, 17, 18, 19, 20, 21, 22, 23, 24, 25, 26, 27, 28, 29, 30, 31, 32, 34, 35, 36, 37, 38, 39, 40, 41], [0, 1, 3, 4, 5, 6, 7, 8, 9, 10, 11, 12, 13, 14, 15, 16, 17, 18, 19, 20, 21, 22, 23, 24, 25, 26, 27, 28, 29, 30, 31, 32, 34, 35, 36, 37, 38, 39, 40, 41, 42], [0, 1, 2, 3, 4, 5, 6, 7, 8, 9, 10, 11, 12, 13, 14, 15, 16, 17, 18, 19, 20, 21, 22, 23, 24, 25, 26, 27, 28, 29, 30, 31, 32, 33, 34, 35, 36, 37, 38, 39, 40, 41, 42, 43], [0, 1, 2, 3, 4, 5, 6, 7, 8, 9, 10, 11, 12, 13, 14, 15, 16, 17, 18, 19, 20, 21, 22, 23, 24, 25, 26, 27, 28, 29, 30, 31, 32, 33, 34, 35, 36, 37, 38, 39, 40, 41, 42, 43, 44], [0, 1, 2, 3, 4, 5, 6, 7, 8, 9, 10, 11, 12, 13, 14, 15, 16, 17, 18, 19, 20, 21, 22, 23, 24, 25, 26, 27, 28, 29, 30, 31, 32, 33, 34, 35, 36, 37, 38, 39, 40, 41, 42, 43, 44, 45], [0, 1, 2, 3, 4, 5, 6, 7, 8, 9, 10, 11, 12, 13, 14, 15, 16, 17, 18, 19, 20, 21, 22, 23, 24, 25, 26, 27, 28, 29, 30, 31, 32, 33, 34, 35, 36, 37, 38, 39, 40, 41, 42, 43, 44, 45, 46], [0, 1, 2, 3, 4, 5, 6, 7, 8, 9, 10, 11, 12, 13, 14, 15, 16, 17, 18, 19, 20, 21, 22, 23, 24, 25, 26, 27, 28, 29, 30, 31, 32, 33, 34, 35, 36, 37, 38, 39, 40, 41, 42, 43, 44, 45, 46, 47]] 44 [] [38, 43] (fun fl w_ => w1.grownBy w_ (some g) ∧ (fl 38 = false → Blk w_ g 114 #[.int .i64 le, .int .i64 cy, .int .i64 tu, .int .i64 fi, .int .i64 sa, .bool false, .int .i64 up, .int .i64 lo, .int .i64 ch, .int .i64 ba, .int .i64 (mv + 1), .int .i64 fr, .int .i64 (t0 : Nat), .int .i64 (t1 : Nat), .int .i64 co])) (phiS (fun i_ r => match i_ with | 0 => r 0 = .pointer (some ⟨g, 0, none⟩) | 1 => r 1 = .pointer (some ⟨g, 0, none⟩) | 2 => r 2 = .pointer (some ⟨g, 0, none⟩) | 3 => r 3 = .pointer (some ⟨g, 0, none⟩) | 4 => r 4 = .pointer (some ⟨g, 0, none⟩) | 5 => r 5 = .pointer (some ⟨g, 6, none⟩) | 6 => r 6 = .pointer (some ⟨g, 6, none⟩) | 7 => r 7 = .pointer (some ⟨g, 6, none⟩) | 8 => r 8 = .int .i64 up | 9 => r 9 = .pointer (some ⟨g, 0, none⟩) | 10 => r 10 = .pointer (some ⟨g, 0, none⟩) | 11 => r 11 = .pointer (some ⟨g, 0, none⟩) | 12 => r 12 = .pointer (some ⟨g, 3, none⟩) | 13 => r 13 = .int .i64 fi | 14 => r 14 = .int .i64 (up - fi) | 15 => r 15 = .pointer (some ⟨g, 0, none⟩) | 16 => r 16 = .pointer (some ⟨g, 0, none⟩) | 17 => r 17 = .pointer (some ⟨g, 6, none⟩) | 18 => r 18 = .pointer (some ⟨g, 6, none⟩) | 19 => r 19 = .pointer (some ⟨g, 6 + 3, none⟩) | 20 => r 20 = .int .i64 ba | 21 => r 21 = .int .i64 ((up - fi) + ba) | 22 => r 22 = .pointer (some ⟨g, 0, none⟩) | 23 => r 23 = .pointer (some ⟨g, 0, none⟩) | 24 => r 24 = .pointer (some ⟨g, 6, none⟩) | 25 => r 25 = .pointer (some ⟨g, 6, none⟩) | 26 => r 26 = .pointer (some ⟨g, 6 + 2, none⟩) | 27 => r 27 = .int .i64 ch | 28 => r 28 = .pointer (some ⟨g, 0, none⟩) | 29 => r 29 = .pointer (some ⟨g, 0, none⟩) | 30 => r 30 = .pointer (some ⟨g, 0, none⟩) | 31 => r 31 = .pointer (some ⟨g, 3, none⟩) | 32 => r 32 = .int .i64 fi | 33 => r 33 = .int .i64 (ch + fi) | 34 => r 34 = .pointer (some ⟨g, 0, none⟩) | 35 => r 35 = .pointer (some ⟨g, 6, none⟩) | 36 => r 36 = .pointer (some ⟨g, 6, none⟩) | 37 => r 37 = .pointer (some ⟨g, 6, none⟩) | 39 => r 39 = .pointer (some ⟨g, 0, none⟩) | 40 => r 40 = .pointer (some ⟨g, 6, none⟩) | 41 => r 41 = .pointer (some ⟨g, 6, none⟩) | 42 => r 42 = .pointer (some ⟨g, 6 + 3, none⟩) | _ => True) [(38, fun fl _ w_ => fl 38 = true ∧ (fl 43 = false → Blk w_ g 114 #[.int .i64 le, .int .i64 cy, .int .i64 tu, .int .i64 fi, .int .i64 sa, .bool false, .int .i64 ((up - fi) + ba), .int .i64 lo, .int .i64 ch, .int .i64 ba, .int .i64 (mv + 1), .int .i64 fr, .int .i64 (t0 : Nat), .int .i64 (t1 : Nat), .int .i64 co])), (43, fun fl _ w_ => fl 43 = true ∧ Blk w_ g 114 #[.int .i64 le, .int .i64 cy, .int .i64 tu, .int .i64 fi, .int .i64 sa, .bool false, .int .i64 ((up - fi) + ba), .int .i64 lo, .int .i64 ch, .int .i64 0, .int .i64 (mv + 1), .int .i64 fr, .int .i64 (t0 : Nat), .int .i64 (t1 : Nat), .int .i64 co])]) (by kernel_rfl) rfl rfl (by intro i hi; simp at hi; rcases hi with rfl | rfl <;> exact ⟨by simp, by omega⟩) (Yy hq) (ZL (fun _ _ _ _ hb ⟨h1, h2⟩ => ⟨h1, fun h => (h2 h).below hb (h2 h).lt⟩) (ZL (fun _ _ _ _ hb ⟨h1, h2⟩ => ⟨h1, h2.below hb h2.lt⟩) (Zd))) (fun i_ hi_ hs_ => ?_) (fun i_ hi_ => ?_) ?_
  ·match i_, hi_ with
   | 0, _ =>
    intro val fl w1 a hb ha hd hfl;obtain ⟨hgb, hz0_⟩ := hb;have ha := ha.s0 (d := 0) rfl
    exact ZD ha rfl rfl (x_move rfl) rfl rfl
   | 1, _ =>
    intro val fl w1 a hb ha hd hfl;obtain ⟨hgb, hz0_⟩ := hb;have ha := ha.s0 (d := 0) rfl
    exact ZD ha rfl rfl (x_move rfl) rfl rfl
   | 2, _ =>
    intro val fl w1 a hb ha hd hfl;obtain ⟨hgb, hz0_⟩ := hb;have ha := ha.s0 (d := 0) rfl
    exact ZD ha rfl rfl (x_move rfl) rfl rfl
   | 3, _ =>
    intro val fl w1 a hb ha hd hfl;obtain ⟨hgb, hz0_⟩ := hb;have ha := ha.s0 (d := 0) rfl
    exact ZD ha rfl rfl (x_move rfl) rfl rfl
   | 4, _ =>
    intro val fl w1 a hb ha hd hfl;obtain ⟨hgb, hz0_⟩ := hb;have e3 : val 3 = _ := hd 3 (ZA.1 rfl);have ha := ha.s1 (d := 81) rfl e3
    exact ZD ha rfl rfl (ZH rfl) rfl rfl
   | 5, _ =>
    intro val fl w1 a hb ha hd hfl;obtain ⟨hgb, hz0_⟩ := hb;have e4 : val 4 = _ := hd 4 (ZA.1 rfl);have ha := ha.s1 (d := 82) rfl e4
    exact ZD ha rfl rfl (ZW rfl) rfl rfl
   | 6, _ =>
    intro val fl w1 a hb ha hd hfl;obtain ⟨hgb, hz0_⟩ := hb;have e5 : val 5 = _ := hd 5 (ZA.1 rfl);have ha := ha.s1 (d := 83) rfl e5
    exact ZD ha rfl rfl (Zf rfl) rfl rfl
   | 7, _ =>
    intro val fl w1 a hb ha hd hfl;obtain ⟨hgb, hz0_⟩ := hb;have e6 : val 6 = _ := hd 6 (ZA.1 rfl);have ha := ha.s1 (d := 84) rfl e6
    exact ZD ha rfl rfl (Y8 rfl) rfl rfl
   | 8, _ =>
    intro val fl w1 a hb ha hd hfl;obtain ⟨hgb, hz0_⟩ := hb;have e7 : val 7 = _ := hd 7 (ZA.1 rfl);have ha := ha.s1 (d := 85) rfl e7
    exact ZD ha rfl rfl (ld_3 rfl ((hz0_ (hfl 38 (by simp) (ZA.1 rfl))).at (j := 6) rfl)) rfl rfl
   | 9, _ =>
    intro val fl w1 a hb ha hd hfl;obtain ⟨hgb, hz0_⟩ := hb;have ha := ha.s0 (d := 0) rfl
    exact ZD ha rfl rfl (x_move rfl) rfl rfl
   | 10, _ =>
    intro val fl w1 a hb ha hd hfl;obtain ⟨hgb, hz0_⟩ := hb;have e9 : val 9 = _ := hd 9 (ZA.1 rfl);have ha := ha.s1 (d := 87) rfl e9
    exact ZD ha rfl rfl (ZH rfl) rfl rfl
   | 11, _ =>
    intro val fl w1 a hb ha hd hfl;obtain ⟨hgb, hz0_⟩ := hb;have e10 : val 10 = _ := hd 10 (ZA.1 rfl);have ha := ha.s1 (d := 88) rfl e10
    exact ZD ha rfl rfl (ZV rfl) rfl rfl
   | 12, _ =>
    intro val fl w1 a hb ha hd hfl;obtain ⟨hgb, hz0_⟩ := hb;have e11 : val 11 = _ := hd 11 (ZA.1 rfl);have ha := ha.s1 (d := 89) rfl e11
    exact ZD ha rfl rfl (QBu rfl) rfl rfl
   | 13, _ =>
    intro val fl w1 a hb ha hd hfl;obtain ⟨hgb, hz0_⟩ := hb;have e12 : val 12 = _ := hd 12 (ZA.1 rfl);have ha := ha.s1 (d := 90) rfl e12
    exact ZD ha rfl rfl (ld_3 rfl ((hz0_ (hfl 38 (by simp) (ZA.1 rfl))).at (j := 3) rfl)) rfl rfl
   | 14, _ =>
    intro val fl w1 a hb ha hd hfl;obtain ⟨hgb, hz0_⟩ := hb;have e8 : val 8 = _ := hd 8 (ZA.1 rfl);have e13 : val 13 = _ := hd 13 (ZA.1 rfl);have ha := ha.s2 (d := 91) (e := 86) rfl e13 rfl e8
    exact ZD ha rfl rfl (Z_ rfl rfl (by first | assumption | exact IntWalk.i64_in _ ⟨by omega, by omega⟩)) rfl rfl
   | 15, _ =>
    intro val fl w1 a hb ha hd hfl;obtain ⟨hgb, hz0_⟩ := hb;have ha := ha.s0 (d := 0) rfl
    exact ZD ha rfl rfl (x_move rfl) rfl rfl
   | 16, _ =>
    intro val fl w1 a hb ha hd hfl;obtain ⟨hgb, hz0_⟩ := hb;have e15 : val 15 = _ := hd 15 (ZA.1 rfl);have ha := ha.s1 (d := 93) rfl e15
    exact ZD ha rfl rfl (ZH rfl) rfl rfl
   | 17, _ =>
    intro val fl w1 a hb ha hd hfl;obtain ⟨hgb, hz0_⟩ := hb;have e16 : val 16 = _ := hd 16 (ZA.1 rfl);have ha := ha.s1 (d := 94) rfl e16
    exact ZD ha rfl rfl (ZW rfl) rfl rfl
   | 18, _ =>
    intro val fl w1 a hb ha hd hfl;obtain ⟨hgb, hz0_⟩ := hb;have e17 : val 17 = _ := hd 17 (ZA.1 rfl);have ha := ha.s1 (d := 95) rfl e17
    exact ZD ha rfl rfl (Zf rfl) rfl rfl
   | 19, _ =>
    intro val fl w1 a hb ha hd hfl;obtain ⟨hgb, hz0_⟩ := hb;have e18 : val 18 = _ := hd 18 (ZA.1 rfl);have ha := ha.s1 (d := 96) rfl e18
    exact ZD ha rfl rfl (QDj rfl) rfl rfl
   | 20, _ =>
    intro val fl w1 a hb ha hd hfl;obtain ⟨hgb, hz0_⟩ := hb;have e19 : val 19 = _ := hd 19 (ZA.1 rfl);have ha := ha.s1 (d := 97) rfl e19
    exact ZD ha rfl rfl (ld_3 rfl ((hz0_ (hfl 38 (by simp) (ZA.1 rfl))).at (j := 9) rfl)) rfl rfl
   | 21, _ =>
    intro val fl w1 a hb ha hd hfl;obtain ⟨hgb, hz0_⟩ := hb;have e14 : val 14 = _ := hd 14 (ZA.1 rfl);have e20 : val 20 = _ := hd 20 (ZA.1 rfl);have ha := ha.s2 (d := 98) (e := 92) rfl e20 rfl e14
    exact ZD ha rfl rfl (x_add rfl rfl (by first | assumption | exact IntWalk.i64_in _ ⟨by omega, by omega⟩)) rfl rfl
   | 22, _ =>
    intro val fl w1 a hb ha hd hfl;obtain ⟨hgb, hz0_⟩ := hb;have ha := ha.s0 (d := 0) rfl
    exact ZD ha rfl rfl (x_move rfl) rfl rfl
   | 23, _ =>
    intro val fl w1 a hb ha hd hfl;obtain ⟨hgb, hz0_⟩ := hb;have e22 : val 22 = _ := hd 22 (ZA.1 rfl);have ha := ha.s1 (d := 100) rfl e22
    exact ZD ha rfl rfl (ZH rfl) rfl rfl
   | 24, _ =>
    intro val fl w1 a hb ha hd hfl;obtain ⟨hgb, hz0_⟩ := hb;have e23 : val 23 = _ := hd 23 (ZA.1 rfl);have ha := ha.s1 (d := 101) rfl e23
    exact ZD ha rfl rfl (ZW rfl) rfl rfl
   | 25, _ =>
    intro val fl w1 a hb ha hd hfl;obtain ⟨hgb, hz0_⟩ := hb;have e24 : val 24 = _ := hd 24 (ZA.1 rfl);have ha := ha.s1 (d := 102) rfl e24
    exact ZD ha rfl rfl (Zf rfl) rfl rfl
   | 26, _ =>
    intro val fl w1 a hb ha hd hfl;obtain ⟨hgb, hz0_⟩ := hb;have e25 : val 25 = _ := hd 25 (ZA.1 rfl);have ha := ha.s1 (d := 103) rfl e25
    exact ZD ha rfl rfl (QDk rfl) rfl rfl
   | 27, _ =>
    intro val fl w1 a hb ha hd hfl;obtain ⟨hgb, hz0_⟩ := hb;have e26 : val 26 = _ := hd 26 (ZA.1 rfl);have ha := ha.s1 (d := 104) rfl e26
    exact ZD ha rfl rfl (ld_3 rfl ((hz0_ (hfl 38 (by simp) (ZA.1 rfl))).at (j := 8) rfl)) rfl rfl
   | 28, _ =>
    intro val fl w1 a hb ha hd hfl;obtain ⟨hgb, hz0_⟩ := hb;have ha := ha.s0 (d := 0) rfl
    exact ZD ha rfl rfl (x_move rfl) rfl rfl
   | 29, _ =>
    intro val fl w1 a hb ha hd hfl;obtain ⟨hgb, hz0_⟩ := hb;have e28 : val 28 = _ := hd 28 (ZA.1 rfl);have ha := ha.s1 (d := 106) rfl e28
    exact ZD ha rfl rfl (ZH rfl) rfl rfl
   | 30, _ =>
    intro val fl w1 a hb ha hd hfl;obtain ⟨hgb, hz0_⟩ := hb;have e29 : val 29 = _ := hd 29 (ZA.1 rfl);have ha := ha.s1 (d := 107) rfl e29
    exact ZD ha rfl rfl (ZV rfl) rfl rfl
   | 31, _ =>
    intro val fl w1 a hb ha hd hfl;obtain ⟨hgb, hz0_⟩ := hb;have e30 : val 30 = _ := hd 30 (ZA.1 rfl);have ha := ha.s1 (d := 108) rfl e30
    exact ZD ha rfl rfl (QBu rfl) rfl rfl
   | 32, _ =>
    intro val fl w1 a hb ha hd hfl;obtain ⟨hgb, hz0_⟩ := hb;have e31 : val 31 = _ := hd 31 (ZA.1 rfl);have ha := ha.s1 (d := 109) rfl e31
    exact ZD ha rfl rfl (ld_3 rfl ((hz0_ (hfl 38 (by simp) (ZA.1 rfl))).at (j := 3) rfl)) rfl rfl
   | 33, _ =>
    intro val fl w1 a hb ha hd hfl;obtain ⟨hgb, hz0_⟩ := hb;have e27 : val 27 = _ := hd 27 (ZA.1 rfl);have e32 : val 32 = _ := hd 32 (ZA.1 rfl);have ha := ha.s2 (d := 110) (e := 105) rfl e32 rfl e27
    exact ZD ha rfl rfl (x_add rfl rfl (by first | assumption | exact IntWalk.i64_in _ ⟨by omega, by omega⟩)) rfl rfl
   | 34, _ =>
    intro val fl w1 a hb ha hd hfl;obtain ⟨hgb, hz0_⟩ := hb;have e0 : val 0 = _ := hd 0 (ZA.1 rfl);have ha := ha.s1 (d := 78) rfl e0
    exact ZD ha rfl rfl (ZH rfl) rfl rfl
   | 35, _ =>
    intro val fl w1 a hb ha hd hfl;obtain ⟨hgb, hz0_⟩ := hb;have e34 : val 34 = _ := hd 34 (ZA.1 rfl);have ha := ha.s1 (d := 112) rfl e34
    exact ZD ha rfl rfl (ZW rfl) rfl rfl
   | 36, _ =>
    intro val fl w1 a hb ha hd hfl;obtain ⟨hgb, hz0_⟩ := hb;have e35 : val 35 = _ := hd 35 (ZA.1 rfl);have ha := ha.s1 (d := 113) rfl e35
    exact ZD ha rfl rfl (Zf rfl) rfl rfl
   | 37, _ =>
    intro val fl w1 a hb ha hd hfl;obtain ⟨hgb, hz0_⟩ := hb;have e36 : val 36 = _ := hd 36 (ZA.1 rfl);have ha := ha.s1 (d := 114) rfl e36
    exact ZD ha rfl rfl (Y8 rfl) rfl rfl
   | 38, _ =>
    exact absurd (by simp) hs_
   | 39, _ =>
    intro val fl w1 a hb ha hd hfl;obtain ⟨hgb, hz0_⟩ := hb;have e1 : val 1 = _ := hd 1 (ZA.1 rfl);have ha := ha.s1 (d := 79) rfl e1
    exact ZD ha rfl rfl (ZH rfl) rfl rfl
   | 40, _ =>
    intro val fl w1 a hb ha hd hfl;obtain ⟨hgb, hz0_⟩ := hb;have e39 : val 39 = _ := hd 39 (ZA.1 rfl);have ha := ha.s1 (d := 116) rfl e39
    exact ZD ha rfl rfl (ZW rfl) rfl rfl
   | 41, _ =>
    intro val fl w1 a hb ha hd hfl;obtain ⟨hgb, hz0_⟩ := hb;have e40 : val 40 = _ := hd 40 (ZA.1 rfl);have ha := ha.s1 (d := 117) rfl e40
    exact ZD ha rfl rfl (Zf rfl) rfl rfl
   | 42, _ =>
    intro val fl w1 a hb ha hd hfl;obtain ⟨hgb, hz0_⟩ := hb;have e41 : val 41 = _ := hd 41 (ZA.1 rfl);have ha := ha.s1 (d := 118) rfl e41
    exact ZD ha rfl rfl (QDj rfl) rfl rfl
   | 43, _ =>
    exact absurd (by simp) hs_
   | k + 44, h => exact absurd h (by omega)
  ·simp only [List.mem_cons, List.not_mem_nil, or_false] at hi_
   rcases hi_ with rfl | rfl
   ·
    intro val fl w1 a hb hfi ha hd hfl;obtain ⟨hgb, hz0_⟩ := hb;have e37 : val 37 = _ := hd 37 (ZA.1 rfl);have e21 : val 21 = _ := hd 21 (ZA.1 rfl);have ha := ha.s2 (d := 99) (e := 115) rfl e21 rfl e37;refine ZY ha rfl rfl rfl (hz0_ hfi) sz_3 rfl rfl rfl rfl ?_;intro w' hq hgr;refine ⟨undef, rfl, hgr.size, ⟨YB hgb hgr, fun h => by rw [ZR] at h; cases h⟩, ⟨ZR, fun _ => hq⟩, fun j _ hj hn hA => ?_⟩
    exact ZF (C := fun j => j ≠ 38 ∧ 38 ∉ clsAt [[], [], [], [], [3], [3, 4], [3, 4, 5], [3, 4, 5, 6], [3, 4, 5, 6, 7], [], [9], [9, 10], [9, 10, 11], [9, 10, 11, 12], [3, 4, 5, 6, 7, 8, 9, 10, 11, 12, 13], [], [15], [15, 16], [15, 16, 17], [15, 16, 17, 18], [15, 16, 17, 18, 19], [3, 4, 5, 6, 7, 8, 9, 10, 11, 12, 13, 14, 15, 16, 17, 18, 19, 20], [], [22], [22, 23], [22, 23, 24], [22, 23, 24, 25], [22, 23, 24, 25, 26], [], [28], [28, 29], [28, 29, 30], [28, 29, 30, 31], [22, 23, 24, 25, 26, 27, 28, 29, 30, 31, 32], [0, 3, 4, 5, 6, 7, 8, 9, 10, 11, 12, 13, 14, 15, 16, 17, 18, 19, 20, 21, 22, 23, 24, 25, 26, 27, 28, 29, 30, 31, 32], [0, 3, 4, 5, 6, 7, 8, 9, 10, 11, 12, 13, 14, 15, 16, 17, 18, 19, 20, 21, 22, 23, 24, 25, 26, 27, 28, 29, 30, 31, 32, 34], [0, 3, 4, 5, 6, 7, 8, 9, 10, 11, 12, 13, 14, 15, 16, 17, 18, 19, 20, 21, 22, 23, 24, 25, 26, 27, 28, 29, 30, 31, 32, 34, 35], [0, 3, 4, 5, 6, 7, 8, 9, 10, 11, 12, 13, 14, 15, 16, 17, 18, 19, 20, 21, 22, 23, 24, 25, 26, 27, 28, 29, 30, 31, 32, 34, 35, 36], [0, 3, 4, 5, 6, 7, 8, 9, 10, 11, 12, 13, 14, 15, 16, 17, 18, 19, 20, 21, 22, 23, 24, 25, 26, 27, 28, 29, 30, 31, 32, 34, 35, 36, 37], [0, 1, 3, 4, 5, 6, 7, 8, 9, 10, 11, 12, 13, 14, 15, 16, 17, 18, 19, 20, 21, 22, 23, 24, 25, 26, 27, 28, 29, 30, 31, 32, 34, 35, 36, 37, 38], [0, 1, 3, 4, 5, 6, 7, 8, 9, 10, 11, 12, 13, 14, 15, 16, 17, 18, 19, 20, 21, 22, 23, 24, 25, 26, 27, 28, 29, 30, 31, 32, 34, 35, 36, 37, 38, 39], [0, 1, 3, 4, 5, 6, 7, 8, 9, 10, 11, 12, 13, 14, 15, 16, 17, 18, 19, 20, 21, 22, 23, 24, 25, 26, 27, 28, 29, 30, 31, 32, 34, 35, 36, 37, 38, 39, 40], [0, 1, 3, 4, 5, 6, 7, 8, 9, 10, 11, 12, 13, 14, 15, 16, 17, 18, 19, 20, 21, 22, 23, 24, 25, 26, 27, 28, 29, 30, 31, 32, 34, 35, 36, 37, 38, 39, 40, 41], [0, 1, 3, 4, 5, 6, 7, 8, 9, 10, 11, 12, 13, 14, 15, 16, 17, 18, 19, 20, 21, 22, 23, 24, 25, 26, 27, 28, 29, 30, 31, 32, 34, 35, 36, 37, 38, 39, 40, 41, 42], [0, 1, 2, 3, 4, 5, 6, 7, 8, 9, 10, 11, 12, 13, 14, 15, 16, 17, 18, 19, 20, 21, 22, 23, 24, 25, 26, 27, 28, 29, 30, 31, 32, 33, 34, 35, 36, 37, 38, 39, 40, 41, 42, 43], [0, 1, 2, 3, 4, 5, 6, 7, 8, 9, 10, 11, 12, 13, 14, 15, 16, 17, 18, 19, 20, 21, 22, 23, 24, 25, 26, 27, 28, 29, 30, 31, 32, 33, 34, 35, 36, 37, 38, 39, 40, 41, 42, 43, 44], [0, 1, 2, 3, 4, 5, 6, 7, 8, 9, 10, 11, 12, 13, 14, 15, 16, 17, 18, 19, 20, 21, 22, 23, 24, 25, 26, 27, 28, 29, 30, 31, 32, 33, 34, 35, 36, 37, 38, 39, 40, 41, 42, 43, 44, 45], [0, 1, 2, 3, 4, 5, 6, 7, 8, 9, 10, 11, 12, 13, 14, 15, 16, 17, 18, 19, 20, 21, 22, 23, 24, 25, 26, 27, 28, 29, 30, 31, 32, 33, 34, 35, 36, 37, 38, 39, 40, 41, 42, 43, 44, 45, 46], [0, 1, 2, 3, 4, 5, 6, 7, 8, 9, 10, 11, 12, 13, 14, 15, 16, 17, 18, 19, 20, 21, 22, 23, 24, 25, 26, 27, 28, 29, 30, 31, 32, 33, 34, 35, 36, 37, 38, 39, 40, 41, 42, 43, 44, 45, 46, 47]] j) (fun hc => absurd rfl hc.1) (ZF (fun hc => absurd (ZA.1 rfl) hc.2) (fun _ _ h => h)) j ⟨hj, hn⟩
   ·
    intro val fl w1 a hb hfi ha hd hfl;obtain ⟨hgb, hz0_⟩ := hb;have e42 : val 42 = _ := hd 42 (ZA.1 rfl);have ha := ha.s1 (d := 119) rfl e42;obtain ⟨ht0_, hp0_⟩ := hd 38 (ZA.1 rfl);refine ZY ha rfl rfl rfl (hp0_ hfi) sz_3 rfl rfl rfl rfl ?_;intro w' hq hgr;refine ⟨undef, rfl, hgr.size, ⟨YB hgb hgr, fun h => by rw [Z2 rfl, ht0_] at h; cases h⟩, ⟨ZR, hq⟩, fun j _ hj hn hA => ?_⟩
    exact ZF (C := fun j => j ≠ 43 ∧ 43 ∉ clsAt [[], [], [], [], [3], [3, 4], [3, 4, 5], [3, 4, 5, 6], [3, 4, 5, 6, 7], [], [9], [9, 10], [9, 10, 11], [9, 10, 11, 12], [3, 4, 5, 6, 7, 8, 9, 10, 11, 12, 13], [], [15], [15, 16], [15, 16, 17], [15, 16, 17, 18], [15, 16, 17, 18, 19], [3, 4, 5, 6, 7, 8, 9, 10, 11, 12, 13, 14, 15, 16, 17, 18, 19, 20], [], [22], [22, 23], [22, 23, 24], [22, 23, 24, 25], [22, 23, 24, 25, 26], [], [28], [28, 29], [28, 29, 30], [28, 29, 30, 31], [22, 23, 24, 25, 26, 27, 28, 29, 30, 31, 32], [0, 3, 4, 5, 6, 7, 8, 9, 10, 11, 12, 13, 14, 15, 16, 17, 18, 19, 20, 21, 22, 23, 24, 25, 26, 27, 28, 29, 30, 31, 32], [0, 3, 4, 5, 6, 7, 8, 9, 10, 11, 12, 13, 14, 15, 16, 17, 18, 19, 20, 21, 22, 23, 24, 25, 26, 27, 28, 29, 30, 31, 32, 34], [0, 3, 4, 5, 6, 7, 8, 9, 10, 11, 12, 13, 14, 15, 16, 17, 18, 19, 20, 21, 22, 23, 24, 25, 26, 27, 28, 29, 30, 31, 32, 34, 35], [0, 3, 4, 5, 6, 7, 8, 9, 10, 11, 12, 13, 14, 15, 16, 17, 18, 19, 20, 21, 22, 23, 24, 25, 26, 27, 28, 29, 30, 31, 32, 34, 35, 36], [0, 3, 4, 5, 6, 7, 8, 9, 10, 11, 12, 13, 14, 15, 16, 17, 18, 19, 20, 21, 22, 23, 24, 25, 26, 27, 28, 29, 30, 31, 32, 34, 35, 36, 37], [0, 1, 3, 4, 5, 6, 7, 8, 9, 10, 11, 12, 13, 14, 15, 16, 17, 18, 19, 20, 21, 22, 23, 24, 25, 26, 27, 28, 29, 30, 31, 32, 34, 35, 36, 37, 38], [0, 1, 3, 4, 5, 6, 7, 8, 9, 10, 11, 12, 13, 14, 15, 16, 17, 18, 19, 20, 21, 22, 23, 24, 25, 26, 27, 28, 29, 30, 31, 32, 34, 35, 36, 37, 38, 39], [0, 1, 3, 4, 5, 6, 7, 8, 9, 10, 11, 12, 13, 14, 15, 16, 17, 18, 19, 20, 21, 22, 23, 24, 25, 26, 27, 28, 29, 30, 31, 32, 34, 35, 36, 37, 38, 39, 40], [0, 1, 3, 4, 5, 6, 7, 8, 9, 10, 11, 12, 13, 14, 15, 16, 17, 18, 19, 20, 21, 22, 23, 24, 25, 26, 27, 28, 29, 30, 31, 32, 34, 35, 36, 37, 38, 39, 40, 41], [0, 1, 3, 4, 5, 6, 7, 8, 9, 10, 11, 12, 13, 14, 15, 16, 17, 18, 19, 20, 21, 22, 23, 24, 25, 26, 27, 28, 29, 30, 31, 32, 34, 35, 36, 37, 38, 39, 40, 41, 42], [0, 1, 2, 3, 4, 5, 6, 7, 8, 9, 10, 11, 12, 13, 14, 15, 16, 17, 18, 19, 20, 21, 22, 23, 24, 25, 26, 27, 28, 29, 30, 31, 32, 33, 34, 35, 36, 37, 38, 39, 40, 41, 42, 43], [0, 1, 2, 3, 4, 5, 6, 7, 8, 9, 10, 11, 12, 13, 14, 15, 16, 17, 18, 19, 20, 21, 22, 23, 24, 25, 26, 27, 28, 29, 30, 31, 32, 33, 34, 35, 36, 37, 38, 39, 40, 41, 42, 43, 44], [0, 1, 2, 3, 4, 5, 6, 7, 8, 9, 10, 11, 12, 13, 14, 15, 16, 17, 18, 19, 20, 21, 22, 23, 24, 25, 26, 27, 28, 29, 30, 31, 32, 33, 34, 35, 36, 37, 38, 39, 40, 41, 42, 43, 44, 45], [0, 1, 2, 3, 4, 5, 6, 7, 8, 9, 10, 11, 12, 13, 14, 15, 16, 17, 18, 19, 20, 21, 22, 23, 24, 25, 26, 27, 28, 29, 30, 31, 32, 33, 34, 35, 36, 37, 38, 39, 40, 41, 42, 43, 44, 45, 46], [0, 1, 2, 3, 4, 5, 6, 7, 8, 9, 10, 11, 12, 13, 14, 15, 16, 17, 18, 19, 20, 21, 22, 23, 24, 25, 26, 27, 28, 29, 30, 31, 32, 33, 34, 35, 36, 37, 38, 39, 40, 41, 42, 43, 44, 45, 46, 47]] j) (fun _ ⟨h1, _⟩ => ⟨by rw [Z2 rfl]; exact h1, fun h => by rw [ZR] at h; cases h⟩) (ZF (fun hc => absurd rfl hc.1) (fun _ _ h => h)) j ⟨hj, hn⟩
  ·intro val fl wR4 hfl hb halc hd
   obtain ⟨hgb, _⟩ := hb;have hz_ := (hd 43 (by omega)).2
   change Blk wR4 g 114 #[.int .i64 le, .int .i64 cy, .int .i64 tu, .int .i64 fi, .int .i64 sa, .bool false, .int .i64 ((up - fi) + ba), .int .i64 lo, .int .i64 ch, .int .i64 0, .int .i64 (mv + 1), .int .i64 fr, .int .i64 (t0 : Nat), .int .i64 (t1 : Nat), .int .i64 co] at hz_;have e0 : val 0 = _ := hd 0 (by omega)
   have e1 : val 1 = _ := hd 1 (by omega)
   have e2 : val 2 = _ := hd 2 (by omega)
   have e3 : val 3 = _ := hd 3 (by omega)
   have e4 : val 4 = _ := hd 4 (by omega)
   have e5 : val 5 = _ := hd 5 (by omega)
   have e6 : val 6 = _ := hd 6 (by omega)
   have e7 : val 7 = _ := hd 7 (by omega)
   have e8 : val 8 = _ := hd 8 (by omega)
   have e9 : val 9 = _ := hd 9 (by omega)
   have e10 : val 10 = _ := hd 10 (by omega)
   have e11 : val 11 = _ := hd 11 (by omega)
   have e12 : val 12 = _ := hd 12 (by omega)
   have e13 : val 13 = _ := hd 13 (by omega)
   have e14 : val 14 = _ := hd 14 (by omega)
   have e15 : val 15 = _ := hd 15 (by omega)
   have e16 : val 16 = _ := hd 16 (by omega)
   have e17 : val 17 = _ := hd 17 (by omega)
   have e18 : val 18 = _ := hd 18 (by omega)
   have e19 : val 19 = _ := hd 19 (by omega)
   have e20 : val 20 = _ := hd 20 (by omega)
   have e21 : val 21 = _ := hd 21 (by omega)
   have e22 : val 22 = _ := hd 22 (by omega)
   have e23 : val 23 = _ := hd 23 (by omega)
   have e24 : val 24 = _ := hd 24 (by omega)
   have e25 : val 25 = _ := hd 25 (by omega)
   have e26 : val 26 = _ := hd 26 (by omega)
   have e27 : val 27 = _ := hd 27 (by omega)
   have e28 : val 28 = _ := hd 28 (by omega)
   have e29 : val 29 = _ := hd 29 (by omega)
   have e30 : val 30 = _ := hd 30 (by omega)
   have e31 : val 31 = _ := hd 31 (by omega)
   have e32 : val 32 = _ := hd 32 (by omega)
   have e33 : val 33 = _ := hd 33 (by omega)
   have e34 : val 34 = _ := hd 34 (by omega)
   have e35 : val 35 = _ := hd 35 (by omega)
   have e36 : val 36 = _ := hd 36 (by omega)
   have e37 : val 37 = _ := hd 37 (by omega)
   have e39 : val 39 = _ := hd 39 (by omega)
   have e40 : val 40 = _ := hd 40 (by omega)
   have e41 : val 41 = _ := hd 41 (by omega)
   have e42 : val 42 = _ := hd 42 (by omega)
   refine EL.ends (cs := [_, _, _, _, _, _, _, _, _, _, _, _, _, _, _, _, _, _, _, _, _, _, _, _, _, _, _, _, _, _, _, _, _, _, _, _, _, _, val 38, _, _, _, _, val 43]) ⟨e0, e1, e2, e3, e4, e5, e6, e7, e8, e9, e10, e11, e12, e13, e14, e15, e16, e17, e18, e19, e20, e21, e22, e23, e24, e25, e26, e27, e28, e29, e30, e31, e32, e33, e34, e35, e36, e37, rfl, e39, e40, e41, e42, rfl, trivial⟩ rfl ?_;replace hgr := Zm hgr hgb;replace hq := hz_;clear hgb hz_;refine EL.val (ZH rfl) rfl (EL.val (ZW rfl) rfl (EL.val (Zf rfl) rfl (EL.val (QDk rfl) rfl (EL.store rfl rfl hq sz_3 rfl rfl rfl rfl ?_))));intro w2 hq2 hg2;replace hgr := Zm hgr hg2;replace hq := hq2;clear hg2 hq2;refine EL.nil (EX.seq (EC.region (EL.mv rfl rfl (EL.mv rfl rfl (EL.val (ZH rfl) rfl (EL.val (ZV rfl) rfl (EL.val (QA8 rfl) rfl (EL.val (ld_4 rfl (hq.at (j := 5) rfl)) rfl (EL.val (ZX rfl) rfl ?_)))))))));refine EL.val (ZH rfl) rfl (EL.val (ZV rfl) rfl (EL.val (QA8 rfl) rfl (EL.store rfl rfl hq sz_4 rfl rfl rfl rfl ?_)));intro w3 hq3 hg3;replace hgr := Zm hgr hg3;replace hq := hq3;clear hg3 hq3;refine EL.nil ?_
   exact EX.done' (res0 rfl) ⟨rfl, hq, hgr⟩
 ·
  refine EC.yes rfl (EC.seq ?_);refine EC.regionQ (by kernel_rfl) (by kernel_rfl) ?_
  refine EQ.mv rfl rfl ?_;refine EQ.val (fun _ hw => (ZH rfl)) rfl ?_
  refine EQ.val (fun _ hw => (ZV rfl)) rfl ?_
  refine EQ.val (fun _ hw => (QBu rfl)) rfl ?_
  refine EQ.val (fun _ hw => (ld_3 rfl (ZC hw (hq.at (j := 3) rfl)))) rfl ?_
  refine EQ.mv rfl rfl ?_;refine EQ.val (fun _ hw => (ZH rfl)) rfl ?_
  refine EQ.val (fun _ hw => (ZV rfl)) rfl ?_
  refine EQ.val (fun _ hw => (QH_ rfl)) rfl ?_
  refine EQ.val (fun _ hw => (ld_3 rfl (ZC hw (hq.at (j := 4) rfl)))) rfl ?_
  refine EQ.val (fun _ hw => (QAY rfl rfl (IntWalk.i64_in _ ⟨by omega, by omega⟩))) rfl ?_
  refine EQ.val (fun _ hw => (QLp rfl rfl (by decide) (IntWalk.i64_in _ ⟨by omega, by omega⟩))) rfl ?_
  refine EQ.val (fun _ hw => (ZZ rfl)) rfl ?_
  refine EQ.fin (fun w4 hw_ => ?_)
  replace hq := hq.bl hw_;replace hgr := YX hgr hw_;clear hw_;refine EX.seq ?_;refine EC.regionS [[], [], [], [], [3], [3, 4], [3, 4, 5], [3, 4, 5, 6], [3, 4, 5, 6, 7], [], [9], [9, 10], [9, 10, 11], [9, 10, 11, 12], [3, 4, 5, 6, 7, 8, 9, 10, 11, 12, 13], [], [3, 4, 5, 6, 7, 8, 9, 10, 11, 12, 13, 14, 15], [], [17], [17, 18], [17, 18, 19], [17, 18, 19, 20], [17, 18, 19, 20, 21], [], [17, 18, 19, 20, 21, 22, 23], [], [25], [25, 26], [25, 26, 27], [25, 26, 27, 28], [25, 26, 27, 28, 29], [], [31], [31, 32], [31, 32, 33], [31, 32, 33, 34], [25, 26, 27, 28, 29, 30, 31, 32, 33, 34, 35], [0, 3, 4, 5, 6, 7, 8, 9, 10, 11, 12, 13, 14, 15, 16, 17, 18, 19, 20, 21, 22, 25, 26, 27, 28, 29, 30, 31, 32, 33, 34, 35], [0, 3, 4, 5, 6, 7, 8, 9, 10, 11, 12, 13, 14, 15, 16, 17, 18, 19, 20, 21, 22, 25, 26, 27, 28, 29, 30, 31, 32, 33, 34, 35, 37], [0, 3, 4, 5, 6, 7, 8, 9, 10, 11, 12, 13, 14, 15, 16, 17, 18, 19, 20, 21, 22, 25, 26, 27, 28, 29, 30, 31, 32, 33, 34, 35, 37, 38], [0, 3, 4, 5, 6, 7, 8, 9, 10, 11, 12, 13, 14, 15, 16, 17, 18, 19, 20, 21, 22, 25, 26, 27, 28, 29, 30, 31, 32, 33, 34, 35, 37, 38, 39], [0, 3, 4, 5, 6, 7, 8, 9, 10, 11, 12, 13, 14, 15, 16, 17, 18, 19, 20, 21, 22, 25, 26, 27, 28, 29, 30, 31, 32, 33, 34, 35, 37, 38, 39, 40], [0, 1, 3, 4, 5, 6, 7, 8, 9, 10, 11, 12, 13, 14, 15, 16, 17, 18, 19, 20, 21, 22, 23, 24, 25, 26, 27, 28, 29, 30, 31, 32, 33, 34, 35, 37, 38, 39, 40, 41], [0, 1, 3, 4, 5, 6, 7, 8, 9, 10, 11, 12, 13, 14, 15, 16, 17, 18, 19, 20, 21, 22, 23, 24, 25, 26, 27, 28, 29, 30, 31, 32, 33, 34, 35, 37, 38, 39, 40, 41, 42], [0, 1, 3, 4, 5, 6, 7, 8, 9, 10, 11, 12, 13, 14, 15, 16, 17, 18, 19, 20, 21, 22, 23, 24, 25, 26, 27, 28, 29, 30, 31, 32, 33, 34, 35, 37, 38, 39, 40, 41, 42, 43], [0, 1, 3, 4, 5, 6, 7, 8, 9, 10, 11, 12, 13, 14, 15, 16, 17, 18, 19, 20, 21, 22, 23, 24, 25, 26, 27, 28, 29, 30, 31, 32, 33, 34, 35, 37, 38, 39, 40, 41, 42, 43, 44], [0, 1, 3, 4, 5, 6, 7, 8, 9, 10, 11, 12, 13, 14, 15, 16, 17, 18, 19, 20, 21, 22, 23, 24, 25, 26, 27, 28, 29, 30, 31, 32, 33, 34, 35, 37, 38, 39, 40, 41, 42, 43, 44, 45], [0, 1, 2, 3, 4, 5, 6, 7, 8, 9, 10, 11, 12, 13, 14, 15, 16, 17, 18, 19, 20, 21, 22, 23, 24, 25, 26, 27, 28, 29, 30, 31, 32, 33, 34, 35, 36, 37, 38, 39, 40, 41, 42, 43, 44, 45, 46], [0, 1, 2, 3, 4, 5, 6, 7, 8, 9, 10, 11, 12, 13, 14, 15, 16, 17, 18, 19, 20, 21, 22, 23, 24, 25, 26, 27, 28, 29, 30, 31, 32, 33, 34, 35, 36, 37, 38, 39, 40, 41, 42, 43, 44, 45, 46, 47], [0, 1, 2, 3, 4, 5, 6, 7, 8, 9, 10, 11, 12, 13, 14, 15, 16, 17, 18, 19, 20, 21, 22, 23, 24, 25, 26, 27, 28, 29, 30, 31, 32, 33, 34, 35, 36, 37, 38, 39, 40, 41, 42, 43, 44, 45, 46, 47, 48], [0, 1, 2, 3, 4, 5, 6, 7, 8, 9, 10, 11, 12, 13, 14, 15, 16, 17, 18, 19, 20, 21, 22, 23, 24, 25, 26, 27, 28, 29, 30, 31, 32, 33, 34, 35, 36, 37, 38, 39, 40, 41, 42, 43, 44, 45, 46, 47, 48, 49], [0, 1, 2, 3, 4, 5, 6, 7, 8, 9, 10, 11, 12, 13, 14, 15, 16, 17, 18, 19, 20, 21, 22, 23, 24, 25, 26, 27, 28, 29, 30, 31, 32, 33, 34, 35, 36, 37, 38, 39, 40, 41, 42, 43, 44, 45, 46, 47, 48, 49, 50]] 47 [] [41, 46] (fun fl w_ => w4.grownBy w_ (some g) ∧ (fl 41 = false → Blk w_ g 114 #[.int .i64 le, .int .i64 cy, .int .i64 tu, .int .i64 fi, .int .i64 sa, .bool true, .int .i64 up, .int .i64 lo, .int .i64 ch, .int .i64 ba, .int .i64 (mv + 1), .int .i64 fr, .int .i64 (t0 : Nat), .int .i64 (t1 : Nat), .int .i64 co])) (phiS (fun i_ r => match i_ with | 0 => r 0 = .pointer (some ⟨g, 0, none⟩) | 1 => r 1 = .pointer (some ⟨g, 0, none⟩) | 2 => r 2 = .pointer (some ⟨g, 0, none⟩) | 3 => r 3 = .pointer (some ⟨g, 0, none⟩) | 4 => r 4 = .pointer (some ⟨g, 0, none⟩) | 5 => r 5 = .pointer (some ⟨g, 6, none⟩) | 6 => r 6 = .pointer (some ⟨g, 6, none⟩) | 7 => r 7 = .pointer (some ⟨g, 6 + 1, none⟩) | 8 => r 8 = .int .i64 lo | 9 => r 9 = .pointer (some ⟨g, 0, none⟩) | 10 => r 10 = .pointer (some ⟨g, 0, none⟩) | 11 => r 11 = .pointer (some ⟨g, 0, none⟩) | 12 => r 12 = .pointer (some ⟨g, 3, none⟩) | 13 => r 13 = .int .i64 fi | 14 => r 14 = .int .i64 (lo + fi) | 15 => r 15 = .int .i64 ((fi * sa).tdiv 100) | 16 => r 16 = .int .i64 ((lo + fi) - ((fi * sa).tdiv 100)) | 17 => r 17 = .pointer (some ⟨g, 0, none⟩) | 18 => r 18 = .pointer (some ⟨g, 0, none⟩) | 19 => r 19 = .pointer (some ⟨g, 6, none⟩) | 20 => r 20 = .pointer (some ⟨g, 6, none⟩) | 21 => r 21 = .pointer (some ⟨g, 6 + 3, none⟩) | 22 => r 22 = .int .i64 ba | 23 => r 23 = .int .i64 ((fi * sa).tdiv 100) | 24 => r 24 = .int .i64 (ba + ((fi * sa).tdiv 100)) | 25 => r 25 = .pointer (some ⟨g, 0, none⟩) | 26 => r 26 = .pointer (some ⟨g, 0, none⟩) | 27 => r 27 = .pointer (some ⟨g, 6, none⟩) | 28 => r 28 = .pointer (some ⟨g, 6, none⟩) | 29 => r 29 = .pointer (some ⟨g, 6 + 2, none⟩) | 30 => r 30 = .int .i64 ch | 31 => r 31 = .pointer (some ⟨g, 0, none⟩) | 32 => r 32 = .pointer (some ⟨g, 0, none⟩) | 33 => r 33 = .pointer (some ⟨g, 0, none⟩) | 34 => r 34 = .pointer (some ⟨g, 3, none⟩) | 35 => r 35 = .int .i64 fi | 36 => r 36 = .int .i64 (ch - fi) | 37 => r 37 = .pointer (some ⟨g, 0, none⟩) | 38 => r 38 = .pointer (some ⟨g, 6, none⟩) | 39 => r 39 = .pointer (some ⟨g, 6, none⟩) | 40 => r 40 = .pointer (some ⟨g, 6 + 1, none⟩) | 42 => r 42 = .pointer (some ⟨g, 0, none⟩) | 43 => r 43 = .pointer (some ⟨g, 6, none⟩) | 44 => r 44 = .pointer (some ⟨g, 6, none⟩) | 45 => r 45 = .pointer (some ⟨g, 6 + 3, none⟩) | _ => True) [(41, fun fl _ w_ => fl 41 = true ∧ (fl 46 = false → Blk w_ g 114 #[.int .i64 le, .int .i64 cy, .int .i64 tu, .int .i64 fi, .int .i64 sa, .bool true, .int .i64 up, .int .i64 ((lo + fi) - ((fi * sa).tdiv 100)), .int .i64 ch, .int .i64 ba, .int .i64 (mv + 1), .int .i64 fr, .int .i64 (t0 : Nat), .int .i64 (t1 : Nat), .int .i64 co])), (46, fun fl _ w_ => fl 46 = true ∧ Blk w_ g 114 #[.int .i64 le, .int .i64 cy, .int .i64 tu, .int .i64 fi, .int .i64 sa, .bool true, .int .i64 up, .int .i64 ((lo + fi) - ((fi * sa).tdiv 100)), .int .i64 ch, .int .i64 (ba + ((fi * sa).tdiv 100)), .int .i64 (mv + 1), .int .i64 fr, .int .i64 (t0 : Nat), .int .i64 (t1 : Nat), .int .i64 co])]) (by kernel_rfl) rfl rfl (by intro i hi; simp at hi; rcases hi with rfl | rfl <;> exact ⟨by simp, by omega⟩) (Yy hq) (ZL (fun _ _ _ _ hb ⟨h1, h2⟩ => ⟨h1, fun h => (h2 h).below hb (h2 h).lt⟩) (ZL (fun _ _ _ _ hb ⟨h1, h2⟩ => ⟨h1, h2.below hb h2.lt⟩) (Zd))) (fun i_ hi_ hs_ => ?_) (fun i_ hi_ => ?_) ?_
  ·match i_, hi_ with
   | 0, _ =>
    intro val fl w1 a hb ha hd hfl;obtain ⟨hgb, hz0_⟩ := hb;have ha := ha.s0 (d := 0) rfl
    exact ZD ha rfl rfl (x_move rfl) rfl rfl
   | 1, _ =>
    intro val fl w1 a hb ha hd hfl;obtain ⟨hgb, hz0_⟩ := hb;have ha := ha.s0 (d := 0) rfl
    exact ZD ha rfl rfl (x_move rfl) rfl rfl
   | 2, _ =>
    intro val fl w1 a hb ha hd hfl;obtain ⟨hgb, hz0_⟩ := hb;have ha := ha.s0 (d := 0) rfl
    exact ZD ha rfl rfl (x_move rfl) rfl rfl
   | 3, _ =>
    intro val fl w1 a hb ha hd hfl;obtain ⟨hgb, hz0_⟩ := hb;have ha := ha.s0 (d := 0) rfl
    exact ZD ha rfl rfl (x_move rfl) rfl rfl
   | 4, _ =>
    intro val fl w1 a hb ha hd hfl;obtain ⟨hgb, hz0_⟩ := hb;have e3 : val 3 = _ := hd 3 (ZA.1 rfl);have ha := ha.s1 (d := 32) rfl e3
    exact ZD ha rfl rfl (ZH rfl) rfl rfl
   | 5, _ =>
    intro val fl w1 a hb ha hd hfl;obtain ⟨hgb, hz0_⟩ := hb;have e4 : val 4 = _ := hd 4 (ZA.1 rfl);have ha := ha.s1 (d := 33) rfl e4
    exact ZD ha rfl rfl (ZW rfl) rfl rfl
   | 6, _ =>
    intro val fl w1 a hb ha hd hfl;obtain ⟨hgb, hz0_⟩ := hb;have e5 : val 5 = _ := hd 5 (ZA.1 rfl);have ha := ha.s1 (d := 34) rfl e5
    exact ZD ha rfl rfl (Zf rfl) rfl rfl
   | 7, _ =>
    intro val fl w1 a hb ha hd hfl;obtain ⟨hgb, hz0_⟩ := hb;have e6 : val 6 = _ := hd 6 (ZA.1 rfl);have ha := ha.s1 (d := 35) rfl e6
    exact ZD ha rfl rfl (QBt rfl) rfl rfl
   | 8, _ =>
    intro val fl w1 a hb ha hd hfl;obtain ⟨hgb, hz0_⟩ := hb;have e7 : val 7 = _ := hd 7 (ZA.1 rfl);have ha := ha.s1 (d := 36) rfl e7
    exact ZD ha rfl rfl (ld_3 rfl ((hz0_ (hfl 41 (by simp) (ZA.1 rfl))).at (j := 7) rfl)) rfl rfl
   | 9, _ =>
    intro val fl w1 a hb ha hd hfl;obtain ⟨hgb, hz0_⟩ := hb;have ha := ha.s0 (d := 0) rfl
    exact ZD ha rfl rfl (x_move rfl) rfl rfl
   | 10, _ =>
    intro val fl w1 a hb ha hd hfl;obtain ⟨hgb, hz0_⟩ := hb;have e9 : val 9 = _ := hd 9 (ZA.1 rfl);have ha := ha.s1 (d := 38) rfl e9
    exact ZD ha rfl rfl (ZH rfl) rfl rfl
   | 11, _ =>
    intro val fl w1 a hb ha hd hfl;obtain ⟨hgb, hz0_⟩ := hb;have e10 : val 10 = _ := hd 10 (ZA.1 rfl);have ha := ha.s1 (d := 39) rfl e10
    exact ZD ha rfl rfl (ZV rfl) rfl rfl
   | 12, _ =>
    intro val fl w1 a hb ha hd hfl;obtain ⟨hgb, hz0_⟩ := hb;have e11 : val 11 = _ := hd 11 (ZA.1 rfl);have ha := ha.s1 (d := 40) rfl e11
    exact ZD ha rfl rfl (QBu rfl) rfl rfl
   | 13, _ =>
    intro val fl w1 a hb ha hd hfl;obtain ⟨hgb, hz0_⟩ := hb;have e12 : val 12 = _ := hd 12 (ZA.1 rfl);have ha := ha.s1 (d := 41) rfl e12
    exact ZD ha rfl rfl (ld_3 rfl ((hz0_ (hfl 41 (by simp) (ZA.1 rfl))).at (j := 3) rfl)) rfl rfl
   | 14, _ =>
    intro val fl w1 a hb ha hd hfl;obtain ⟨hgb, hz0_⟩ := hb;have e8 : val 8 = _ := hd 8 (ZA.1 rfl);have e13 : val 13 = _ := hd 13 (ZA.1 rfl);have ha := ha.s2 (d := 42) (e := 37) rfl e13 rfl e8
    exact ZD ha rfl rfl (x_add rfl rfl (by first | assumption | exact IntWalk.i64_in _ ⟨by omega, by omega⟩)) rfl rfl
   | 15, _ =>
    intro val fl w1 a hb ha hd hfl;obtain ⟨hgb, hz0_⟩ := hb;have ha := ha.s0 (d := 2) rfl
    exact ZD ha rfl rfl (x_move rfl) rfl rfl
   | 16, _ =>
    intro val fl w1 a hb ha hd hfl;obtain ⟨hgb, hz0_⟩ := hb;have e14 : val 14 = _ := hd 14 (ZA.1 rfl);have e15 : val 15 = _ := hd 15 (ZA.1 rfl);have ha := ha.s2 (d := 44) (e := 43) rfl e15 rfl e14
    exact ZD ha rfl rfl (Z_ rfl rfl (by first | assumption | exact IntWalk.i64_in _ ⟨by omega, by omega⟩)) rfl rfl
   | 17, _ =>
    intro val fl w1 a hb ha hd hfl;obtain ⟨hgb, hz0_⟩ := hb;have ha := ha.s0 (d := 0) rfl
    exact ZD ha rfl rfl (x_move rfl) rfl rfl
   | 18, _ =>
    intro val fl w1 a hb ha hd hfl;obtain ⟨hgb, hz0_⟩ := hb;have e17 : val 17 = _ := hd 17 (ZA.1 rfl);have ha := ha.s1 (d := 46) rfl e17
    exact ZD ha rfl rfl (ZH rfl) rfl rfl
   | 19, _ =>
    intro val fl w1 a hb ha hd hfl;obtain ⟨hgb, hz0_⟩ := hb;have e18 : val 18 = _ := hd 18 (ZA.1 rfl);have ha := ha.s1 (d := 47) rfl e18
    exact ZD ha rfl rfl (ZW rfl) rfl rfl
   | 20, _ =>
    intro val fl w1 a hb ha hd hfl;obtain ⟨hgb, hz0_⟩ := hb;have e19 : val 19 = _ := hd 19 (ZA.1 rfl);have ha := ha.s1 (d := 48) rfl e19
    exact ZD ha rfl rfl (Zf rfl) rfl rfl
   | 21, _ =>
    intro val fl w1 a hb ha hd hfl;obtain ⟨hgb, hz0_⟩ := hb;have e20 : val 20 = _ := hd 20 (ZA.1 rfl);have ha := ha.s1 (d := 49) rfl e20
    exact ZD ha rfl rfl (QDj rfl) rfl rfl
   | 22, _ =>
    intro val fl w1 a hb ha hd hfl;obtain ⟨hgb, hz0_⟩ := hb;have e21 : val 21 = _ := hd 21 (ZA.1 rfl);have ha := ha.s1 (d := 50) rfl e21
    exact ZD ha rfl rfl (ld_3 rfl ((hz0_ (hfl 41 (by simp) (ZA.1 rfl))).at (j := 9) rfl)) rfl rfl
   | 23, _ =>
    intro val fl w1 a hb ha hd hfl;obtain ⟨hgb, hz0_⟩ := hb;have ha := ha.s0 (d := 2) rfl
    exact ZD ha rfl rfl (x_move rfl) rfl rfl
   | 24, _ =>
    intro val fl w1 a hb ha hd hfl;obtain ⟨hgb, hz0_⟩ := hb;have e22 : val 22 = _ := hd 22 (ZA.1 rfl);have e23 : val 23 = _ := hd 23 (ZA.1 rfl);have ha := ha.s2 (d := 52) (e := 51) rfl e23 rfl e22
    exact ZD ha rfl rfl (x_add rfl rfl (by first | assumption | exact IntWalk.i64_in _ ⟨by omega, by omega⟩)) rfl rfl
   | 25, _ =>
    intro val fl w1 a hb ha hd hfl;obtain ⟨hgb, hz0_⟩ := hb;have ha := ha.s0 (d := 0) rfl
    exact ZD ha rfl rfl (x_move rfl) rfl rfl
   | 26, _ =>
    intro val fl w1 a hb ha hd hfl;obtain ⟨hgb, hz0_⟩ := hb;have e25 : val 25 = _ := hd 25 (ZA.1 rfl);have ha := ha.s1 (d := 54) rfl e25
    exact ZD ha rfl rfl (ZH rfl) rfl rfl
   | 27, _ =>
    intro val fl w1 a hb ha hd hfl;obtain ⟨hgb, hz0_⟩ := hb;have e26 : val 26 = _ := hd 26 (ZA.1 rfl);have ha := ha.s1 (d := 55) rfl e26
    exact ZD ha rfl rfl (ZW rfl) rfl rfl
   | 28, _ =>
    intro val fl w1 a hb ha hd hfl;obtain ⟨hgb, hz0_⟩ := hb;have e27 : val 27 = _ := hd 27 (ZA.1 rfl);have ha := ha.s1 (d := 56) rfl e27
    exact ZD ha rfl rfl (Zf rfl) rfl rfl
   | 29, _ =>
    intro val fl w1 a hb ha hd hfl;obtain ⟨hgb, hz0_⟩ := hb;have e28 : val 28 = _ := hd 28 (ZA.1 rfl);have ha := ha.s1 (d := 57) rfl e28
    exact ZD ha rfl rfl (QDk rfl) rfl rfl
   | 30, _ =>
    intro val fl w1 a hb ha hd hfl;obtain ⟨hgb, hz0_⟩ := hb;have e29 : val 29 = _ := hd 29 (ZA.1 rfl);have ha := ha.s1 (d := 58) rfl e29
    exact ZD ha rfl rfl (ld_3 rfl ((hz0_ (hfl 41 (by simp) (ZA.1 rfl))).at (j := 8) rfl)) rfl rfl
   | 31, _ =>
    intro val fl w1 a hb ha hd hfl;obtain ⟨hgb, hz0_⟩ := hb;have ha := ha.s0 (d := 0) rfl
    exact ZD ha rfl rfl (x_move rfl) rfl rfl
   | 32, _ =>
    intro val fl w1 a hb ha hd hfl;obtain ⟨hgb, hz0_⟩ := hb;have e31 : val 31 = _ := hd 31 (ZA.1 rfl);have ha := ha.s1 (d := 60) rfl e31
    exact ZD ha rfl rfl (ZH rfl) rfl rfl
   | 33, _ =>
    intro val fl w1 a hb ha hd hfl;obtain ⟨hgb, hz0_⟩ := hb;have e32 : val 32 = _ := hd 32 (ZA.1 rfl);have ha := ha.s1 (d := 61) rfl e32
    exact ZD ha rfl rfl (ZV rfl) rfl rfl
   | 34, _ =>
    intro val fl w1 a hb ha hd hfl;obtain ⟨hgb, hz0_⟩ := hb;have e33 : val 33 = _ := hd 33 (ZA.1 rfl);have ha := ha.s1 (d := 62) rfl e33
    exact ZD ha rfl rfl (QBu rfl) rfl rfl
   | 35, _ =>
    intro val fl w1 a hb ha hd hfl;obtain ⟨hgb, hz0_⟩ := hb;have e34 : val 34 = _ := hd 34 (ZA.1 rfl);have ha := ha.s1 (d := 63) rfl e34
    exact ZD ha rfl rfl (ld_3 rfl ((hz0_ (hfl 41 (by simp) (ZA.1 rfl))).at (j := 3) rfl)) rfl rfl
   | 36, _ =>
    intro val fl w1 a hb ha hd hfl;obtain ⟨hgb, hz0_⟩ := hb;have e30 : val 30 = _ := hd 30 (ZA.1 rfl);have e35 : val 35 = _ := hd 35 (ZA.1 rfl);have ha := ha.s2 (d := 64) (e := 59) rfl e35 rfl e30
    exact ZD ha rfl rfl (Z_ rfl rfl (by first | assumption | exact IntWalk.i64_in _ ⟨by omega, by omega⟩)) rfl rfl
   | 37, _ =>
    intro val fl w1 a hb ha hd hfl;obtain ⟨hgb, hz0_⟩ := hb;have e0 : val 0 = _ := hd 0 (ZA.1 rfl);have ha := ha.s1 (d := 29) rfl e0
    exact ZD ha rfl rfl (ZH rfl) rfl rfl
   | 38, _ =>
    intro val fl w1 a hb ha hd hfl;obtain ⟨hgb, hz0_⟩ := hb;have e37 : val 37 = _ := hd 37 (ZA.1 rfl);have ha := ha.s1 (d := 66) rfl e37
    exact ZD ha rfl rfl (ZW rfl) rfl rfl
   | 39, _ =>
    intro val fl w1 a hb ha hd hfl;obtain ⟨hgb, hz0_⟩ := hb;have e38 : val 38 = _ := hd 38 (ZA.1 rfl);have ha := ha.s1 (d := 67) rfl e38
    exact ZD ha rfl rfl (Zf rfl) rfl rfl
   | 40, _ =>
    intro val fl w1 a hb ha hd hfl;obtain ⟨hgb, hz0_⟩ := hb;have e39 : val 39 = _ := hd 39 (ZA.1 rfl);have ha := ha.s1 (d := 68) rfl e39
    exact ZD ha rfl rfl (QBt rfl) rfl rfl
   | 41, _ =>
    exact absurd (by simp) hs_
   | 42, _ =>
    intro val fl w1 a hb ha hd hfl;obtain ⟨hgb, hz0_⟩ := hb;have e1 : val 1 = _ := hd 1 (ZA.1 rfl);have ha := ha.s1 (d := 30) rfl e1
    exact ZD ha rfl rfl (ZH rfl) rfl rfl
   | 43, _ =>
    intro val fl w1 a hb ha hd hfl;obtain ⟨hgb, hz0_⟩ := hb;have e42 : val 42 = _ := hd 42 (ZA.1 rfl);have ha := ha.s1 (d := 70) rfl e42
    exact ZD ha rfl rfl (ZW rfl) rfl rfl
   | 44, _ =>
    intro val fl w1 a hb ha hd hfl;obtain ⟨hgb, hz0_⟩ := hb;have e43 : val 43 = _ := hd 43 (ZA.1 rfl);have ha := ha.s1 (d := 71) rfl e43
    exact ZD ha rfl rfl (Zf rfl) rfl rfl
   | 45, _ =>
    intro val fl w1 a hb ha hd hfl;obtain ⟨hgb, hz0_⟩ := hb;have e44 : val 44 = _ := hd 44 (ZA.1 rfl);have ha := ha.s1 (d := 72) rfl e44
    exact ZD ha rfl rfl (QDj rfl) rfl rfl
   | 46, _ =>
    exact absurd (by simp) hs_
   | k + 47, h => exact absurd h (by omega)
  ·simp only [List.mem_cons, List.not_mem_nil, or_false] at hi_
   rcases hi_ with rfl | rfl
   ·
    intro val fl w1 a hb hfi ha hd hfl;obtain ⟨hgb, hz0_⟩ := hb;have e40 : val 40 = _ := hd 40 (ZA.1 rfl);have e16 : val 16 = _ := hd 16 (ZA.1 rfl);have ha := ha.s2 (d := 45) (e := 69) rfl e16 rfl e40;refine ZY ha rfl rfl rfl (hz0_ hfi) sz_3 rfl rfl rfl rfl ?_;intro w' hq hgr;refine ⟨undef, rfl, hgr.size, ⟨YB hgb hgr, fun h => by rw [ZR] at h; cases h⟩, ⟨ZR, fun _ => hq⟩, fun j _ hj hn hA => ?_⟩
    exact ZF (C := fun j => j ≠ 41 ∧ 41 ∉ clsAt [[], [], [], [], [3], [3, 4], [3, 4, 5], [3, 4, 5, 6], [3, 4, 5, 6, 7], [], [9], [9, 10], [9, 10, 11], [9, 10, 11, 12], [3, 4, 5, 6, 7, 8, 9, 10, 11, 12, 13], [], [3, 4, 5, 6, 7, 8, 9, 10, 11, 12, 13, 14, 15], [], [17], [17, 18], [17, 18, 19], [17, 18, 19, 20], [17, 18, 19, 20, 21], [], [17, 18, 19, 20, 21, 22, 23], [], [25], [25, 26], [25, 26, 27], [25, 26, 27, 28], [25, 26, 27, 28, 29], [], [31], [31, 32], [31, 32, 33], [31, 32, 33, 34], [25, 26, 27, 28, 29, 30, 31, 32, 33, 34, 35], [0, 3, 4, 5, 6, 7, 8, 9, 10, 11, 12, 13, 14, 15, 16, 17, 18, 19, 20, 21, 22, 25, 26, 27, 28, 29, 30, 31, 32, 33, 34, 35], [0, 3, 4, 5, 6, 7, 8, 9, 10, 11, 12, 13, 14, 15, 16, 17, 18, 19, 20, 21, 22, 25, 26, 27, 28, 29, 30, 31, 32, 33, 34, 35, 37], [0, 3, 4, 5, 6, 7, 8, 9, 10, 11, 12, 13, 14, 15, 16, 17, 18, 19, 20, 21, 22, 25, 26, 27, 28, 29, 30, 31, 32, 33, 34, 35, 37, 38], [0, 3, 4, 5, 6, 7, 8, 9, 10, 11, 12, 13, 14, 15, 16, 17, 18, 19, 20, 21, 22, 25, 26, 27, 28, 29, 30, 31, 32, 33, 34, 35, 37, 38, 39], [0, 3, 4, 5, 6, 7, 8, 9, 10, 11, 12, 13, 14, 15, 16, 17, 18, 19, 20, 21, 22, 25, 26, 27, 28, 29, 30, 31, 32, 33, 34, 35, 37, 38, 39, 40], [0, 1, 3, 4, 5, 6, 7, 8, 9, 10, 11, 12, 13, 14, 15, 16, 17, 18, 19, 20, 21, 22, 23, 24, 25, 26, 27, 28, 29, 30, 31, 32, 33, 34, 35, 37, 38, 39, 40, 41], [0, 1, 3, 4, 5, 6, 7, 8, 9, 10, 11, 12, 13, 14, 15, 16, 17, 18, 19, 20, 21, 22, 23, 24, 25, 26, 27, 28, 29, 30, 31, 32, 33, 34, 35, 37, 38, 39, 40, 41, 42], [0, 1, 3, 4, 5, 6, 7, 8, 9, 10, 11, 12, 13, 14, 15, 16, 17, 18, 19, 20, 21, 22, 23, 24, 25, 26, 27, 28, 29, 30, 31, 32, 33, 34, 35, 37, 38, 39, 40, 41, 42, 43], [0, 1, 3, 4, 5, 6, 7, 8, 9, 10, 11, 12, 13, 14, 15, 16, 17, 18, 19, 20, 21, 22, 23, 24, 25, 26, 27, 28, 29, 30, 31, 32, 33, 34, 35, 37, 38, 39, 40, 41, 42, 43, 44], [0, 1, 3, 4, 5, 6, 7, 8, 9, 10, 11, 12, 13, 14, 15, 16, 17, 18, 19, 20, 21, 22, 23, 24, 25, 26, 27, 28, 29, 30, 31, 32, 33, 34, 35, 37, 38, 39, 40, 41, 42, 43, 44, 45], [0, 1, 2, 3, 4, 5, 6, 7, 8, 9, 10, 11, 12, 13, 14, 15, 16, 17, 18, 19, 20, 21, 22, 23, 24, 25, 26, 27, 28, 29, 30, 31, 32, 33, 34, 35, 36, 37, 38, 39, 40, 41, 42, 43, 44, 45, 46], [0, 1, 2, 3, 4, 5, 6, 7, 8, 9, 10, 11, 12, 13, 14, 15, 16, 17, 18, 19, 20, 21, 22, 23, 24, 25, 26, 27, 28, 29, 30, 31, 32, 33, 34, 35, 36, 37, 38, 39, 40, 41, 42, 43, 44, 45, 46, 47], [0, 1, 2, 3, 4, 5, 6, 7, 8, 9, 10, 11, 12, 13, 14, 15, 16, 17, 18, 19, 20, 21, 22, 23, 24, 25, 26, 27, 28, 29, 30, 31, 32, 33, 34, 35, 36, 37, 38, 39, 40, 41, 42, 43, 44, 45, 46, 47, 48], [0, 1, 2, 3, 4, 5, 6, 7, 8, 9, 10, 11, 12, 13, 14, 15, 16, 17, 18, 19, 20, 21, 22, 23, 24, 25, 26, 27, 28, 29, 30, 31, 32, 33, 34, 35, 36, 37, 38, 39, 40, 41, 42, 43, 44, 45, 46, 47, 48, 49], [0, 1, 2, 3, 4, 5, 6, 7, 8, 9, 10, 11, 12, 13, 14, 15, 16, 17, 18, 19, 20, 21, 22, 23, 24, 25, 26, 27, 28, 29, 30, 31, 32, 33, 34, 35, 36, 37, 38, 39, 40, 41, 42, 43, 44, 45, 46, 47, 48, 49, 50]] j) (fun hc => absurd rfl hc.1) (ZF (fun hc => absurd (ZA.1 rfl) hc.2) (fun _ _ h => h)) j ⟨hj, hn⟩
   ·
    intro val fl w1 a hb hfi ha hd hfl;obtain ⟨hgb, hz0_⟩ := hb;have e45 : val 45 = _ := hd 45 (ZA.1 rfl);have e24 : val 24 = _ := hd 24 (ZA.1 rfl);have ha := ha.s2 (d := 53) (e := 73) rfl e24 rfl e45;obtain ⟨ht0_, hp0_⟩ := hd 41 (ZA.1 rfl);refine ZY ha rfl rfl rfl (hp0_ hfi) sz_3 rfl rfl rfl rfl ?_;intro w' hq hgr;refine ⟨undef, rfl, hgr.size, ⟨YB hgb hgr, fun h => by rw [Z2 rfl, ht0_] at h; cases h⟩, ⟨ZR, hq⟩, fun j _ hj hn hA => ?_⟩
    exact ZF (C := fun j => j ≠ 46 ∧ 46 ∉ clsAt [[], [], [], [], [3], [3, 4], [3, 4, 5], [3, 4, 5, 6], [3, 4, 5, 6, 7], [], [9], [9, 10], [9, 10, 11], [9, 10, 11, 12], [3, 4, 5, 6, 7, 8, 9, 10, 11, 12, 13], [], [3, 4, 5, 6, 7, 8, 9, 10, 11, 12, 13, 14, 15], [], [17], [17, 18], [17, 18, 19], [17, 18, 19, 20], [17, 18, 19, 20, 21], [], [17, 18, 19, 20, 21, 22, 23], [], [25], [25, 26], [25, 26, 27], [25, 26, 27, 28], [25, 26, 27, 28, 29], [], [31], [31, 32], [31, 32, 33], [31, 32, 33, 34], [25, 26, 27, 28, 29, 30, 31, 32, 33, 34, 35], [0, 3, 4, 5, 6, 7, 8, 9, 10, 11, 12, 13, 14, 15, 16, 17, 18, 19, 20, 21, 22, 25, 26, 27, 28, 29, 30, 31, 32, 33, 34, 35], [0, 3, 4, 5, 6, 7, 8, 9, 10, 11, 12, 13, 14, 15, 16, 17, 18, 19, 20, 21, 22, 25, 26, 27, 28, 29, 30, 31, 32, 33, 34, 35, 37], [0, 3, 4, 5, 6, 7, 8, 9, 10, 11, 12, 13, 14, 15, 16, 17, 18, 19, 20, 21, 22, 25, 26, 27, 28, 29, 30, 31, 32, 33, 34, 35, 37, 38], [0, 3, 4, 5, 6, 7, 8, 9, 10, 11, 12, 13, 14, 15, 16, 17, 18, 19, 20, 21, 22, 25, 26, 27, 28, 29, 30, 31, 32, 33, 34, 35, 37, 38, 39], [0, 3, 4, 5, 6, 7, 8, 9, 10, 11, 12, 13, 14, 15, 16, 17, 18, 19, 20, 21, 22, 25, 26, 27, 28, 29, 30, 31, 32, 33, 34, 35, 37, 38, 39, 40], [0, 1, 3, 4, 5, 6, 7, 8, 9, 10, 11, 12, 13, 14, 15, 16, 17, 18, 19, 20, 21, 22, 23, 24, 25, 26, 27, 28, 29, 30, 31, 32, 33, 34, 35, 37, 38, 39, 40, 41], [0, 1, 3, 4, 5, 6, 7, 8, 9, 10, 11, 12, 13, 14, 15, 16, 17, 18, 19, 20, 21, 22, 23, 24, 25, 26, 27, 28, 29, 30, 31, 32, 33, 34, 35, 37, 38, 39, 40, 41, 42], [0, 1, 3, 4, 5, 6, 7, 8, 9, 10, 11, 12, 13, 14, 15, 16, 17, 18, 19, 20, 21, 22, 23, 24, 25, 26, 27, 28, 29, 30, 31, 32, 33, 34, 35, 37, 38, 39, 40, 41, 42, 43], [0, 1, 3, 4, 5, 6, 7, 8, 9, 10, 11, 12, 13, 14, 15, 16, 17, 18, 19, 20, 21, 22, 23, 24, 25, 26, 27, 28, 29, 30, 31, 32, 33, 34, 35, 37, 38, 39, 40, 41, 42, 43, 44], [0, 1, 3, 4, 5, 6, 7, 8, 9, 10, 11, 12, 13, 14, 15, 16, 17, 18, 19, 20, 21, 22, 23, 24, 25, 26, 27, 28, 29, 30, 31, 32, 33, 34, 35, 37, 38, 39, 40, 41, 42, 43, 44, 45], [0, 1, 2, 3, 4, 5, 6, 7, 8, 9, 10, 11, 12, 13, 14, 15, 16, 17, 18, 19, 20, 21, 22, 23, 24, 25, 26, 27, 28, 29, 30, 31, 32, 33, 34, 35, 36, 37, 38, 39, 40, 41, 42, 43, 44, 45, 46], [0, 1, 2, 3, 4, 5, 6, 7, 8, 9, 10, 11, 12, 13, 14, 15, 16, 17, 18, 19, 20, 21, 22, 23, 24, 25, 26, 27, 28, 29, 30, 31, 32, 33, 34, 35, 36, 37, 38, 39, 40, 41, 42, 43, 44, 45, 46, 47], [0, 1, 2, 3, 4, 5, 6, 7, 8, 9, 10, 11, 12, 13, 14, 15, 16, 17, 18, 19, 20, 21, 22, 23, 24, 25, 26, 27, 28, 29, 30, 31, 32, 33, 34, 35, 36, 37, 38, 39, 40, 41, 42, 43, 44, 45, 46, 47, 48], [0, 1, 2, 3, 4, 5, 6, 7, 8, 9, 10, 11, 12, 13, 14, 15, 16, 17, 18, 19, 20, 21, 22, 23, 24, 25, 26, 27, 28, 29, 30, 31, 32, 33, 34, 35, 36, 37, 38, 39, 40, 41, 42, 43, 44, 45, 46, 47, 48, 49], [0, 1, 2, 3, 4, 5, 6, 7, 8, 9, 10, 11, 12, 13, 14, 15, 16, 17, 18, 19, 20, 21, 22, 23, 24, 25, 26, 27, 28, 29, 30, 31, 32, 33, 34, 35, 36, 37, 38, 39, 40, 41, 42, 43, 44, 45, 46, 47, 48, 49, 50]] j) (fun _ ⟨h1, _⟩ => ⟨by rw [Z2 rfl]; exact h1, fun h => by rw [ZR] at h; cases h⟩) (ZF (fun hc => absurd rfl hc.1) (fun _ _ h => h)) j ⟨hj, hn⟩
  ·intro val fl wR3 hfl hb halc hd
   obtain ⟨hgb, _⟩ := hb;have hz_ := (hd 46 (by omega)).2
   change Blk wR3 g 114 #[.int .i64 le, .int .i64 cy, .int .i64 tu, .int .i64 fi, .int .i64 sa, .bool true, .int .i64 up, .int .i64 ((lo + fi) - ((fi * sa).tdiv 100)), .int .i64 ch, .int .i64 (ba + ((fi * sa).tdiv 100)), .int .i64 (mv + 1), .int .i64 fr, .int .i64 (t0 : Nat), .int .i64 (t1 : Nat), .int .i64 co] at hz_;have e0 : val 0 = _ := hd 0 (by omega)
   have e1 : val 1 = _ := hd 1 (by omega)
   have e2 : val 2 = _ := hd 2 (by omega)
   have e3 : val 3 = _ := hd 3 (by omega)
   have e4 : val 4 = _ := hd 4 (by omega)
   have e5 : val 5 = _ := hd 5 (by omega)
   have e6 : val 6 = _ := hd 6 (by omega)
   have e7 : val 7 = _ := hd 7 (by omega)
   have e8 : val 8 = _ := hd 8 (by omega)
   have e9 : val 9 = _ := hd 9 (by omega)
   have e10 : val 10 = _ := hd 10 (by omega)
   have e11 : val 11 = _ := hd 11 (by omega)
   have e12 : val 12 = _ := hd 12 (by omega)
   have e13 : val 13 = _ := hd 13 (by omega)
   have e14 : val 14 = _ := hd 14 (by omega)
   have e15 : val 15 = _ := hd 15 (by omega)
   have e16 : val 16 = _ := hd 16 (by omega)
   have e17 : val 17 = _ := hd 17 (by omega)
   have e18 : val 18 = _ := hd 18 (by omega)
   have e19 : val 19 = _ := hd 19 (by omega)
   have e20 : val 20 = _ := hd 20 (by omega)
   have e21 : val 21 = _ := hd 21 (by omega)
   have e22 : val 22 = _ := hd 22 (by omega)
   have e23 : val 23 = _ := hd 23 (by omega)
   have e24 : val 24 = _ := hd 24 (by omega)
   have e25 : val 25 = _ := hd 25 (by omega)
   have e26 : val 26 = _ := hd 26 (by omega)
   have e27 : val 27 = _ := hd 27 (by omega)
   have e28 : val 28 = _ := hd 28 (by omega)
   have e29 : val 29 = _ := hd 29 (by omega)
   have e30 : val 30 = _ := hd 30 (by omega)
   have e31 : val 31 = _ := hd 31 (by omega)
   have e32 : val 32 = _ := hd 32 (by omega)
   have e33 : val 33 = _ := hd 33 (by omega)
   have e34 : val 34 = _ := hd 34 (by omega)
   have e35 : val 35 = _ := hd 35 (by omega)
   have e36 : val 36 = _ := hd 36 (by omega)
   have e37 : val 37 = _ := hd 37 (by omega)
   have e38 : val 38 = _ := hd 38 (by omega)
   have e39 : val 39 = _ := hd 39 (by omega)
   have e40 : val 40 = _ := hd 40 (by omega)
   have e42 : val 42 = _ := hd 42 (by omega)
   have e43 : val 43 = _ := hd 43 (by omega)
   have e44 : val 44 = _ := hd 44 (by omega)
   have e45 : val 45 = _ := hd 45 (by omega)
   refine EL.ends (cs := [_, _, _, _, _, _, _, _, _, _, _, _, _, _, _, _, _, _, _, _, _, _, _, _, _, _, _, _, _, _, _, _, _, _, _, _, _, _, _, _, _, val 41, _, _, _, _, val 46]) ⟨e0, e1, e2, e3, e4, e5, e6, e7, e8, e9, e10, e11, e12, e13, e14, e15, e16, e17, e18, e19, e20, e21, e22, e23, e24, e25, e26, e27, e28, e29, e30, e31, e32, e33, e34, e35, e36, e37, e38, e39, e40, rfl, e42, e43, e44, e45, rfl, trivial⟩ rfl ?_;replace hgr := Zm hgr hgb;replace hq := hz_;clear hgb hz_;refine EL.val (ZH rfl) rfl (EL.val (ZW rfl) rfl (EL.val (Zf rfl) rfl (EL.val (QDk rfl) rfl (EL.store rfl rfl hq sz_3 rfl rfl rfl rfl ?_))));intro w5 hq5 hg5;replace hgr := Zm hgr hg5;replace hq := hq5;clear hg5 hq5;refine EL.nil (EX.seq (EC.region (EL.mv rfl rfl (EL.mv rfl rfl (EL.val (ZH rfl) rfl (EL.val (ZV rfl) rfl (EL.val (QA8 rfl) rfl (EL.val (ld_4 rfl (hq.at (j := 5) rfl)) rfl (EL.val (ZX rfl) rfl ?_)))))))));refine EL.val (ZH rfl) rfl (EL.val (ZV rfl) rfl (EL.val (QA8 rfl) rfl (EL.store rfl rfl hq sz_4 rfl rfl rfl rfl ?_)));intro w6 hq6 hg6;replace hgr := Zm hgr hg6;replace hq := hq6;clear hg6 hq6;refine EL.nil ?_
   exact EX.done' (res0 rfl) ⟨rfl, hq, hgr⟩
/-- l lies in ls from offset o on -/
def PartAt (ls : List Value) (o : Nat) (l : List Value) : Prop := ∀ j v, l[j]? = some v → ls[o + j]? = some v
theorem PartAt.first {a b : List Value} : PartAt (a ++ b) 0 a := fun j v hv => by
 have hj : j < a.length := (List.getElem?_eq_some_iff.1 hv).1;rw [Nat.zero_add, List.getElem?_append_left hj]
 exact hv
theorem PartAt.sub {ls l m : List Value} {o k : Nat} (h : PartAt ls o l) (h2 : PartAt l k m) : PartAt ls (o + k) m := fun j v hv => by
 rw [Nat.add_assoc]
 exact h _ _ (h2 j v hv)
theorem PartAt.at_ {ls l : List Value} {o j : Nat} {v : Value} (h : PartAt ls o l) (hv : l[j]? = some v) : ls[o + j]? = some v := h j v hv
theorem PartAt.take_drop {ls l : List Value} {o : Nat} (h : PartAt ls o l) (hl : o + l.length ≤ ls.length) : (ls.drop o).take l.length = l := by
 apply List.ext_getElem?
 intro j;rw [List.getElem?_take]
 split
 ·rename_i hj
  rw [List.getElem?_drop, h j _ (List.getElem?_eq_getElem hj), List.getElem?_eq_getElem hj]
 ·rename_i hj
  rw [List.getElem?_eq_none (by omega)]
theorem PartAt.extract {ls l : List Value} {o n : Nat} (h : PartAt ls o l) (hn : l.length = n) (hl : o + n ≤ ls.length) : ls.toArray.extract o (o + n) = l.toArray := by
 subst hn
 apply Array.ext'
 simp only [List.extract_toArray, List.extract_eq_take_drop, Nat.add_sub_cancel_left]
 exact h.take_drop hl
/-- what a store of one element makes of all -/
theorem QAo {α : Type} {f : α → List Value} {z : Nat} (hz : ∀ x, (f x).length = z) (l : List α) (k : Nat) (hk : k < l.length) (y : α) : spl (l.flatMap f) (k * z) (f y) = (l.set k y).flatMap f := by
 have hl : (l.flatMap f).length = l.length * z := Yi hz l;have h1 : (k + 1) * z ≤ l.length * z := Nat.mul_le_mul_right _ hk;rw [Nat.add_mul, Nat.one_mul] at h1;rw [QB8 _ _ _ (by rw [hz, hl]; exact h1), hz]
 have e1 : (l.flatMap f).take (k * z) = (l.take k).flatMap f := by
  conv => lhs; rw [← List.take_append_drop k l, List.flatMap_append]
  rw [List.take_left' (by rw [Yi hz, List.length_take, Nat.min_eq_left (Nat.le_of_lt hk)])]
 have e2 : (l.flatMap f).drop (k * z + z) = (l.drop (k + 1)).flatMap f := by
  conv => lhs; rw [← List.take_append_drop (k + 1) l, List.flatMap_append]
  rw [List.drop_left' (by rw [Yi hz, List.length_take, Nat.min_eq_left hk, Nat.succ_mul])]
 rw [e1, e2, List.set_eq_take_append_cons_drop, if_pos hk, List.flatMap_append, List.flatMap_cons, List.append_assoc]
section
variable {w : World} {g T : Nat} {l cs : List Value} {o : Nat}
theorem Blk.range (h : Blk w g T l.toArray) (hp : PartAt l o cs) : w.rangeAt g o cs := fun j v hv => by
 rw [h.cell]
 simpa using hp j v hv
end
section
variable {P : Program} {n : Nat} {σ : Sg} {w : World} {dst : Option Tmp} {ty : TypeId} {pos : String} {af : Array Edge} {g : Option (Nat × Bool)} {x y : Operand} {t e : TypeId}
theorem QDz {fn : Func} {c1 c2 s : Tmp} {t1 t2 : TypeId} {p1 p2 : Addr} {v1 v2 u : Value} (h : fn.results = #[.cell c1 t1, .cell c2 t2, .tmp s]) (hc1 : σ c1 = some (.pointer (some p1))) (hc2 : σ c2 = some (.pointer (some p2))) (hs : σ s = some u) (hl1 : (loadVar t1 p1).run P w = .ok v1 w) (hl2 : (loadVar t2 p2).run P w = .ok v2 w) (a : Act) (ha : Env n σ a) : (results fn a.tmps).run P w = .ok (.tuple #[v1, v2, u]) w := by
 have h1 : a.tmps.getD c1 undef = .pointer (some p1) := ha.eval (x := .tmp c1) hc1;have h2 : a.tmps.getD c2 undef = .pointer (some p2) := ha.eval (x := .tmp c2) hc2;have h3 : a.tmps.getD s undef = u := ha.eval (x := .tmp s) hs;rw [Array.getD_eq_getD_getElem?] at h1 h2 h3
 simp [results, h, h1, h2, h3, asAddr, hl1, hl2]
end
section
variable {n : Nat} {σ : Sg} {w : World} {dst : Option Tmp} {ty : TypeId} {pos : String} {af : Array Edge} {g : Option (Nat × Bool)} {x y z : Operand} {at' : Array TypeId}
theorem QMo {v0 v1 v2 v3 v4 v5 v6 v7 v8 v9 v10 v11 v12 v13 v14 : Value} (hx : evS σ x = some (.agg #[v0, v1, v2, v3, v4, v5, v6, v7, v8, v9, v10, v11, v12, v13, v14])) (a : Act) (ha : Env n σ a) : (execOp a.eval ⟨dst, .box 114 x, ty, pos, af, g⟩).run Try.prog w = .ok (.value (.pointer (some ⟨w.heap.size, 0, none⟩))) (w.alloc (.cells #[v0, v1, v2, v3, v4, v5, v6, v7, v8, v9, v10, v11, v12, v13, v14] 114)) := by
 simp only [execOp, ha.eval hx]
 simp [go_sem]
theorem QAG (a : Act) (_ : Env n σ a) : (execOp a.eval ⟨dst, .alloc 114, ty, pos, af, g⟩).run Try.prog w = .ok (.value (.pointer (some ⟨w.heap.size, 0, none⟩))) (w.alloc (.cells #[.int .i64 0, .int .i64 0, .int .i64 0, .int .i64 0, .int .i64 0, .bool false, .int .i64 0, .int .i64 0, .int .i64 0, .int .i64 0, .int .i64 0, .int .i64 0, .int .i64 0, .int .i64 0, .int .i64 0] 114)) := by
 simp only [execOp]
 simp [go_sem]
theorem QCz (a : Act) (_ : Env n σ a) : (execOp a.eval ⟨dst, .alloc 49, ty, pos, af, g⟩).run Try.prog w = .ok (.value (.pointer (some ⟨w.heap.size, 0, none⟩))) (w.alloc (.cells #[.int .i64 0, .int .i64 0] 49)) := by
 simp only [execOp]
 simp [go_sem]
theorem QIQ (a : Act) (_ : Env n σ a) : (execOp a.eval ⟨dst, .alloc 39, ty, pos, af, g⟩).run Try.prog w = .ok (.value (.pointer (some ⟨w.heap.size, 0, none⟩))) (w.alloc (.cells #[.bool false, .int .i64 0, .int .i64 0, .int .i64 0, .int .i64 0] 39)) := by
 simp only [execOp]
 simp [go_sem]
theorem QEn : (Try.prog.info? 39).map (·.size) = some 5 := by kernel_rfl
theorem QG_ {p q r : Int} (hx : evS σ x = some (.int .i64 p)) (hy : evS σ y = some (.int .i64 q)) (hr : max p q = r) : ZI Try.prog n σ w ⟨dst, .call { callee := .builtin .max, args := #[x, y], argTypes := at' }, ty, pos, af, g⟩ (.int .i64 r) := fun a ha => by
 simp only [execOp, resolve, List.map_toArray, List.map_cons, List.map_nil, ha.eval hx, ha.eval hy]
 subst hr
 simp [go_sem, Int.max_def]
 split <;> split <;> omega
theorem ZN {b o : Nat} (hx : evS σ x = some (.pointer (some ⟨b, o, none⟩))) : ZI Try.prog n σ w ⟨dst, .fieldAddr 114 x 0, ty, pos, af, g⟩ (.pointer (some ⟨b, o, none⟩)) := fun a ha => by
 simp only [execOp, ha.eval hx]
 simp [go_sem]
theorem Z8 {b o : Nat} {v0 v1 v2 v3 v4 v5 v6 v7 v8 v9 v10 v11 v12 v13 v14 : Value} (hx : evS σ x = some (.pointer (some ⟨b, o, none⟩))) (c0 : w.cell? ⟨b, o, none⟩ = some v0) (c1 : w.cell? ⟨b, o + 1, none⟩ = some v1) (c2 : w.cell? ⟨b, o + 2, none⟩ = some v2) (c3 : w.cell? ⟨b, o + 3, none⟩ = some v3) (c4 : w.cell? ⟨b, o + 4, none⟩ = some v4) (c5 : w.cell? ⟨b, o + 5, none⟩ = some v5) (c6 : w.cell? ⟨b, o + 6, none⟩ = some v6) (c7 : w.cell? ⟨b, o + 7, none⟩ = some v7) (c8 : w.cell? ⟨b, o + 8, none⟩ = some v8) (c9 : w.cell? ⟨b, o + 9, none⟩ = some v9) (c10 : w.cell? ⟨b, o + 10, none⟩ = some v10) (c11 : w.cell? ⟨b, o + 11, none⟩ = some v11) (c12 : w.cell? ⟨b, o + 12, none⟩ = some v12) (c13 : w.cell? ⟨b, o + 13, none⟩ = some v13) (c14 : w.cell? ⟨b, o + 14, none⟩ = some v14) : ZI Try.prog n σ w ⟨dst, .load 114 x, ty, pos, af, g⟩ (.agg #[v0, v1, v2, v3, v4, v5, v6, v7, v8, v9, v10, v11, v12, v13, v14]) := fun a ha => by
 simp only [execOp, ha.eval hx]
 simp [go_sem, c0, c1, c2, c3, c4, c5, c6, c7, c8, c9, c10, c11, c12, c13, c14]
theorem QDE {b o : Nat} {v0 v1 : Value} (hx : evS σ x = some (.pointer (some ⟨b, o, none⟩))) (c0 : w.cell? ⟨b, o, none⟩ = some v0) (c1 : w.cell? ⟨b, o + 1, none⟩ = some v1) : ZI Try.prog n σ w ⟨dst, .load 49 x, ty, pos, af, g⟩ (.agg #[v0, v1]) := fun a ha => by
 simp only [execOp, ha.eval hx]
 simp [go_sem, c0, c1]
theorem Z5 : (Try.prog.info? 114).map (·.size) = some 15 := by kernel_rfl
theorem QAm : (Try.prog.info? 49).map (·.size) = some 2 := by kernel_rfl
theorem QAF {b o : Nat} {v0 v1 v2 v3 v4 v5 v6 v7 v8 v9 v10 v11 v12 v13 v14 : Value} (c0 : w.cell? ⟨b, o, none⟩ = some v0) (c1 : w.cell? ⟨b, o + 1, none⟩ = some v1) (c2 : w.cell? ⟨b, o + 2, none⟩ = some v2) (c3 : w.cell? ⟨b, o + 3, none⟩ = some v3) (c4 : w.cell? ⟨b, o + 4, none⟩ = some v4) (c5 : w.cell? ⟨b, o + 5, none⟩ = some v5) (c6 : w.cell? ⟨b, o + 6, none⟩ = some v6) (c7 : w.cell? ⟨b, o + 7, none⟩ = some v7) (c8 : w.cell? ⟨b, o + 8, none⟩ = some v8) (c9 : w.cell? ⟨b, o + 9, none⟩ = some v9) (c10 : w.cell? ⟨b, o + 10, none⟩ = some v10) (c11 : w.cell? ⟨b, o + 11, none⟩ = some v11) (c12 : w.cell? ⟨b, o + 12, none⟩ = some v12) (c13 : w.cell? ⟨b, o + 13, none⟩ = some v13) (c14 : w.cell? ⟨b, o + 14, none⟩ = some v14) : (loadVar 114 ⟨b, o, none⟩).run Try.prog w = .ok (.agg #[v0, v1, v2, v3, v4, v5, v6, v7, v8, v9, v10, v11, v12, v13, v14]) w := by
 simp [go_sem, loadVar, c0, c1, c2, c3, c4, c5, c6, c7, c8, c9, c10, c11, c12, c13, c14]
theorem QGY {b o : Nat} {v0 v1 : Value} (c0 : w.cell? ⟨b, o, none⟩ = some v0) (c1 : w.cell? ⟨b, o + 1, none⟩ = some v1) : (loadVar 49 ⟨b, o, none⟩).run Try.prog w = .ok (.agg #[v0, v1]) w := by
 simp [go_sem, loadVar, c0, c1]
theorem cF76 : cF 76 := fun _ _ => by simp [go_sem]
theorem QAD {b o : Nat} (hx : evS σ x = some (.pointer (some ⟨b, o, none⟩))) : ZI Try.prog n σ w ⟨dst, .fieldAddr 111 x 2, ty, pos, af, g⟩ (.pointer (some ⟨b, o + 11, none⟩)) := fun a ha => by
 simp only [execOp, ha.eval hx]
 simp [go_sem]
theorem QDi {b o : Nat} (hx : evS σ x = some (.pointer (some ⟨b, o, none⟩))) : ZI Try.prog n σ w ⟨dst, .fieldAddr 49 x 0, ty, pos, af, g⟩ (.pointer (some ⟨b, o, none⟩)) := fun a ha => by
 simp only [execOp, ha.eval hx]
 simp [go_sem]
theorem YV {b o : Nat} (hx : evS σ x = some (.pointer (some ⟨b, o, none⟩))) : ZI Try.prog n σ w ⟨dst, .fieldAddr 49 x 1, ty, pos, af, g⟩ (.pointer (some ⟨b, o + 1, none⟩)) := fun a ha => by
 simp only [execOp, ha.eval hx]
 simp [go_sem]
theorem YS {b o : Nat} (hx : evS σ x = some (.pointer (some ⟨b, o, none⟩))) : ZI Try.prog n σ w ⟨dst, .fieldAddr 114 x 2, ty, pos, af, g⟩ (.pointer (some ⟨b, o + 14, none⟩)) := fun a ha => by
 simp only [execOp, ha.eval hx]
 simp [go_sem]
theorem Zp {b o : Nat} (hx : evS σ x = some (.pointer (some ⟨b, o, none⟩))) : ZI Try.prog n σ w ⟨dst, .fieldAddr 114 x 1, ty, pos, af, g⟩ (.pointer (some ⟨b, o + 12, none⟩)) := fun a ha => by
 simp only [execOp, ha.eval hx]
 simp [go_sem]
theorem Zj {b o k : Nat} (hx : evS σ x = some (.pointer (some ⟨b, o, none⟩))) (hy : evS σ y = some (.int .i64 (k : Int))) (hk : k < 2) : ZI Try.prog n σ w ⟨dst, .indexAddr 112 x y, ty, pos, af, g⟩ (.pointer (some ⟨b, o + k, none⟩)) := fun a ha => by
 have k0 : (0 : Int) ≤ (k : Int) := Int.natCast_nonneg _;have k1 : (k : Int) < 2 := by omega
 simp only [execOp, ha.eval hx, ha.eval hy]
 simp [go_sem, k0, k1]
end
theorem QIR {σ : Sg} {s : Nat} {b b' : Int} (h : b = b') (hs : σ s = some (.int .i64 b)) : σ s = some (.int .i64 b') := h ▸ hs
section
variable {n : Nat} {σ : Sg} {w : World} {dst : Option Tmp} {ty : TypeId} {pos : String} {af : Array Edge} {g : Option (Nat × Bool)} {x y z : Operand} {at' : Array TypeId}
theorem Y1 {a b r : Bool} (hx : evS σ x = some (.bool a)) (hy : evS σ y = some (.bool b)) (hc : decide (a = b) = r) : ZI Try.prog n σ w ⟨dst, .binOp .eql 4 x y 4, ty, pos, af, g⟩ (.bool r) := fun _ ha => by
 simp only [execOp, ha.eval hx, ha.eval hy]
 subst hc
 cases a <;> cases b <;> simp [go_sem]
theorem QFD {u : Bool} {t t' : TypeId} (hx : evS σ x = some (.int .i64 (wyB u))) : ZI Try.prog n σ w ⟨dst, .binOp .eql t x (.const (.int .i64 1)) t', ty, pos, af, g⟩ (.bool u) := Zx hx rfl (by cases u <;> rfl)
end
set_option maxRecDepth 100000 in
theorem QF8 {l : LK} {s : ST} {ts : List TW} {u : Bool} {v : Value} {w : World} {B : Nat} (h : StOk l s) (hts : ∀ t ∈ ts, twB l t = true) (h8 : s.t0 + s.t1 + ts.length ≤ 8) (hr : Rd w B 5 v ts.length (twsC ts)) (hB : B ≤ w.heap.size) :
  Calls Try.prog 57 #[stV s, v, .int .i64 (wyB u)] w fun e w' => e = .returned (.tuple #[stV (if fitB s.lk.length ts = true then tkS s ts u else s), rnV (if fitB s.lk.length ts = true then runT s ts u else rn0), .bool (fitB s.lk.length ts)]) ∧ Below w.heap.size w w' := by
 obtain ⟨At, ct, rfl, _⟩ := hr.shape;have hlen : s.lk.length = l.length := by rw [h.lk]; rfl
 have h8n : ts.length ≤ 8 := by omega
 have hbw := Below.refl w.heap.size w
 unfold stV rnV
 refine EC.enter 169 Try.func57 rfl rfl rfl (EC.seq (EC.region (EL.newP (QMo rfl) rfl ?_)));intro g1 w1 q1 hb1 hg1 hl1;have bhbw_1 := Nat.le_trans hbw.size hg1;replace hbw := bo_ hbw hb1;clear hb1 hg1 hl1;refine EL.newP QAG rfl ?_;intro g2 w2 q2 hb2 hg2 hl2;have n1_2 := q1.na hg2;have bhbw_2 := Nat.le_trans hbw.size hg2;replace q1 := q1.bl hb2;replace hbw := bo_ hbw hb2;clear hb2 hg2 hl2;refine EL.newP QCz rfl ?_;intro g3 w3 q3 hb3 hg3 hl3;have n1_3 := q1.na hg3;have n2_3 := q2.na hg3;have bhbw_3 := Nat.le_trans hbw.size hg3;replace q1 := q1.bl hb3;replace q2 := q2.bl hb3;replace hbw := bo_ hbw hb3;clear hb3 hg3 hl3;refine EL.as rfl rfl (EL.nil (EX.seq (EC.seq (EC.region (EL.as rfl rfl (EL.as rfl rfl (EL.nil (EX.seq (EC.seq ?_)))))))));refine EC.seq (EC.region (EL.mv rfl rfl (EL.val (Yg rfl) rfl (EL.mv rfl rfl (EL.nil (EX.seq (EC.block ?_)))))));refine EC.loopD [9, 10, 12, 19, 20, 21, 22, 23, 24, 25, 26, 27, 28, 29, 30, 31] (fun k : Nat => [(19, .int .i64 (k : Nat)), (9, .int .i64 (Zq (ts.take k))), (10, .int .i64 (arrT (ts.take k)))]) (fun k W => k ≤ ts.length ∧ Blk W g1 114 (stB s) ∧ Blk W g2 114 #[.int .i64 0, .int .i64 0, .int .i64 0, .int .i64 0, .int .i64 0, .bool false, .int .i64 0, .int .i64 0, .int .i64 0, .int .i64 0, .int .i64 0, .int .i64 0, .int .i64 0, .int .i64 0, .int .i64 0] ∧ Blk W g3 49 #[.int .i64 0, .int .i64 0] ∧ Below w.heap.size w W) (fun k => ts.length - k) 0 ⟨Nat.zero_le _, q1, q2, q3, hbw⟩ ⟨rfl, rfl, rfl, trivial⟩ ?_
 clear q1 q2 q3 hbw
 rintro k wk ⟨hk, q1, q2, q3, hbw⟩
 by_cases hltk : k < ts.length
 ·
  obtain ⟨b, o, rfl, _, cc⟩ := Ya ts k hltk w B _ _ _ hr;have hy := hts _ (Zo hltk tw0);have hs1 : Zq (ts.take (k + 1)) = Zq (ts.take k) + (ts.getD k tw0).length := QIX (f := (·.length)) hltk;have hs2 := QIx hltk
  generalize ts.getD k tw0 = y at cc hy hs1 hs2
  obtain ⟨y1, y2, _, _⟩ := QBA hy;have hlb0 := QAT h.ok;have hk2 := QJX hts h8n h.ok k;refine EC.seq (EC.region ?_);refine EL.val (ZO (r := true) rfl rfl (decide_eq_true (by omega))) rfl ?_
  refine EL.nil (EX.seq (EC.seq (EC.yes rfl (EC.skip (EX.seq (EC.seq (EC.block (EC.seq (EC.region ?_)))))))));refine EL.val (QAv rfl rfl hltk) rfl (EL.val (QAt rfl (ZC hbw cc.c0) (ZC hbw cc.c1) (ZC hbw cc.c2) (ZC hbw cc.c3) (ZC hbw cc.c4)) rfl (EL.newP QIQ rfl ?_));intro g4 w4 q4 hb4 hg4 hl4;have n1_4 := q1.na hg4;have n2_4 := q2.na hg4;have n3_4 := q3.na hg4;have bhbw_4 := Nat.le_trans hbw.size hg4;replace q1 := q1.bl hb4;replace q2 := q2.bl hb4;replace q3 := q3.bl hb4;replace hbw := bo_ hbw hb4;clear hb4 hg4 hl4;refine EL.store rfl rfl q4 QEn rfl rfl rfl rfl ?_;intro w5 hq5 hg5;replace q1 := q1.gr hg5 n1_4;replace q2 := q2.gr hg5 n2_4;replace q3 := q3.gr hg5 n3_4;replace hbw := ZE hbw hg5 bhbw_4;replace q4 := hq5;clear hg5 hq5;refine EL.nil (EX.seq ?_);refine EC.regionQ (by kernel_rfl) (by kernel_rfl) ?_
  refine EQ.mv rfl rfl ?_;refine EQ.val (fun _ hw => (QH9 rfl)) rfl ?_
  refine EQ.val (fun _ hw => (ld_3 rfl (ZC hw (q4.at (j := 2) rfl)))) rfl ?_
  refine EQ.val (fun _ hw => (x_add rfl rfl (c := Zq (ts.take (k + 1))) ((IntWalk.i64_in _ ⟨by omega, by omega⟩).trans hs1.symm))) rfl ?_
  refine EQ.mv rfl rfl ?_;refine EQ.val (fun _ hw => (QBs rfl)) rfl ?_
  refine EQ.val (fun _ hw => (ld_3 rfl (ZC hw (q4.at (j := 1) rfl)))) rfl ?_
  refine EQ.val (fun _ hw => (QG_ rfl rfl hs2.symm)) rfl ?_
  refine EQ.val (fun _ hw => (ZZ rfl)) rfl ?_
  refine EQ.val (fun _ hw => (ZZ rfl)) rfl ?_
  refine EQ.fin (fun w6 hw_ => ?_)
  replace q1 := q1.bl hw_;replace q2 := q2.bl hw_;replace q3 := q3.bl hw_;replace q4 := q4.bl hw_;replace hbw := bo_ hbw hw_;clear hw_;refine EX.blk (EX.seq (EC.region ?_));refine EL.val (x_add rfl rfl (c := ((k + 1 : Nat) : Int)) ((IntWalk.i64_in _ ⟨by first | omega | (simp only; omega), by first | omega | (simp only; omega)⟩).trans (by first | omega | (simp only; omega)))) rfl ?_
  refine EL.mv rfl rfl (EL.nil ?_);refine EX.roundD (k + 1) ⟨rfl, rfl, rfl, trivial⟩ (by repeat first | with_reducible exact .refl _ | refine sp_ rfl ?_ | exact .refl _ | refine sd_ rfl ?_ | refine sn_ ?_) ⟨hltk, q1, q2, q3, hbw⟩ (by omega)
 ·
  obtain rfl : k = ts.length := by omega
  rw [List.take_length];have hlg := QJX hts h8n h.ok ts.length;rw [List.take_length] at hlg;refine EC.seq (EC.region ?_);refine EL.val (ZO (r := false) rfl rfl (decide_eq_false (by omega))) rfl ?_
  refine EL.nil (EX.seq (EC.seq (EC.no rfl (EC.exit (EX.seq_exit (EX.seq_exit (EX.blk_here (EX.seq (EC.seq ?_)))))))));refine EC.seq (EC.region (EL.mv rfl rfl (EL.val (Yg rfl) rfl ?_)))
  by_cases h1 : 1 < ts.length
  ·
   refine EL.val (Zw (r := true) rfl rfl (decide_eq_true (by omega))) rfl ?_
   refine EL.mv rfl rfl (EL.mg rfl rfl rfl rfl (EL.valg rfl rfl (ZN rfl) rfl (EL.valg rfl rfl (ZV rfl) rfl (EL.valg rfl rfl (QA9 rfl) rfl (EL.valg rfl rfl (ld_3 rfl (q1.at (j := 0) rfl)) rfl ?_)))))
   by_cases h2 : s.lk.length < Zq ts
   ·
    refine EL.valg rfl rfl (Zw (r := true) rfl rfl (decide_eq_true h2)) rfl (EL.pt rfl rfl rfl (EL.nil (EX.seq (EC.yes rfl (EC.seq ?_)))));have lt_1 := q1.lt;have lt_2 := q2.lt;have lt_3 := q3.lt;refine EC.regionS [[], [], [0], [0, 1, 2], [0, 1, 2, 3]] 3 [] [2] (fun fl w_ => wk.grownBy w_ (some g2) ∧ (fl 2 = false → Blk w_ g2 114 _)) (phiS (fun i_ r => match i_ with | 0 => r 0 = (stA s) | 1 => r 1 = .agg #[.int .i64 0, .int .i64 0] | _ => True) [(2, fun _ r w_ => Blk w_ g2 114 (stB s))]) (by kernel_rfl) rfl rfl (by intro i hi; simp at hi; first | (subst hi; exact ⟨by simp, by omega⟩) | (rcases hi with rfl | rfl | rfl <;> exact ⟨by simp, by omega⟩) | (rcases hi with rfl | rfl <;> exact ⟨by simp, by omega⟩)) (Yy q2) (ZL QAN (Zd)) (fun i_ hi_ hs_ => ?_) (fun i_ hi_ => ?_) ?_
    ·match i_, hi_ with
     | 0, _ =>
      intro val fl w1 a hb ha hd hfl;obtain ⟨hb, hg0⟩ := hb;have ha := ha.s0 (d := 3) rfl
      exact ZD ha rfl rfl (Z8 rfl ((q1.grown hb (fun h => n1_2 (Option.some.inj h))).at (j := 0) rfl) ((q1.grown hb (fun h => n1_2 (Option.some.inj h))).at (j := 1) rfl) ((q1.grown hb (fun h => n1_2 (Option.some.inj h))).at (j := 2) rfl) ((q1.grown hb (fun h => n1_2 (Option.some.inj h))).at (j := 3) rfl) ((q1.grown hb (fun h => n1_2 (Option.some.inj h))).at (j := 4) rfl) ((q1.grown hb (fun h => n1_2 (Option.some.inj h))).at (j := 5) rfl) ((q1.grown hb (fun h => n1_2 (Option.some.inj h))).at (j := 6) rfl) ((q1.grown hb (fun h => n1_2 (Option.some.inj h))).at (j := 7) rfl) ((q1.grown hb (fun h => n1_2 (Option.some.inj h))).at (j := 8) rfl) ((q1.grown hb (fun h => n1_2 (Option.some.inj h))).at (j := 9) rfl) ((q1.grown hb (fun h => n1_2 (Option.some.inj h))).at (j := 10) rfl) ((q1.grown hb (fun h => n1_2 (Option.some.inj h))).at (j := 11) rfl) ((q1.grown hb (fun h => n1_2 (Option.some.inj h))).at (j := 12) rfl) ((q1.grown hb (fun h => n1_2 (Option.some.inj h))).at (j := 13) rfl) ((q1.grown hb (fun h => n1_2 (Option.some.inj h))).at (j := 14) rfl)) rfl rfl
     | 1, _ =>
      intro val fl w1 a hb ha hd hfl;obtain ⟨hb, hg0⟩ := hb;have ha := ha.s0 (d := 7) rfl
      exact ZD ha rfl rfl (QDE rfl ((q3.grown hb (fun h => n2_3.symm (Option.some.inj h))).at (j := 0) rfl) ((q3.grown hb (fun h => n2_3.symm (Option.some.inj h))).at (j := 1) rfl)) rfl rfl
     | 2, _ =>
      exact absurd (by simp) hs_
     | k + 3, h => exact absurd h (by omega)
    ·simp only [List.mem_singleton] at hi_; subst hi_
     intro val fl w1 a hb hfi ha hd hfl;obtain ⟨hb, hg0⟩ := hb;have e0 : val 0 = _ := hd 0 (ZA.1 rfl);have ha := ha.sub (Sub.ins (d := 43) (Sub.ins (d := 6) (Sub.nil _) rfl) (ZQ rfl e0));refine ZY ha rfl rfl rfl (hg0 hfi) Z5 rfl rfl rfl rfl ?_;intro w' hq hgr;refine ⟨undef, rfl, hgr.size, ⟨YB hb hgr, fun h => by rw [ZR] at h; cases h⟩, hq, fun j _ hj hn hA => ?_⟩
     exact ZF (C := fun j => j ≠ 2 ∧ 2 ∉ clsAt [[], [], [0], [0, 1, 2], [0, 1, 2, 3]] j ∧ ∀ p ∈ [], (p = j ∨ p ∈ clsAt [[], [], [0], [0, 1, 2], [0, 1, 2, 3]] j) → ∀ q ∈ [], (q = 2 ∨ q ∈ clsAt [[], [], [0], [0, 1, 2], [0, 1, 2, 3]] 2) → p ≠ q → val p ≠ val q) (fun hc => absurd rfl hc.1) (fun _ _ h => h) j ⟨hj, hn, hA⟩
    ·intro val fl wR8 hfl hb halc hd
     obtain ⟨hb, _⟩ := hb;have e0 : val 0 = _ := hd 0 (by omega)
     have e1 : val 1 = _ := hd 1 (by omega)
     refine EL.ends (cs := [_, _, val 2]) ⟨e0, e1, rfl, trivial⟩ rfl ?_;replace q1 := q1.gr hb n1_2;have q2 : Blk wR8 g2 114 (stB s) := hd 2 (by omega)
     replace q3 := q3.gr hb n2_3.symm;replace hbw := ZE hbw hb bhbw_2;refine EL.store rfl rfl q3 QAm rfl rfl rfl rfl ?_;intro w7 hq7 hg7;replace q1 := q1.gr hg7 n1_3;replace q2 := q2.gr hg7 n2_3;replace hbw := ZE hbw hg7 bhbw_3;replace q3 := hq7;clear hg7 hq7;refine EL.as rfl rfl (EL.nil (EX.seq (EC.ret (EX.seq_ret ?_))))
     exact EX.done (QDz rfl rfl rfl rfl (QAF (q2.at (j := 0) rfl) (q2.at (j := 1) rfl) (q2.at (j := 2) rfl) (q2.at (j := 3) rfl) (q2.at (j := 4) rfl) (q2.at (j := 5) rfl) (q2.at (j := 6) rfl) (q2.at (j := 7) rfl) (q2.at (j := 8) rfl) (q2.at (j := 9) rfl) (q2.at (j := 10) rfl) (q2.at (j := 11) rfl) (q2.at (j := 12) rfl) (q2.at (j := 13) rfl) (q2.at (j := 14) rfl)) (QGY (q3.at (j := 0) rfl) (q3.at (j := 1) rfl))) ⟨by rw [show fitB s.lk.length ts = false by unfold fitB; simp [h1, h2]]; rfl, hbw⟩
   ·
    refine EL.valg rfl rfl (Zw (r := false) rfl rfl (decide_eq_false h2)) rfl (EL.pt rfl rfl rfl (EL.nil (EX.seq (EC.no rfl (EC.skip (EX.seq ?_))))));have hfit : fitB s.lk.length ts = true := by unfold fitB; simp [h2]
    obtain ⟨hr1, hr2, hr3, hr4, hr5, hr6⟩ := QFM (u := u) h hts (hlen ▸ hfit) h8;refine EC.cutD [45, 46, 47, 48, 49, 50, 51, 52, 53, 54, 55, 56, 57, 58, 59, 60, 61, 62, 63] (fun _ : Unit => []) (fun _ W => Blk W g1 114 (stB (Zr s u)) ∧ Blk W g2 114 #[.int .i64 0, .int .i64 0, .int .i64 0, .int .i64 0, .int .i64 0, .bool false, .int .i64 0, .int .i64 0, .int .i64 0, .int .i64 0, .int .i64 0, .int .i64 0, .int .i64 0, .int .i64 0, .int .i64 0] ∧ Blk W g3 49 #[.int .i64 0, .int .i64 0] ∧ Below w.heap.size w W) ?_ ?_
    ·
     have hmr := (QAR s).1;have hml : (mvS s).lk.turn = s.lk.turn := by rw [QC4]; rfl
     have hfr := h.fr;have hlb := QAT h.okL;refine EC.seq (EC.region (EL.val (ZN rfl) rfl (EL.val (ZV rfl) rfl (EL.val (QA8 rfl) rfl (EL.val (ld_4 rfl (q1.at (j := 5) rfl)) rfl (EL.mv rfl rfl (EL.val (QFD rfl) rfl ?_)))))))
     by_cases hh : s.lk.high = u
     ·
      refine EL.val (Y1 (r := true) rfl rfl (decide_eq_true hh)) rfl (EL.nil (EX.seq (EC.yes rfl (EC.seq (EC.region (EL.val (ZN rfl) rfl ?_))))));refine EL.call (cA1 cF76 rfl) rfl (QAA (s := s) q1 h.okL h.wt (by omega)) ?_
      rintro e w8 ⟨rfl, hq8, hg8⟩
      refine ⟨_, rfl, ?_⟩;replace q2 := q2.gr hg8 n1_2.symm;replace q3 := q3.gr hg8 n1_3.symm;replace hbw := ZE hbw hg8 bhbw_1;replace q1 := hq8;clear hg8 hq8;refine EL.nil (EX.seq (EC.region (EL.val (ZN rfl) rfl (EL.val (QAD rfl) rfl (EL.val (ld_3 rfl (q1.at (j := 11) rfl)) rfl (EL.val (ZN rfl) rfl (EL.val (ZV rfl) rfl (EL.val (QAM rfl) rfl (EL.val (ld_3 rfl (q1.at (j := 2) rfl)) rfl ?_)))))))));refine EL.val (x_add rfl rfl (c := (mvS s).fr + (mvS s).lk.turn) (IntWalk.i64_in _ ⟨by omega, by omega⟩)) rfl ?_
      refine EL.val (ZN rfl) rfl (EL.val (QAD rfl) rfl (EL.store rfl rfl q1 sz_3 rfl rfl rfl rfl ?_));intro w9 hq9 hg9;replace q2 := q2.gr hg9 n1_2.symm;replace q3 := q3.gr hg9 n1_3.symm;replace hbw := ZE hbw hg9 bhbw_1;replace q1 := hq9;clear hg9 hq9;refine EL.nil ?_
      exact EX.cutE () trivial (by repeat first | with_reducible exact (Sub.refl _).del _ | refine sp_ rfl ?_ | exact (Sub.refl _).del _ | refine sd_ rfl ?_ | refine sn_ ?_) ⟨by unfold Zr; rw [if_pos hh]; exact q1, q2, q3, hbw⟩
     ·
      refine EL.val (Y1 (r := false) rfl rfl (decide_eq_false hh)) rfl (EL.nil (EX.seq (EC.no rfl (EC.skip ?_))))
      exact EX.cutE () trivial (by repeat first | with_reducible exact (Sub.refl _).del _ | refine sp_ rfl ?_ | exact (Sub.refl _).del _ | refine sd_ rfl ?_ | refine sn_ ?_) ⟨by unfold Zr; rw [if_neg hh]; exact q1, q2, q3, hbw⟩
    ·
     clear q1 q2 q3 hbw
     rintro ⟨⟩ W2 ⟨q1, q2, q3, hbw⟩
     have hSk : (Zr s u).lk = lkW s.lk (!u) := QCL s u;have hSL : lkB (Zr s u).lk = true := by rw [hSk]; exact h.okL
     have hSW := QFE (u := u) h.wt h.okL;have hSr := QB7 s u;have hSc := h.cost;have hrd : runT s ts u = ⟨max (Zr s u).fr (arrT ts), max (Zr s u).fr (arrT ts) - s.lk.turn + Z3 (Zq ts) s.lk.length * (s.lk.turn + s.lk.cycle)⟩ := rfl;have hmd : midS s ts u = mvN (2 * Z3 (Zq ts) s.lk.length - 1) (Zr s u) := rfl;have htk : tkS s ts u = endS (outS (midS s ts u) ts u (runT s ts u).stop) ts.length u (runT s ts u).stop := rfl
     generalize Zr s u = S at *
     have hSl : S.lk.length = s.lk.length := by rw [hSk]; rfl
     have hSt : S.lk.turn = s.lk.turn := by rw [hSk]; rfl
     have hSy : S.lk.cycle = s.lk.cycle := by rw [hSk]; rfl
     have hlb := QAT h.okL;refine EC.seq (EC.region (EL.val (ZN rfl) rfl (EL.val (QAD rfl) rfl (EL.val (ld_3 rfl (q1.at (j := 11) rfl)) rfl (EL.mv rfl rfl (EL.val (QG_ rfl rfl rfl) rfl (EL.val (QDi rfl) rfl (EL.store rfl rfl q3 sz_3 rfl rfl rfl rfl ?_))))))));intro w10 hq10 hg10;replace q1 := q1.gr hg10 n1_3;replace q2 := q2.gr hg10 n2_3;replace hbw := ZE hbw hg10 bhbw_3;replace q3 := hq10;clear hg10 hq10;refine EL.nil (EX.seq (EC.seq (EC.region (EL.val (QDi rfl) rfl (EL.val (ld_3 rfl (q3.at (j := 0) rfl)) rfl (EL.val (ZN rfl) rfl (EL.val (ZV rfl) rfl (EL.val (QAM rfl) rfl (EL.val (ld_3 rfl (q1.at (j := 2) rfl)) rfl ?_)))))))));refine EL.val (Z_ rfl rfl (c := max S.fr (arrT ts) - s.lk.turn) ((IntWalk.i64_in _ ⟨by omega, by omega⟩).trans (by rw [hSt]))) rfl ?_
     refine EL.val (YV rfl) rfl (EL.store rfl rfl q3 sz_3 rfl rfl rfl rfl ?_);intro w11 hq11 hg11;replace q1 := q1.gr hg11 n1_3;replace q2 := q2.gr hg11 n2_3;replace hbw := ZE hbw hg11 bhbw_3;replace q3 := hq11;clear hg11 hq11;refine EL.nil (EX.seq (EC.seq (EC.seq (EC.region (EL.mv rfl rfl (EL.as rfl rfl (EL.nil (EX.seq (EC.block ?_)))))))));obtain ⟨p, hp⟩ : ∃ p, p = Z3 (Zq ts) s.lk.length := ⟨_, rfl⟩;rw [← hp] at hrd hmd;have hp3 : p ≤ 3 := by rw [hp]; exact hlen ▸ QCX hts h.ok (hlen ▸ hfit)
     have hplt := fun j => QCW (long := Zq ts) (L := s.lk.length) (by omega) j
     rw [← hp] at hplt;have hz0 : (max S.fr (arrT ts)) - s.lk.turn = (((0 : Nat) : Int)) * (s.lk.turn + s.lk.cycle) + ((max S.fr (arrT ts)) - s.lk.turn) := by simp
     rw [hz0] at q3;refine EC.loopD [13, 79, 80, 81, 82, 83, 84, 85, 86, 87, 88, 89, 90, 91, 92, 93, 94, 95, 96, 97, 98, 99, 100, 101, 102, 103, 104, 105, 106] (fun j : Nat => [(13, .int .i64 (Zq ts - ((j : Nat) : Int) * s.lk.length))]) (fun j W => j ≤ p ∧ Blk W g1 114 (stB (mvN (2 * j - 1) S)) ∧ Blk W g2 114 #[.int .i64 0, .int .i64 0, .int .i64 0, .int .i64 0, .int .i64 0, .bool false, .int .i64 0, .int .i64 0, .int .i64 0, .int .i64 0, .int .i64 0, .int .i64 0, .int .i64 0, .int .i64 0, .int .i64 0] ∧ Blk W g3 49 #[.int .i64 (max S.fr (arrT ts)), .int .i64 (((j : Nat) : Int) * (s.lk.turn + s.lk.cycle) + ((max S.fr (arrT ts)) - s.lk.turn))] ∧ Below w.heap.size w W) (fun j => p - j) 0 ⟨Nat.zero_le _, q1, q2, q3, hbw⟩ ⟨QIR (by simp) rfl, trivial⟩ ?_
     clear q1 q2 q3 hbw
     rintro j wj ⟨hj, q1, q2, q3, hbw⟩
     by_cases hltj : j < p
     ·
      have hjl := (hplt j).2 hltj;have hjb : 0 ≤ (j : Int) * s.lk.length ∧ (j : Int) * s.lk.length ≤ 3 * 500 := ⟨Int.mul_nonneg (by omega) (by omega), Int.mul_le_mul (by omega) (by omega) (by omega) (by omega)⟩
      have hjc : 0 ≤ (j : Int) * (s.lk.turn + s.lk.cycle) ∧ (j : Int) * (s.lk.turn + s.lk.cycle) ≤ 3 * 1000 := ⟨Int.mul_nonneg (by omega) (by omega), Int.mul_le_mul (by omega) (by omega) (by omega) (by omega)⟩
      have hj1 : ((j + 1 : Nat) : Int) * s.lk.length = j * s.lk.length + s.lk.length := by rw [Int.natCast_add, Int.add_mul]; simp
      have hj2 : ((j + 1 : Nat) : Int) * (s.lk.turn + s.lk.cycle) = j * (s.lk.turn + s.lk.cycle) + (s.lk.turn + s.lk.cycle) := by rw [Int.natCast_add, Int.add_mul]; simp
      have hXL := QFU (n := 2 * j - 1) hSL;have hXW := QGV hSW hSL (2 * j - 1);have hX1 : (mvN (2 * (j + 1) - 1) S).lk.turn = s.lk.turn ∧ (mvN (2 * (j + 1) - 1) S).lk.cycle = s.lk.cycle ∧ (mvN (2 * (j + 1) - 1) S).lk.length = s.lk.length := by obtain ⟨hv, he⟩ := QFV (2 * (j + 1) - 1) S; rw [he]; exact ⟨hSt, hSy, hSl⟩
      have hjz : j = 0 ∨ 0 < j := by omega
      have hjp : 0 < j → 0 < (j : Int) * s.lk.length := fun h => Int.mul_pos (by omega) (by omega)
      refine EC.seq (EC.seq (EC.region (EL.mv rfl rfl ?_)));refine EL.val (Zw (r := true) rfl rfl (decide_eq_true (by have := hplt j; omega))) rfl ?_
      refine EL.nil (EX.seq (EC.yes rfl (EC.skip (EX.seq (EC.seq (EC.block (EC.seq (EC.seq (EC.region ?_)))))))));refine EL.mv rfl rfl (EL.mv rfl rfl ?_)
      by_cases hj0 : 0 < j
      ·
       have hXe : (mvS (mvS (mvN (2 * j - 1) S))) = (mvN (2 * (j + 1) - 1) S) := by rw [show 2 * (j + 1) - 1 = (2 * j - 1) + 1 + 1 by omega]; rfl
       refine EL.val (ZO (r := true) rfl rfl (decide_eq_true (by have := hjp hj0; omega))) rfl ?_
       refine EL.nil (EX.seq (EC.yes rfl (EC.region (EL.val (ZN rfl) rfl ?_))));refine EL.call (cA1 cF76 rfl) rfl (QAA (s := (mvN (2 * j - 1) S)) q1 hXL hXW (by omega)) ?_
       rintro e w12 ⟨rfl, hq12, hg12⟩
       refine ⟨_, rfl, ?_⟩;replace q2 := q2.gr hg12 n1_2.symm;replace q3 := q3.gr hg12 n1_3.symm;replace hbw := ZE hbw hg12 bhbw_1;replace q1 := hq12;clear hg12 hq12;refine EL.nil (EX.seq (EC.seq (EC.region (EL.val (ZN rfl) rfl ?_))));refine EL.call (cA1 cF76 rfl) rfl (QAA (s := (mvS (mvN (2 * j - 1) S))) q1 (QHp hXL) (QHq hXW hXL) (by omega)) ?_
       rintro e w13 ⟨rfl, hq13, hg13⟩
       refine ⟨_, rfl, ?_⟩;replace q2 := q2.gr hg13 n1_2.symm;replace q3 := q3.gr hg13 n1_3.symm;replace hbw := ZE hbw hg13 bhbw_1;replace q1 := hq13;clear hg13 hq13;rw [hXe] at q1;replace q1 : Blk w13 g1 114 (stB (mvN (2 * (j + 1) - 1) S)) := q1;refine EL.nil (EX.seq (EC.region (EL.val (YV rfl) rfl (EL.val (ld_3 rfl (q3.at (j := 1) rfl)) rfl (EL.val (ZN rfl) rfl (EL.val (ZV rfl) rfl (EL.val (QAM rfl) rfl (EL.val (ld_3 rfl (q1.at (j := 2) rfl)) rfl (EL.val (ZN rfl) rfl ?_)))))))));refine EL.val (ZV rfl) rfl (EL.val (QCm rfl) rfl (EL.val (ld_3 rfl (q1.at (j := 1) rfl)) rfl ?_));refine EL.val (x_add rfl rfl (c := s.lk.turn + s.lk.cycle) ((IntWalk.i64_in _ ⟨by omega, by omega⟩).trans (by rw [hX1.1, hX1.2.1]))) rfl ?_
       refine EL.val (x_add rfl rfl (c := ((j + 1 : Nat) : Int) * (s.lk.turn + s.lk.cycle) + ((max S.fr (arrT ts)) - s.lk.turn)) ((IntWalk.i64_in _ ⟨by omega, by omega⟩).trans (by omega))) rfl ?_
       refine EL.val (YV rfl) rfl (EL.store rfl rfl q3 sz_3 rfl rfl rfl rfl ?_);intro w14 hq14 hg14;replace q1 := q1.gr hg14 n1_3;replace q2 := q2.gr hg14 n2_3;replace hbw := ZE hbw hg14 bhbw_3;replace q3 := hq14;clear hg14 hq14;refine EL.nil (EX.blk (EX.seq (EC.region (EL.mv rfl rfl (EL.val (ZN rfl) rfl (EL.val (ZV rfl) rfl (EL.val (QA9 rfl) rfl (EL.val (ld_3 rfl (q1.at (j := 0) rfl)) rfl ?_))))))));refine EL.val (Z_ rfl rfl (c := Zq ts - ((j + 1 : Nat) : Int) * s.lk.length) ((IntWalk.i64_in _ ⟨by omega, by omega⟩).trans (by rw [hX1.2.2]; omega))) rfl ?_
       refine EL.as rfl rfl (EL.nil ?_);refine EX.roundD (j + 1) ⟨rfl, trivial⟩ (by repeat first | with_reducible exact .refl _ | refine sp_ rfl ?_ | exact .refl _ | refine sd_ rfl ?_ | refine sn_ ?_) ⟨hltj, q1, q2, q3, hbw⟩ (by omega)
      ·
       have hXe : (mvS (mvN (2 * j - 1) S)) = (mvN (2 * (j + 1) - 1) S) := by rw [show j = 0 by omega]; rfl
       refine EL.val (ZO (r := false) rfl rfl (decide_eq_false (by rw [show j = 0 by omega]; simp))) rfl ?_
       refine EL.nil (EX.seq (EC.no rfl (EC.skip (EX.seq (EC.seq (EC.region (EL.val (ZN rfl) rfl ?_)))))));refine EL.call (cA1 cF76 rfl) rfl (QAA (s := (mvN (2 * j - 1) S)) q1 hXL hXW (by omega)) ?_
       rintro e w15 ⟨rfl, hq15, hg15⟩
       refine ⟨_, rfl, ?_⟩;replace q2 := q2.gr hg15 n1_2.symm;replace q3 := q3.gr hg15 n1_3.symm;replace hbw := ZE hbw hg15 bhbw_1;replace q1 := hq15;clear hg15 hq15;rw [hXe] at q1;replace q1 : Blk w15 g1 114 (stB (mvN (2 * (j + 1) - 1) S)) := q1;refine EL.nil (EX.seq (EC.region (EL.val (YV rfl) rfl (EL.val (ld_3 rfl (q3.at (j := 1) rfl)) rfl (EL.val (ZN rfl) rfl (EL.val (ZV rfl) rfl (EL.val (QAM rfl) rfl (EL.val (ld_3 rfl (q1.at (j := 2) rfl)) rfl (EL.val (ZN rfl) rfl ?_)))))))));refine EL.val (ZV rfl) rfl (EL.val (QCm rfl) rfl (EL.val (ld_3 rfl (q1.at (j := 1) rfl)) rfl ?_));refine EL.val (x_add rfl rfl (c := s.lk.turn + s.lk.cycle) ((IntWalk.i64_in _ ⟨by omega, by omega⟩).trans (by rw [hX1.1, hX1.2.1]))) rfl ?_
       refine EL.val (x_add rfl rfl (c := ((j + 1 : Nat) : Int) * (s.lk.turn + s.lk.cycle) + ((max S.fr (arrT ts)) - s.lk.turn)) ((IntWalk.i64_in _ ⟨by omega, by omega⟩).trans (by omega))) rfl ?_
       refine EL.val (YV rfl) rfl (EL.store rfl rfl q3 sz_3 rfl rfl rfl rfl ?_);intro w16 hq16 hg16;replace q1 := q1.gr hg16 n1_3;replace q2 := q2.gr hg16 n2_3;replace hbw := ZE hbw hg16 bhbw_3;replace q3 := hq16;clear hg16 hq16;refine EL.nil (EX.blk (EX.seq (EC.region (EL.mv rfl rfl (EL.val (ZN rfl) rfl (EL.val (ZV rfl) rfl (EL.val (QA9 rfl) rfl (EL.val (ld_3 rfl (q1.at (j := 0) rfl)) rfl ?_))))))));refine EL.val (Z_ rfl rfl (c := Zq ts - ((j + 1 : Nat) : Int) * s.lk.length) ((IntWalk.i64_in _ ⟨by omega, by omega⟩).trans (by rw [hX1.2.2]; omega))) rfl ?_
       refine EL.as rfl rfl (EL.nil ?_);refine EX.roundD (j + 1) ⟨rfl, trivial⟩ (by repeat first | with_reducible exact .refl _ | refine sp_ rfl ?_ | exact .refl _ | refine sd_ rfl ?_ | refine sn_ ?_) ⟨hltj, q1, q2, q3, hbw⟩ (by omega)
     ·
      obtain rfl : j = p := by omega
      rw [← hmd] at q1;have hMB := QGV hSW hSL (2 * j - 1);have hMr := QD7 (2 * j - 1) S;rw [← hmd] at hMB hMr
      generalize runT s ts u = Rn at *
      generalize midS s ts u = M at *
      have hRs : (max S.fr (arrT ts)) = Rn.start := by rw [hrd]
      have hRe : ((j : Nat) : Int) * (s.lk.turn + s.lk.cycle) + ((max S.fr (arrT ts)) - s.lk.turn) = Rn.stop := by rw [hrd]; simp only; omega
      rw [hRe, hRs] at q3;have hMB2 := hMB.mono (M := 100000000) (by omega)
      refine EC.seq (EC.seq (EC.region (EL.mv rfl rfl ?_)));refine EL.val (Zw (r := false) rfl rfl (decide_eq_false (by have := hplt j; omega))) rfl ?_
      refine EL.nil (EX.seq (EC.no rfl (EC.exit (EX.seq_exit (EX.seq_exit (EX.blk_here (EX.seq (EC.seq (EC.seq ?_)))))))));refine EC.region (EL.mv rfl rfl (EL.val (Yg rfl) rfl (EL.mv rfl rfl (EL.nil (EX.seq (EC.block ?_))))));have hO0 : outS M (ts.take 0) u Rn.stop = M := QGO M u Rn.stop;rw [← hO0] at q1;refine EC.loopD [15, 16, 109, 110, 111, 112, 113, 114, 115, 116, 117, 118, 119, 120, 121, 122, 123, 124, 125, 126, 127, 128, 129, 130, 131, 132, 133, 134, 135, 136, 137, 138, 139, 140, 141, 142, 143, 144, 145, 146, 147, 148, 149, 150, 151, 152, 153] (fun k : Nat => [(109, .int .i64 (k : Nat))]) (fun k W => k ≤ ts.length ∧ Blk W g1 114 (stB (outS M (ts.take k) u Rn.stop)) ∧ Blk W g2 114 #[.int .i64 0, .int .i64 0, .int .i64 0, .int .i64 0, .int .i64 0, .bool false, .int .i64 0, .int .i64 0, .int .i64 0, .int .i64 0, .int .i64 0, .int .i64 0, .int .i64 0, .int .i64 0, .int .i64 0] ∧ Blk W g3 49 #[.int .i64 Rn.start, .int .i64 Rn.stop] ∧ Below w.heap.size w W) (fun k => ts.length - k) 0 ⟨Nat.zero_le _, q1, q2, q3, hbw⟩ ⟨rfl, trivial⟩ ?_
      clear q1 q2 q3 hbw
      rintro k wk ⟨hk, q1, q2, q3, hbw⟩
      by_cases hltk : k < ts.length
      ·
       obtain ⟨b, o, rfl, _, cc⟩ := Ya ts k hltk w B _ _ _ hr;have hy := hts _ (Zo hltk tw0);have hos := QEt M (ts.take k) (ts.getD k tw0) u Rn.stop;rw [← Z1 hltk] at hos;obtain ⟨ob1, ob2, ob3⟩ := QJb (e := Rn.stop) u hMB2 hts h8n ⟨by omega, by omega⟩ k
       generalize ts.getD k tw0 = y at cc hy hos
       obtain ⟨y1, y2, y3, y4⟩ := QBA hy;have hcb := QFk (e := Rn.stop) hy ⟨by omega, by omega⟩
       have hpb := QHg u hy;have hwb := QI3 u;refine EC.seq (EC.region ?_);refine EL.val (ZO (r := true) rfl rfl (decide_eq_true (by omega))) rfl ?_
       refine EL.nil (EX.seq (EC.seq (EC.yes rfl (EC.skip (EX.seq (EC.seq (EC.block (EC.seq (EC.region ?_)))))))));refine EL.val (QAv rfl rfl hltk) rfl (EL.val (QAt rfl (ZC hbw cc.c0) (ZC hbw cc.c1) (ZC hbw cc.c2) (ZC hbw cc.c3) (ZC hbw cc.c4)) rfl (EL.newP QIQ rfl ?_));intro g17 w17 q17 hb17 hg17 hl17;have n1_17 := q1.na hg17;have n2_17 := q2.na hg17;have n3_17 := q3.na hg17;have bhbw_17 := Nat.le_trans hbw.size hg17;replace q1 := q1.bl hb17;replace q2 := q2.bl hb17;replace q3 := q3.bl hb17;replace hbw := bo_ hbw hb17;clear hb17 hg17 hl17;refine EL.store rfl rfl q17 QEn rfl rfl rfl rfl ?_;intro w18 hq18 hg18;replace q1 := q1.gr hg18 n1_17;replace q2 := q2.gr hg18 n2_17;replace q3 := q3.gr hg18 n3_17;replace hbw := ZE hbw hg18 bhbw_17;replace q17 := hq18;clear hg18 hq18;refine EL.nil (EX.seq (EC.seq (EC.region (EL.val (YS rfl) rfl (EL.val (ld_3 rfl (q1.at (j := 14) rfl)) rfl (EL.val (QFh rfl) rfl (EL.val (ld_3 rfl (q17.at (j := 3) rfl)) rfl (EL.val (YV rfl) rfl (EL.val (ld_3 rfl (q3.at (j := 1) rfl)) rfl ?_)))))))));refine EL.val (QBs rfl) rfl (EL.val (ld_3 rfl (q17.at (j := 1) rfl)) rfl ?_);refine EL.val (Z_ rfl rfl (by first | assumption | exact IntWalk.i64_in _ ⟨by omega, by omega⟩)) rfl ?_
       refine EL.val (QAY rfl rfl (by first | assumption | exact IntWalk.i64_in _ ⟨by omega, by omega⟩)) rfl ?_
       refine EL.val (x_add rfl rfl (by first | assumption | exact IntWalk.i64_in _ ⟨by omega, by omega⟩)) rfl ?_
       refine EL.val (YS rfl) rfl (EL.store rfl rfl q1 sz_3 rfl rfl rfl rfl ?_);intro w19 hq19 hg19;replace q2 := q2.gr hg19 n1_2.symm;replace q3 := q3.gr hg19 n1_3.symm;replace q17 := q17.gr hg19 n1_17.symm;replace hbw := ZE hbw hg19 bhbw_1;replace q1 := hq19;clear hg19 hq19;refine EL.nil (EX.seq (EC.seq (EC.region (EL.val (QFg rfl) rfl (EL.val (ld_3 rfl (q17.at (j := 4) rfl)) rfl (EL.mv rfl rfl ?_))))));refine EL.val (QAY rfl rfl (by first | assumption | exact IntWalk.i64_in _ ⟨by omega, by omega⟩)) rfl ?_
       refine EL.val (Z_ rfl rfl (by first | assumption | exact IntWalk.i64_in _ ⟨by omega, by omega⟩)) rfl ?_
       refine EL.val (QAY rfl rfl (by first | assumption | exact IntWalk.i64_in _ ⟨by omega, by omega⟩)) rfl ?_
       refine EL.as rfl rfl (EL.nil (EX.seq (EC.region (EL.val (ZN rfl) rfl (EL.val (ZW rfl) rfl (EL.val (Zf rfl) rfl (EL.val (Y8 rfl) rfl (EL.val (ld_3 rfl (q1.at (j := 6) rfl)) rfl (EL.mv rfl rfl ?_)))))))));refine EL.val (Z_ rfl rfl (by first | assumption | exact IntWalk.i64_in _ ⟨by omega, by omega⟩)) rfl ?_
       refine EL.val (ZN rfl) rfl (EL.val (ZW rfl) rfl (EL.val (Zf rfl) rfl (EL.val (QBt rfl) rfl (EL.val (ld_3 rfl (q1.at (j := 7) rfl)) rfl (EL.mv rfl rfl ?_)))));refine EL.val (x_add rfl rfl (by first | assumption | exact IntWalk.i64_in _ ⟨by omega, by omega⟩)) rfl ?_
       refine EL.val (ZN rfl) rfl (EL.val (ZW rfl) rfl (EL.val (Zf rfl) rfl (EL.val (Y8 rfl) rfl (EL.store rfl rfl q1 sz_3 rfl rfl rfl rfl ?_))));intro w20 hq20 hg20;replace q2 := q2.gr hg20 n1_2.symm;replace q3 := q3.gr hg20 n1_3.symm;replace q17 := q17.gr hg20 n1_17.symm;replace hbw := ZE hbw hg20 bhbw_1;replace q1 := hq20;clear hg20 hq20;refine EL.val (ZN rfl) rfl (EL.val (ZW rfl) rfl (EL.val (Zf rfl) rfl (EL.val (QBt rfl) rfl (EL.store rfl rfl q1 sz_3 rfl rfl rfl rfl ?_))));intro w21 hq21 hg21;replace q2 := q2.gr hg21 n1_2.symm;replace q3 := q3.gr hg21 n1_3.symm;replace q17 := q17.gr hg21 n1_17.symm;replace hbw := ZE hbw hg21 bhbw_1;replace q1 := hq21;clear hg21 hq21;refine EL.nil (EX.blk (EX.seq (EC.region ?_)));refine EL.val (x_add rfl rfl (c := ((k + 1 : Nat) : Int)) ((IntWalk.i64_in _ ⟨by first | omega | (simp only; omega), by first | omega | (simp only; omega)⟩).trans (by first | omega | (simp only; omega)))) rfl ?_
       refine EL.mv rfl rfl (EL.nil ?_);refine EX.roundD (k + 1) ⟨rfl, trivial⟩ (by repeat first | with_reducible exact .refl _ | refine sp_ rfl ?_ | exact .refl _ | refine sd_ rfl ?_ | refine sn_ ?_) ⟨hltk, (by rw [hos]; exact q1), q2, q3, hbw⟩ (by omega)
      ·
       obtain rfl : k = ts.length := by omega
       rw [List.take_length] at q1;refine EC.seq (EC.region ?_);refine EL.val (ZO (r := false) rfl rfl (decide_eq_false (by omega))) rfl ?_
       refine EL.nil (EX.seq (EC.seq (EC.no rfl (EC.exit (EX.seq_exit (EX.seq_exit (EX.blk_here (EX.seq (EC.seq ?_)))))))));refine EC.region (EL.val (YV rfl) rfl (EL.val (ld_3 rfl (q3.at (j := 1) rfl)) rfl (EL.val (ZN rfl) rfl (EL.val (QAD rfl) rfl (EL.store rfl rfl q1 sz_3 rfl rfl rfl rfl ?_)))));intro w22 hq22 hg22;replace q2 := q2.gr hg22 n1_2.symm;replace q3 := q3.gr hg22 n1_3.symm;replace hbw := ZE hbw hg22 bhbw_1;replace q1 := hq22;clear hg22 hq22;refine EL.nil (EX.seq (EC.seq (EC.region (EL.mv rfl rfl (EL.val (Zp rfl) rfl ?_)))));have hot0 : (outS M ts u Rn.stop).t0 = M.t0 := rfl;have hot1 : (outS M ts u Rn.stop).t1 = M.t1 := rfl;have ht0 : M.t0 = s.t0 := hMr.2.1.trans hSr.1;have ht1 : M.t1 = s.t1 := hMr.2.2.1.trans hSr.2.1
       cases u
       ·
        refine EL.val (Zj (k := 0) rfl rfl (by omega)) rfl ?_
        refine EL.val (ld_3 rfl (q1.at (j := 12) rfl)) rfl (EL.mv rfl rfl (EL.val (Yg rfl) rfl ?_));refine EL.val (x_add rfl rfl (c := ((M.t0 + ts.length : Nat) : Int)) ((IntWalk.i64_in _ ⟨by omega, by omega⟩).trans (by show _ = ((M.t0 + ts.length : Nat) : Int); omega))) rfl ?_
        refine EL.val (Zp rfl) rfl ?_;refine EL.val (Zj (k := 0) rfl rfl (by omega)) rfl ?_
        refine EL.store rfl rfl q1 sz_3 rfl rfl rfl rfl ?_;intro w23 hq23 hg23;replace q2 := q2.gr hg23 n1_2.symm;replace q3 := q3.gr hg23 n1_3.symm;replace hbw := ZE hbw hg23 bhbw_1;replace q1 := hq23;clear hg23 hq23;refine EL.nil (EX.seq (EC.seq ?_));replace q1 : Blk w23 g1 114 (stB (tkS s ts false)) := by rw [htk]; exact q1
        have lt_1 := q1.lt;have lt_2 := q2.lt;have lt_3 := q3.lt;refine EC.regionS [[], [], [0], [0, 1, 2], [0, 1, 2, 3]] 3 [] [2] (fun fl w_ => w23.grownBy w_ (some g2) ∧ (fl 2 = false → Blk w_ g2 114 _)) (phiS (fun i_ r => match i_ with | 0 => r 0 = (stA (tkS s ts false)) | 1 => r 1 = .agg #[.int .i64 Rn.start, .int .i64 Rn.stop] | _ => True) [(2, fun _ r w_ => Blk w_ g2 114 (stB (tkS s ts false)))]) (by kernel_rfl) rfl rfl (by intro i hi; simp at hi; first | (subst hi; exact ⟨by simp, by omega⟩) | (rcases hi with rfl | rfl | rfl <;> exact ⟨by simp, by omega⟩) | (rcases hi with rfl | rfl <;> exact ⟨by simp, by omega⟩)) (Yy q2) (ZL QAN (Zd)) (fun i_ hi_ hs_ => ?_) (fun i_ hi_ => ?_) ?_
        ·match i_, hi_ with
         | 0, _ =>
          intro val fl w1 a hb ha hd hfl;obtain ⟨hb, hg0⟩ := hb;have ha := ha.s0 (d := 3) rfl
          exact ZD ha rfl rfl (Z8 rfl ((q1.grown hb (fun h => n1_2 (Option.some.inj h))).at (j := 0) rfl) ((q1.grown hb (fun h => n1_2 (Option.some.inj h))).at (j := 1) rfl) ((q1.grown hb (fun h => n1_2 (Option.some.inj h))).at (j := 2) rfl) ((q1.grown hb (fun h => n1_2 (Option.some.inj h))).at (j := 3) rfl) ((q1.grown hb (fun h => n1_2 (Option.some.inj h))).at (j := 4) rfl) ((q1.grown hb (fun h => n1_2 (Option.some.inj h))).at (j := 5) rfl) ((q1.grown hb (fun h => n1_2 (Option.some.inj h))).at (j := 6) rfl) ((q1.grown hb (fun h => n1_2 (Option.some.inj h))).at (j := 7) rfl) ((q1.grown hb (fun h => n1_2 (Option.some.inj h))).at (j := 8) rfl) ((q1.grown hb (fun h => n1_2 (Option.some.inj h))).at (j := 9) rfl) ((q1.grown hb (fun h => n1_2 (Option.some.inj h))).at (j := 10) rfl) ((q1.grown hb (fun h => n1_2 (Option.some.inj h))).at (j := 11) rfl) ((q1.grown hb (fun h => n1_2 (Option.some.inj h))).at (j := 12) rfl) ((q1.grown hb (fun h => n1_2 (Option.some.inj h))).at (j := 13) rfl) ((q1.grown hb (fun h => n1_2 (Option.some.inj h))).at (j := 14) rfl)) rfl rfl
         | 1, _ =>
          intro val fl w1 a hb ha hd hfl;obtain ⟨hb, hg0⟩ := hb;have ha := ha.s0 (d := 7) rfl
          exact ZD ha rfl rfl (QDE rfl ((q3.grown hb (fun h => n2_3.symm (Option.some.inj h))).at (j := 0) rfl) ((q3.grown hb (fun h => n2_3.symm (Option.some.inj h))).at (j := 1) rfl)) rfl rfl
         | 2, _ =>
          exact absurd (by simp) hs_
         | k + 3, h => exact absurd h (by omega)
        ·simp only [List.mem_singleton] at hi_; subst hi_
         intro val fl w1 a hb hfi ha hd hfl;obtain ⟨hb, hg0⟩ := hb;have e0 : val 0 = _ := hd 0 (ZA.1 rfl);have ha := ha.sub (Sub.ins (d := 167) (Sub.ins (d := 6) (Sub.nil _) rfl) (ZQ rfl e0));refine ZY ha rfl rfl rfl (hg0 hfi) Z5 rfl rfl rfl rfl ?_;intro w' hq hgr;refine ⟨undef, rfl, hgr.size, ⟨YB hb hgr, fun h => by rw [ZR] at h; cases h⟩, hq, fun j _ hj hn hA => ?_⟩
         exact ZF (C := fun j => j ≠ 2 ∧ 2 ∉ clsAt [[], [], [0], [0, 1, 2], [0, 1, 2, 3]] j ∧ ∀ p ∈ [], (p = j ∨ p ∈ clsAt [[], [], [0], [0, 1, 2], [0, 1, 2, 3]] j) → ∀ q ∈ [], (q = 2 ∨ q ∈ clsAt [[], [], [0], [0, 1, 2], [0, 1, 2, 3]] 2) → p ≠ q → val p ≠ val q) (fun hc => absurd rfl hc.1) (fun _ _ h => h) j ⟨hj, hn, hA⟩
        ·intro val fl wR30 hfl hb halc hd
         obtain ⟨hb, _⟩ := hb;have e0 : val 0 = _ := hd 0 (by omega)
         have e1 : val 1 = _ := hd 1 (by omega)
         refine EL.ends (cs := [_, _, val 2]) ⟨e0, e1, rfl, trivial⟩ rfl ?_;replace q1 := q1.gr hb n1_2;have q2 : Blk wR30 g2 114 (stB (tkS s ts false)) := hd 2 (by omega)
         replace q3 := q3.gr hb n2_3.symm;replace hbw := ZE hbw hb bhbw_2;refine EL.store rfl rfl q3 QAm rfl rfl rfl rfl ?_;intro w24 hq24 hg24;replace q1 := q1.gr hg24 n1_3;replace q2 := q2.gr hg24 n2_3;replace hbw := ZE hbw hg24 bhbw_3;replace q3 := hq24;clear hg24 hq24;refine EL.as rfl rfl (EL.nil (EX.seq (EC.ret ?_)))
         exact EX.done (QDz rfl rfl rfl rfl (QAF (q2.at (j := 0) rfl) (q2.at (j := 1) rfl) (q2.at (j := 2) rfl) (q2.at (j := 3) rfl) (q2.at (j := 4) rfl) (q2.at (j := 5) rfl) (q2.at (j := 6) rfl) (q2.at (j := 7) rfl) (q2.at (j := 8) rfl) (q2.at (j := 9) rfl) (q2.at (j := 10) rfl) (q2.at (j := 11) rfl) (q2.at (j := 12) rfl) (q2.at (j := 13) rfl) (q2.at (j := 14) rfl)) (QGY (q3.at (j := 0) rfl) (q3.at (j := 1) rfl))) ⟨by rw [hfit]; rfl, hbw⟩
       ·
        refine EL.val (Zj (k := 1) rfl rfl (by omega)) rfl ?_
        refine EL.val (ld_3 rfl (q1.at (j := 13) rfl)) rfl (EL.mv rfl rfl (EL.val (Yg rfl) rfl ?_));refine EL.val (x_add rfl rfl (c := ((M.t1 + ts.length : Nat) : Int)) ((IntWalk.i64_in _ ⟨by omega, by omega⟩).trans (by show _ = ((M.t1 + ts.length : Nat) : Int); omega))) rfl ?_
        refine EL.val (Zp rfl) rfl ?_;refine EL.val (Zj (k := 1) rfl rfl (by omega)) rfl ?_
        refine EL.store rfl rfl q1 sz_3 rfl rfl rfl rfl ?_;intro w25 hq25 hg25;replace q2 := q2.gr hg25 n1_2.symm;replace q3 := q3.gr hg25 n1_3.symm;replace hbw := ZE hbw hg25 bhbw_1;replace q1 := hq25;clear hg25 hq25;refine EL.nil (EX.seq (EC.seq ?_));replace q1 : Blk w25 g1 114 (stB (tkS s ts true)) := by rw [htk]; exact q1
        have lt_1 := q1.lt;have lt_2 := q2.lt;have lt_3 := q3.lt;refine EC.regionS [[], [], [0], [0, 1, 2], [0, 1, 2, 3]] 3 [] [2] (fun fl w_ => w25.grownBy w_ (some g2) ∧ (fl 2 = false → Blk w_ g2 114 _)) (phiS (fun i_ r => match i_ with | 0 => r 0 = (stA (tkS s ts true)) | 1 => r 1 = .agg #[.int .i64 Rn.start, .int .i64 Rn.stop] | _ => True) [(2, fun _ r w_ => Blk w_ g2 114 (stB (tkS s ts true)))]) (by kernel_rfl) rfl rfl (by intro i hi; simp at hi; first | (subst hi; exact ⟨by simp, by omega⟩) | (rcases hi with rfl | rfl | rfl <;> exact ⟨by simp, by omega⟩) | (rcases hi with rfl | rfl <;> exact ⟨by simp, by omega⟩)) (Yy q2) (ZL QAN (Zd)) (fun i_ hi_ hs_ => ?_) (fun i_ hi_ => ?_) ?_
        ·match i_, hi_ with
         | 0, _ =>
          intro val fl w1 a hb ha hd hfl;obtain ⟨hb, hg0⟩ := hb;have ha := ha.s0 (d := 3) rfl
          exact ZD ha rfl rfl (Z8 rfl ((q1.grown hb (fun h => n1_2 (Option.some.inj h))).at (j := 0) rfl) ((q1.grown hb (fun h => n1_2 (Option.some.inj h))).at (j := 1) rfl) ((q1.grown hb (fun h => n1_2 (Option.some.inj h))).at (j := 2) rfl) ((q1.grown hb (fun h => n1_2 (Option.some.inj h))).at (j := 3) rfl) ((q1.grown hb (fun h => n1_2 (Option.some.inj h))).at (j := 4) rfl) ((q1.grown hb (fun h => n1_2 (Option.some.inj h))).at (j := 5) rfl) ((q1.grown hb (fun h => n1_2 (Option.some.inj h))).at (j := 6) rfl) ((q1.grown hb (fun h => n1_2 (Option.some.inj h))).at (j := 7) rfl) ((q1.grown hb (fun h => n1_2 (Option.some.inj h))).at (j := 8) rfl) ((q1.grown hb (fun h => n1_2 (Option.some.inj h))).at (j := 9) rfl) ((q1.grown hb (fun h => n1_2 (Option.some.inj h))).at (j := 10) rfl) ((q1.grown hb (fun h => n1_2 (Option.some.inj h))).at (j := 11) rfl) ((q1.grown hb (fun h => n1_2 (Option.some.inj h))).at (j := 12) rfl) ((q1.grown hb (fun h => n1_2 (Option.some.inj h))).at (j := 13) rfl) ((q1.grown hb (fun h => n1_2 (Option.some.inj h))).at (j := 14) rfl)) rfl rfl
         | 1, _ =>
          intro val fl w1 a hb ha hd hfl;obtain ⟨hb, hg0⟩ := hb;have ha := ha.s0 (d := 7) rfl
          exact ZD ha rfl rfl (QDE rfl ((q3.grown hb (fun h => n2_3.symm (Option.some.inj h))).at (j := 0) rfl) ((q3.grown hb (fun h => n2_3.symm (Option.some.inj h))).at (j := 1) rfl)) rfl rfl
         | 2, _ =>
          exact absurd (by simp) hs_
         | k + 3, h => exact absurd h (by omega)
        ·simp only [List.mem_singleton] at hi_; subst hi_
         intro val fl w1 a hb hfi ha hd hfl;obtain ⟨hb, hg0⟩ := hb;have e0 : val 0 = _ := hd 0 (ZA.1 rfl);have ha := ha.sub (Sub.ins (d := 167) (Sub.ins (d := 6) (Sub.nil _) rfl) (ZQ rfl e0));refine ZY ha rfl rfl rfl (hg0 hfi) Z5 rfl rfl rfl rfl ?_;intro w' hq hgr;refine ⟨undef, rfl, hgr.size, ⟨YB hb hgr, fun h => by rw [ZR] at h; cases h⟩, hq, fun j _ hj hn hA => ?_⟩
         exact ZF (C := fun j => j ≠ 2 ∧ 2 ∉ clsAt [[], [], [0], [0, 1, 2], [0, 1, 2, 3]] j ∧ ∀ p ∈ [], (p = j ∨ p ∈ clsAt [[], [], [0], [0, 1, 2], [0, 1, 2, 3]] j) → ∀ q ∈ [], (q = 2 ∨ q ∈ clsAt [[], [], [0], [0, 1, 2], [0, 1, 2, 3]] 2) → p ≠ q → val p ≠ val q) (fun hc => absurd rfl hc.1) (fun _ _ h => h) j ⟨hj, hn, hA⟩
        ·intro val fl wR30 hfl hb halc hd
         obtain ⟨hb, _⟩ := hb;have e0 : val 0 = _ := hd 0 (by omega)
         have e1 : val 1 = _ := hd 1 (by omega)
         refine EL.ends (cs := [_, _, val 2]) ⟨e0, e1, rfl, trivial⟩ rfl ?_;replace q1 := q1.gr hb n1_2;have q2 : Blk wR30 g2 114 (stB (tkS s ts true)) := hd 2 (by omega)
         replace q3 := q3.gr hb n2_3.symm;replace hbw := ZE hbw hb bhbw_2;refine EL.store rfl rfl q3 QAm rfl rfl rfl rfl ?_;intro w26 hq26 hg26;replace q1 := q1.gr hg26 n1_3;replace q2 := q2.gr hg26 n2_3;replace hbw := ZE hbw hg26 bhbw_3;replace q3 := hq26;clear hg26 hq26;refine EL.as rfl rfl (EL.nil (EX.seq (EC.ret ?_)))
         exact EX.done (QDz rfl rfl rfl rfl (QAF (q2.at (j := 0) rfl) (q2.at (j := 1) rfl) (q2.at (j := 2) rfl) (q2.at (j := 3) rfl) (q2.at (j := 4) rfl) (q2.at (j := 5) rfl) (q2.at (j := 6) rfl) (q2.at (j := 7) rfl) (q2.at (j := 8) rfl) (q2.at (j := 9) rfl) (q2.at (j := 10) rfl) (q2.at (j := 11) rfl) (q2.at (j := 12) rfl) (q2.at (j := 13) rfl) (q2.at (j := 14) rfl)) (QGY (q3.at (j := 0) rfl) (q3.at (j := 1) rfl))) ⟨by rw [hfit]; rfl, hbw⟩
  ·
   refine EL.val (Zw (r := false) rfl rfl (decide_eq_false (by omega))) rfl ?_
   refine EL.mv rfl rfl (EL.skip rfl rfl rfl rfl (EL.skip rfl rfl rfl rfl (EL.skip rfl rfl rfl rfl (EL.skip rfl rfl rfl rfl (EL.skip rfl rfl rfl rfl (EL.skip rfl rfl rfl rfl (EL.pf rfl rfl rfl (EL.nil (EX.seq ?_)))))))));refine EC.no rfl (EC.skip (EX.seq ?_));have hfit : fitB s.lk.length ts = true := by unfold fitB; simp [h1]
   obtain ⟨hr1, hr2, hr3, hr4, hr5, hr6⟩ := QFM (u := u) h hts (hlen ▸ hfit) h8;refine EC.cutD [45, 46, 47, 48, 49, 50, 51, 52, 53, 54, 55, 56, 57, 58, 59, 60, 61, 62, 63] (fun _ : Unit => []) (fun _ W => Blk W g1 114 (stB (Zr s u)) ∧ Blk W g2 114 #[.int .i64 0, .int .i64 0, .int .i64 0, .int .i64 0, .int .i64 0, .bool false, .int .i64 0, .int .i64 0, .int .i64 0, .int .i64 0, .int .i64 0, .int .i64 0, .int .i64 0, .int .i64 0, .int .i64 0] ∧ Blk W g3 49 #[.int .i64 0, .int .i64 0] ∧ Below w.heap.size w W) ?_ ?_
   ·
    have hmr := (QAR s).1;have hml : (mvS s).lk.turn = s.lk.turn := by rw [QC4]; rfl
    have hfr := h.fr;have hlb := QAT h.okL;refine EC.seq (EC.region (EL.val (ZN rfl) rfl (EL.val (ZV rfl) rfl (EL.val (QA8 rfl) rfl (EL.val (ld_4 rfl (q1.at (j := 5) rfl)) rfl (EL.mv rfl rfl (EL.val (QFD rfl) rfl ?_)))))))
    by_cases hh : s.lk.high = u
    ·
     refine EL.val (Y1 (r := true) rfl rfl (decide_eq_true hh)) rfl (EL.nil (EX.seq (EC.yes rfl (EC.seq (EC.region (EL.val (ZN rfl) rfl ?_))))));refine EL.call (cA1 cF76 rfl) rfl (QAA (s := s) q1 h.okL h.wt (by omega)) ?_
     rintro e w27 ⟨rfl, hq27, hg27⟩
     refine ⟨_, rfl, ?_⟩;replace q2 := q2.gr hg27 n1_2.symm;replace q3 := q3.gr hg27 n1_3.symm;replace hbw := ZE hbw hg27 bhbw_1;replace q1 := hq27;clear hg27 hq27;refine EL.nil (EX.seq (EC.region (EL.val (ZN rfl) rfl (EL.val (QAD rfl) rfl (EL.val (ld_3 rfl (q1.at (j := 11) rfl)) rfl (EL.val (ZN rfl) rfl (EL.val (ZV rfl) rfl (EL.val (QAM rfl) rfl (EL.val (ld_3 rfl (q1.at (j := 2) rfl)) rfl ?_)))))))));refine EL.val (x_add rfl rfl (c := (mvS s).fr + (mvS s).lk.turn) (IntWalk.i64_in _ ⟨by omega, by omega⟩)) rfl ?_
     refine EL.val (ZN rfl) rfl (EL.val (QAD rfl) rfl (EL.store rfl rfl q1 sz_3 rfl rfl rfl rfl ?_));intro w28 hq28 hg28;replace q2 := q2.gr hg28 n1_2.symm;replace q3 := q3.gr hg28 n1_3.symm;replace hbw := ZE hbw hg28 bhbw_1;replace q1 := hq28;clear hg28 hq28;refine EL.nil ?_
     exact EX.cutE () trivial (by repeat first | with_reducible exact (Sub.refl _).del _ | refine sp_ rfl ?_ | exact (Sub.refl _).del _ | refine sd_ rfl ?_ | refine sn_ ?_) ⟨by unfold Zr; rw [if_pos hh]; exact q1, q2, q3, hbw⟩
    ·
     refine EL.val (Y1 (r := false) rfl rfl (decide_eq_false hh)) rfl (EL.nil (EX.seq (EC.no rfl (EC.skip ?_))))
     exact EX.cutE () trivial (by repeat first | with_reducible exact (Sub.refl _).del _ | refine sp_ rfl ?_ | exact (Sub.refl _).del _ | refine sd_ rfl ?_ | refine sn_ ?_) ⟨by unfold Zr; rw [if_neg hh]; exact q1, q2, q3, hbw⟩
   ·
    clear q1 q2 q3 hbw
    rintro ⟨⟩ W2 ⟨q1, q2, q3, hbw⟩
    have hSk : (Zr s u).lk = lkW s.lk (!u) := QCL s u;have hSL : lkB (Zr s u).lk = true := by rw [hSk]; exact h.okL
    have hSW := QFE (u := u) h.wt h.okL;have hSr := QB7 s u;have hSc := h.cost;have hrd : runT s ts u = ⟨max (Zr s u).fr (arrT ts), max (Zr s u).fr (arrT ts) - s.lk.turn + Z3 (Zq ts) s.lk.length * (s.lk.turn + s.lk.cycle)⟩ := rfl;have hmd : midS s ts u = mvN (2 * Z3 (Zq ts) s.lk.length - 1) (Zr s u) := rfl;have htk : tkS s ts u = endS (outS (midS s ts u) ts u (runT s ts u).stop) ts.length u (runT s ts u).stop := rfl
    generalize Zr s u = S at *
    have hSl : S.lk.length = s.lk.length := by rw [hSk]; rfl
    have hSt : S.lk.turn = s.lk.turn := by rw [hSk]; rfl
    have hSy : S.lk.cycle = s.lk.cycle := by rw [hSk]; rfl
    have hlb := QAT h.okL;refine EC.seq (EC.region (EL.val (ZN rfl) rfl (EL.val (QAD rfl) rfl (EL.val (ld_3 rfl (q1.at (j := 11) rfl)) rfl (EL.mv rfl rfl (EL.val (QG_ rfl rfl rfl) rfl (EL.val (QDi rfl) rfl (EL.store rfl rfl q3 sz_3 rfl rfl rfl rfl ?_))))))));intro w29 hq29 hg29;replace q1 := q1.gr hg29 n1_3;replace q2 := q2.gr hg29 n2_3;replace hbw := ZE hbw hg29 bhbw_3;replace q3 := hq29;clear hg29 hq29;refine EL.nil (EX.seq (EC.seq (EC.region (EL.val (QDi rfl) rfl (EL.val (ld_3 rfl (q3.at (j := 0) rfl)) rfl (EL.val (ZN rfl) rfl (EL.val (ZV rfl) rfl (EL.val (QAM rfl) rfl (EL.val (ld_3 rfl (q1.at (j := 2) rfl)) rfl ?_)))))))));refine EL.val (Z_ rfl rfl (c := max S.fr (arrT ts) - s.lk.turn) ((IntWalk.i64_in _ ⟨by omega, by omega⟩).trans (by rw [hSt]))) rfl ?_
    refine EL.val (YV rfl) rfl (EL.store rfl rfl q3 sz_3 rfl rfl rfl rfl ?_);intro w30 hq30 hg30;replace q1 := q1.gr hg30 n1_3;replace q2 := q2.gr hg30 n2_3;replace hbw := ZE hbw hg30 bhbw_3;replace q3 := hq30;clear hg30 hq30;refine EL.nil (EX.seq (EC.seq (EC.seq (EC.region (EL.mv rfl rfl (EL.as rfl rfl (EL.nil (EX.seq (EC.block ?_)))))))));obtain ⟨p, hp⟩ : ∃ p, p = Z3 (Zq ts) s.lk.length := ⟨_, rfl⟩;rw [← hp] at hrd hmd;have hp3 : p ≤ 3 := by rw [hp]; exact hlen ▸ QCX hts h.ok (hlen ▸ hfit)
    have hplt := fun j => QCW (long := Zq ts) (L := s.lk.length) (by omega) j
    rw [← hp] at hplt;have hz0 : (max S.fr (arrT ts)) - s.lk.turn = (((0 : Nat) : Int)) * (s.lk.turn + s.lk.cycle) + ((max S.fr (arrT ts)) - s.lk.turn) := by simp
    rw [hz0] at q3;refine EC.loopD [13, 79, 80, 81, 82, 83, 84, 85, 86, 87, 88, 89, 90, 91, 92, 93, 94, 95, 96, 97, 98, 99, 100, 101, 102, 103, 104, 105, 106] (fun j : Nat => [(13, .int .i64 (Zq ts - ((j : Nat) : Int) * s.lk.length))]) (fun j W => j ≤ p ∧ Blk W g1 114 (stB (mvN (2 * j - 1) S)) ∧ Blk W g2 114 #[.int .i64 0, .int .i64 0, .int .i64 0, .int .i64 0, .int .i64 0, .bool false, .int .i64 0, .int .i64 0, .int .i64 0, .int .i64 0, .int .i64 0, .int .i64 0, .int .i64 0, .int .i64 0, .int .i64 0] ∧ Blk W g3 49 #[.int .i64 (max S.fr (arrT ts)), .int .i64 (((j : Nat) : Int) * (s.lk.turn + s.lk.cycle) + ((max S.fr (arrT ts)) - s.lk.turn))] ∧ Below w.heap.size w W) (fun j => p - j) 0 ⟨Nat.zero_le _, q1, q2, q3, hbw⟩ ⟨QIR (by simp) rfl, trivial⟩ ?_
    clear q1 q2 q3 hbw
    rintro j wj ⟨hj, q1, q2, q3, hbw⟩
    by_cases hltj : j < p
    ·
     have hjl := (hplt j).2 hltj;have hjb : 0 ≤ (j : Int) * s.lk.length ∧ (j : Int) * s.lk.length ≤ 3 * 500 := ⟨Int.mul_nonneg (by omega) (by omega), Int.mul_le_mul (by omega) (by omega) (by omega) (by omega)⟩
     have hjc : 0 ≤ (j : Int) * (s.lk.turn + s.lk.cycle) ∧ (j : Int) * (s.lk.turn + s.lk.cycle) ≤ 3 * 1000 := ⟨Int.mul_nonneg (by omega) (by omega), Int.mul_le_mul (by omega) (by omega) (by omega) (by omega)⟩
     have hj1 : ((j + 1 : Nat) : Int) * s.lk.length = j * s.lk.length + s.lk.length := by rw [Int.natCast_add, Int.add_mul]; simp
     have hj2 : ((j + 1 : Nat) : Int) * (s.lk.turn + s.lk.cycle) = j * (s.lk.turn + s.lk.cycle) + (s.lk.turn + s.lk.cycle) := by rw [Int.natCast_add, Int.add_mul]; simp
     have hXL := QFU (n := 2 * j - 1) hSL;have hXW := QGV hSW hSL (2 * j - 1);have hX1 : (mvN (2 * (j + 1) - 1) S).lk.turn = s.lk.turn ∧ (mvN (2 * (j + 1) - 1) S).lk.cycle = s.lk.cycle ∧ (mvN (2 * (j + 1) - 1) S).lk.length = s.lk.length := by obtain ⟨hv, he⟩ := QFV (2 * (j + 1) - 1) S; rw [he]; exact ⟨hSt, hSy, hSl⟩
     have hjz : j = 0 ∨ 0 < j := by omega
     have hjp : 0 < j → 0 < (j : Int) * s.lk.length := fun h => Int.mul_pos (by omega) (by omega)
     refine EC.seq (EC.seq (EC.region (EL.mv rfl rfl ?_)));refine EL.val (Zw (r := true) rfl rfl (decide_eq_true (by have := hplt j; omega))) rfl ?_
     refine EL.nil (EX.seq (EC.yes rfl (EC.skip (EX.seq (EC.seq (EC.block (EC.seq (EC.seq (EC.region ?_)))))))));refine EL.mv rfl rfl (EL.mv rfl rfl ?_)
     by_cases hj0 : 0 < j
     ·
      have hXe : (mvS (mvS (mvN (2 * j - 1) S))) = (mvN (2 * (j + 1) - 1) S) := by rw [show 2 * (j + 1) - 1 = (2 * j - 1) + 1 + 1 by omega]; rfl
      refine EL.val (ZO (r := true) rfl rfl (decide_eq_true (by have := hjp hj0; omega))) rfl ?_
      refine EL.nil (EX.seq (EC.yes rfl (EC.region (EL.val (ZN rfl) rfl ?_))));refine EL.call (cA1 cF76 rfl) rfl (QAA (s := (mvN (2 * j - 1) S)) q1 hXL hXW (by omega)) ?_
      rintro e w31 ⟨rfl, hq31, hg31⟩
      refine ⟨_, rfl, ?_⟩;replace q2 := q2.gr hg31 n1_2.symm;replace q3 := q3.gr hg31 n1_3.symm;replace hbw := ZE hbw hg31 bhbw_1;replace q1 := hq31;clear hg31 hq31;refine EL.nil (EX.seq (EC.seq (EC.region (EL.val (ZN rfl) rfl ?_))));refine EL.call (cA1 cF76 rfl) rfl (QAA (s := (mvS (mvN (2 * j - 1) S))) q1 (QHp hXL) (QHq hXW hXL) (by omega)) ?_
      rintro e w32 ⟨rfl, hq32, hg32⟩
      refine ⟨_, rfl, ?_⟩;replace q2 := q2.gr hg32 n1_2.symm;replace q3 := q3.gr hg32 n1_3.symm;replace hbw := ZE hbw hg32 bhbw_1;replace q1 := hq32;clear hg32 hq32;rw [hXe] at q1;replace q1 : Blk w32 g1 114 (stB (mvN (2 * (j + 1) - 1) S)) := q1;refine EL.nil (EX.seq (EC.region (EL.val (YV rfl) rfl (EL.val (ld_3 rfl (q3.at (j := 1) rfl)) rfl (EL.val (ZN rfl) rfl (EL.val (ZV rfl) rfl (EL.val (QAM rfl) rfl (EL.val (ld_3 rfl (q1.at (j := 2) rfl)) rfl (EL.val (ZN rfl) rfl ?_)))))))));refine EL.val (ZV rfl) rfl (EL.val (QCm rfl) rfl (EL.val (ld_3 rfl (q1.at (j := 1) rfl)) rfl ?_));refine EL.val (x_add rfl rfl (c := s.lk.turn + s.lk.cycle) ((IntWalk.i64_in _ ⟨by omega, by omega⟩).trans (by rw [hX1.1, hX1.2.1]))) rfl ?_
      refine EL.val (x_add rfl rfl (c := ((j + 1 : Nat) : Int) * (s.lk.turn + s.lk.cycle) + ((max S.fr (arrT ts)) - s.lk.turn)) ((IntWalk.i64_in _ ⟨by omega, by omega⟩).trans (by omega))) rfl ?_
      refine EL.val (YV rfl) rfl (EL.store rfl rfl q3 sz_3 rfl rfl rfl rfl ?_);intro w33 hq33 hg33;replace q1 := q1.gr hg33 n1_3;replace q2 := q2.gr hg33 n2_3;replace hbw := ZE hbw hg33 bhbw_3;replace q3 := hq33;clear hg33 hq33;refine EL.nil (EX.blk (EX.seq (EC.region (EL.mv rfl rfl (EL.val (ZN rfl) rfl (EL.val (ZV rfl) rfl (EL.val (QA9 rfl) rfl (EL.val (ld_3 rfl (q1.at (j := 0) rfl)) rfl ?_))))))));refine EL.val (Z_ rfl rfl (c := Zq ts - ((j + 1 : Nat) : Int) * s.lk.length) ((IntWalk.i64_in _ ⟨by omega, by omega⟩).trans (by rw [hX1.2.2]; omega))) rfl ?_
      refine EL.as rfl rfl (EL.nil ?_);refine EX.roundD (j + 1) ⟨rfl, trivial⟩ (by repeat first | with_reducible exact .refl _ | refine sp_ rfl ?_ | exact .refl _ | refine sd_ rfl ?_ | refine sn_ ?_) ⟨hltj, q1, q2, q3, hbw⟩ (by omega)
     ·
      have hXe : (mvS (mvN (2 * j - 1) S)) = (mvN (2 * (j + 1) - 1) S) := by rw [show j = 0 by omega]; rfl
      refine EL.val (ZO (r := false) rfl rfl (decide_eq_false (by rw [show j = 0 by omega]; simp))) rfl ?_
      refine EL.nil (EX.seq (EC.no rfl (EC.skip (EX.seq (EC.seq (EC.region (EL.val (ZN rfl) rfl ?_)))))));refine EL.call (cA1 cF76 rfl) rfl (QAA (s := (mvN (2 * j - 1) S)) q1 hXL hXW (by omega)) ?_
      rintro e w34 ⟨rfl, hq34, hg34⟩
      refine ⟨_, rfl, ?_⟩;replace q2 := q2.gr hg34 n1_2.symm;replace q3 := q3.gr hg34 n1_3.symm;replace hbw := ZE hbw hg34 bhbw_1;replace q1 := hq34;clear hg34 hq34;rw [hXe] at q1;replace q1 : Blk w34 g1 114 (stB (mvN (2 * (j + 1) - 1) S)) := q1;refine EL.nil (EX.seq (EC.region (EL.val (YV rfl) rfl (EL.val (ld_3 rfl (q3.at (j := 1) rfl)) rfl (EL.val (ZN rfl) rfl (EL.val (ZV rfl) rfl (EL.val (QAM rfl) rfl (EL.val (ld_3 rfl (q1.at (j := 2) rfl)) rfl (EL.val (ZN rfl) rfl ?_)))))))));refine EL.val (ZV rfl) rfl (EL.val (QCm rfl) rfl (EL.val (ld_3 rfl (q1.at (j := 1) rfl)) rfl ?_));refine EL.val (x_add rfl rfl (c := s.lk.turn + s.lk.cycle) ((IntWalk.i64_in _ ⟨by omega, by omega⟩).trans (by rw [hX1.1, hX1.2.1]))) rfl ?_
      refine EL.val (x_add rfl rfl (c := ((j + 1 : Nat) : Int) * (s.lk.turn + s.lk.cycle) + ((max S.fr (arrT ts)) - s.lk.turn)) ((IntWalk.i64_in _ ⟨by omega, by omega⟩).trans (by omega))) rfl ?_
      refine EL.val (YV rfl) rfl (EL.store rfl rfl q3 sz_3 rfl rfl rfl rfl ?_);intro w35 hq35 hg35;replace q1 := q1.gr hg35 n1_3;replace q2 := q2.gr hg35 n2_3;replace hbw := ZE hbw hg35 bhbw_3;replace q3 := hq35;clear hg35 hq35;refine EL.nil (EX.blk (EX.seq (EC.region (EL.mv rfl rfl (EL.val (ZN rfl) rfl (EL.val (ZV rfl) rfl (EL.val (QA9 rfl) rfl (EL.val (ld_3 rfl (q1.at (j := 0) rfl)) rfl ?_))))))));refine EL.val (Z_ rfl rfl (c := Zq ts - ((j + 1 : Nat) : Int) * s.lk.length) ((IntWalk.i64_in _ ⟨by omega, by omega⟩).trans (by rw [hX1.2.2]; omega))) rfl ?_
      refine EL.as rfl rfl (EL.nil ?_);refine EX.roundD (j + 1) ⟨rfl, trivial⟩ (by repeat first | with_reducible exact .refl _ | refine sp_ rfl ?_ | exact .refl _ | refine sd_ rfl ?_ | refine sn_ ?_) ⟨hltj, q1, q2, q3, hbw⟩ (by omega)
    ·
     obtain rfl : j = p := by omega
     rw [← hmd] at q1;have hMB := QGV hSW hSL (2 * j - 1);have hMr := QD7 (2 * j - 1) S;rw [← hmd] at hMB hMr
     generalize runT s ts u = Rn at *
     generalize midS s ts u = M at *
     have hRs : (max S.fr (arrT ts)) = Rn.start := by rw [hrd]
     have hRe : ((j : Nat) : Int) * (s.lk.turn + s.lk.cycle) + ((max S.fr (arrT ts)) - s.lk.turn) = Rn.stop := by rw [hrd]; simp only; omega
     rw [hRe, hRs] at q3;have hMB2 := hMB.mono (M := 100000000) (by omega)
     refine EC.seq (EC.seq (EC.region (EL.mv rfl rfl ?_)));refine EL.val (Zw (r := false) rfl rfl (decide_eq_false (by have := hplt j; omega))) rfl ?_
     refine EL.nil (EX.seq (EC.no rfl (EC.exit (EX.seq_exit (EX.seq_exit (EX.blk_here (EX.seq (EC.seq (EC.seq ?_)))))))));refine EC.region (EL.mv rfl rfl (EL.val (Yg rfl) rfl (EL.mv rfl rfl (EL.nil (EX.seq (EC.block ?_))))));have hO0 : outS M (ts.take 0) u Rn.stop = M := QGO M u Rn.stop;rw [← hO0] at q1;refine EC.loopD [15, 16, 109, 110, 111, 112, 113, 114, 115, 116, 117, 118, 119, 120, 121, 122, 123, 124, 125, 126, 127, 128, 129, 130, 131, 132, 133, 134, 135, 136, 137, 138, 139, 140, 141, 142, 143, 144, 145, 146, 147, 148, 149, 150, 151, 152, 153] (fun k : Nat => [(109, .int .i64 (k : Nat))]) (fun k W => k ≤ ts.length ∧ Blk W g1 114 (stB (outS M (ts.take k) u Rn.stop)) ∧ Blk W g2 114 #[.int .i64 0, .int .i64 0, .int .i64 0, .int .i64 0, .int .i64 0, .bool false, .int .i64 0, .int .i64 0, .int .i64 0, .int .i64 0, .int .i64 0, .int .i64 0, .int .i64 0, .int .i64 0, .int .i64 0] ∧ Blk W g3 49 #[.int .i64 Rn.start, .int .i64 Rn.stop] ∧ Below w.heap.size w W) (fun k => ts.length - k) 0 ⟨Nat.zero_le _, q1, q2, q3, hbw⟩ ⟨rfl, trivial⟩ ?_
     clear q1 q2 q3 hbw
     rintro k wk ⟨hk, q1, q2, q3, hbw⟩
     by_cases hltk : k < ts.length
     ·
      obtain ⟨b, o, rfl, _, cc⟩ := Ya ts k hltk w B _ _ _ hr;have hy := hts _ (Zo hltk tw0);have hos := QEt M (ts.take k) (ts.getD k tw0) u Rn.stop;rw [← Z1 hltk] at hos;obtain ⟨ob1, ob2, ob3⟩ := QJb (e := Rn.stop) u hMB2 hts h8n ⟨by omega, by omega⟩ k
      generalize ts.getD k tw0 = y at cc hy hos
      obtain ⟨y1, y2, y3, y4⟩ := QBA hy;have hcb := QFk (e := Rn.stop) hy ⟨by omega, by omega⟩
      have hpb := QHg u hy;have hwb := QI3 u;refine EC.seq (EC.region ?_);refine EL.val (ZO (r := true) rfl rfl (decide_eq_true (by omega))) rfl ?_
      refine EL.nil (EX.seq (EC.seq (EC.yes rfl (EC.skip (EX.seq (EC.seq (EC.block (EC.seq (EC.region ?_)))))))));refine EL.val (QAv rfl rfl hltk) rfl (EL.val (QAt rfl (ZC hbw cc.c0) (ZC hbw cc.c1) (ZC hbw cc.c2) (ZC hbw cc.c3) (ZC hbw cc.c4)) rfl (EL.newP QIQ rfl ?_));intro g36 w36 q36 hb36 hg36 hl36;have n1_36 := q1.na hg36;have n2_36 := q2.na hg36;have n3_36 := q3.na hg36;have bhbw_36 := Nat.le_trans hbw.size hg36;replace q1 := q1.bl hb36;replace q2 := q2.bl hb36;replace q3 := q3.bl hb36;replace hbw := bo_ hbw hb36;clear hb36 hg36 hl36;refine EL.store rfl rfl q36 QEn rfl rfl rfl rfl ?_;intro w37 hq37 hg37;replace q1 := q1.gr hg37 n1_36;replace q2 := q2.gr hg37 n2_36;replace q3 := q3.gr hg37 n3_36;replace hbw := ZE hbw hg37 bhbw_36;replace q36 := hq37;clear hg37 hq37;refine EL.nil (EX.seq (EC.seq (EC.region (EL.val (YS rfl) rfl (EL.val (ld_3 rfl (q1.at (j := 14) rfl)) rfl (EL.val (QFh rfl) rfl (EL.val (ld_3 rfl (q36.at (j := 3) rfl)) rfl (EL.val (YV rfl) rfl (EL.val (ld_3 rfl (q3.at (j := 1) rfl)) rfl ?_)))))))));refine EL.val (QBs rfl) rfl (EL.val (ld_3 rfl (q36.at (j := 1) rfl)) rfl ?_);refine EL.val (Z_ rfl rfl (by first | assumption | exact IntWalk.i64_in _ ⟨by omega, by omega⟩)) rfl ?_
      refine EL.val (QAY rfl rfl (by first | assumption | exact IntWalk.i64_in _ ⟨by omega, by omega⟩)) rfl ?_
      refine EL.val (x_add rfl rfl (by first | assumption | exact IntWalk.i64_in _ ⟨by omega, by omega⟩)) rfl ?_
      refine EL.val (YS rfl) rfl (EL.store rfl rfl q1 sz_3 rfl rfl rfl rfl ?_);intro w38 hq38 hg38;replace q2 := q2.gr hg38 n1_2.symm;replace q3 := q3.gr hg38 n1_3.symm;replace q36 := q36.gr hg38 n1_36.symm;replace hbw := ZE hbw hg38 bhbw_1;replace q1 := hq38;clear hg38 hq38;refine EL.nil (EX.seq (EC.seq (EC.region (EL.val (QFg rfl) rfl (EL.val (ld_3 rfl (q36.at (j := 4) rfl)) rfl (EL.mv rfl rfl ?_))))));refine EL.val (QAY rfl rfl (by first | assumption | exact IntWalk.i64_in _ ⟨by omega, by omega⟩)) rfl ?_
      refine EL.val (Z_ rfl rfl (by first | assumption | exact IntWalk.i64_in _ ⟨by omega, by omega⟩)) rfl ?_
      refine EL.val (QAY rfl rfl (by first | assumption | exact IntWalk.i64_in _ ⟨by omega, by omega⟩)) rfl ?_
      refine EL.as rfl rfl (EL.nil (EX.seq (EC.region (EL.val (ZN rfl) rfl (EL.val (ZW rfl) rfl (EL.val (Zf rfl) rfl (EL.val (Y8 rfl) rfl (EL.val (ld_3 rfl (q1.at (j := 6) rfl)) rfl (EL.mv rfl rfl ?_)))))))));refine EL.val (Z_ rfl rfl (by first | assumption | exact IntWalk.i64_in _ ⟨by omega, by omega⟩)) rfl ?_
      refine EL.val (ZN rfl) rfl (EL.val (ZW rfl) rfl (EL.val (Zf rfl) rfl (EL.val (QBt rfl) rfl (EL.val (ld_3 rfl (q1.at (j := 7) rfl)) rfl (EL.mv rfl rfl ?_)))));refine EL.val (x_add rfl rfl (by first | assumption | exact IntWalk.i64_in _ ⟨by omega, by omega⟩)) rfl ?_
      refine EL.val (ZN rfl) rfl (EL.val (ZW rfl) rfl (EL.val (Zf rfl) rfl (EL.val (Y8 rfl) rfl (EL.store rfl rfl q1 sz_3 rfl rfl rfl rfl ?_))));intro w39 hq39 hg39;replace q2 := q2.gr hg39 n1_2.symm;replace q3 := q3.gr hg39 n1_3.symm;replace q36 := q36.gr hg39 n1_36.symm;replace hbw := ZE hbw hg39 bhbw_1;replace q1 := hq39;clear hg39 hq39;refine EL.val (ZN rfl) rfl (EL.val (ZW rfl) rfl (EL.val (Zf rfl) rfl (EL.val (QBt rfl) rfl (EL.store rfl rfl q1 sz_3 rfl rfl rfl rfl ?_))));intro w40 hq40 hg40;replace q2 := q2.gr hg40 n1_2.symm;replace q3 := q3.gr hg40 n1_3.symm;replace q36 := q36.gr hg40 n1_36.symm;replace hbw := ZE hbw hg40 bhbw_1;replace q1 := hq40;clear hg40 hq40;refine EL.nil (EX.blk (EX.seq (EC.region ?_)));refine EL.val (x_add rfl rfl (c := ((k + 1 : Nat) : Int)) ((IntWalk.i64_in _ ⟨by first | omega | (simp only; omega), by first | omega | (simp only; omega)⟩).trans (by first | omega | (simp only; omega)))) rfl ?_
      refine EL.mv rfl rfl (EL.nil ?_);refine EX.roundD (k + 1) ⟨rfl, trivial⟩ (by repeat first | with_reducible exact .refl _ | refine sp_ rfl ?_ | exact .refl _ | refine sd_ rfl ?_ | refine sn_ ?_) ⟨hltk, (by rw [hos]; exact q1), q2, q3, hbw⟩ (by omega)
     ·
      obtain rfl : k = ts.length := by omega
      rw [List.take_length] at q1;refine EC.seq (EC.region ?_);refine EL.val (ZO (r := false) rfl rfl (decide_eq_false (by omega))) rfl ?_
      refine EL.nil (EX.seq (EC.seq (EC.no rfl (EC.exit (EX.seq_exit (EX.seq_exit (EX.blk_here (EX.seq (EC.seq ?_)))))))));refine EC.region (EL.val (YV rfl) rfl (EL.val (ld_3 rfl (q3.at (j := 1) rfl)) rfl (EL.val (ZN rfl) rfl (EL.val (QAD rfl) rfl (EL.store rfl rfl q1 sz_3 rfl rfl rfl rfl ?_)))));intro w41 hq41 hg41;replace q2 := q2.gr hg41 n1_2.symm;replace q3 := q3.gr hg41 n1_3.symm;replace hbw := ZE hbw hg41 bhbw_1;replace q1 := hq41;clear hg41 hq41;refine EL.nil (EX.seq (EC.seq (EC.region (EL.mv rfl rfl (EL.val (Zp rfl) rfl ?_)))));have hot0 : (outS M ts u Rn.stop).t0 = M.t0 := rfl;have hot1 : (outS M ts u Rn.stop).t1 = M.t1 := rfl;have ht0 : M.t0 = s.t0 := hMr.2.1.trans hSr.1;have ht1 : M.t1 = s.t1 := hMr.2.2.1.trans hSr.2.1
      cases u
      ·
       refine EL.val (Zj (k := 0) rfl rfl (by omega)) rfl ?_
       refine EL.val (ld_3 rfl (q1.at (j := 12) rfl)) rfl (EL.mv rfl rfl (EL.val (Yg rfl) rfl ?_));refine EL.val (x_add rfl rfl (c := ((M.t0 + ts.length : Nat) : Int)) ((IntWalk.i64_in _ ⟨by omega, by omega⟩).trans (by show _ = ((M.t0 + ts.length : Nat) : Int); omega))) rfl ?_
       refine EL.val (Zp rfl) rfl ?_;refine EL.val (Zj (k := 0) rfl rfl (by omega)) rfl ?_
       refine EL.store rfl rfl q1 sz_3 rfl rfl rfl rfl ?_;intro w42 hq42 hg42;replace q2 := q2.gr hg42 n1_2.symm;replace q3 := q3.gr hg42 n1_3.symm;replace hbw := ZE hbw hg42 bhbw_1;replace q1 := hq42;clear hg42 hq42;refine EL.nil (EX.seq (EC.seq ?_));replace q1 : Blk w42 g1 114 (stB (tkS s ts false)) := by rw [htk]; exact q1
       have lt_1 := q1.lt;have lt_2 := q2.lt;have lt_3 := q3.lt;refine EC.regionS [[], [], [0], [0, 1, 2], [0, 1, 2, 3]] 3 [] [2] (fun fl w_ => w42.grownBy w_ (some g2) ∧ (fl 2 = false → Blk w_ g2 114 _)) (phiS (fun i_ r => match i_ with | 0 => r 0 = (stA (tkS s ts false)) | 1 => r 1 = .agg #[.int .i64 Rn.start, .int .i64 Rn.stop] | _ => True) [(2, fun _ r w_ => Blk w_ g2 114 (stB (tkS s ts false)))]) (by kernel_rfl) rfl rfl (by intro i hi; simp at hi; first | (subst hi; exact ⟨by simp, by omega⟩) | (rcases hi with rfl | rfl | rfl <;> exact ⟨by simp, by omega⟩) | (rcases hi with rfl | rfl <;> exact ⟨by simp, by omega⟩)) (Yy q2) (ZL QAN (Zd)) (fun i_ hi_ hs_ => ?_) (fun i_ hi_ => ?_) ?_
       ·match i_, hi_ with
        | 0, _ =>
         intro val fl w1 a hb ha hd hfl;obtain ⟨hb, hg0⟩ := hb;have ha := ha.s0 (d := 3) rfl
         exact ZD ha rfl rfl (Z8 rfl ((q1.grown hb (fun h => n1_2 (Option.some.inj h))).at (j := 0) rfl) ((q1.grown hb (fun h => n1_2 (Option.some.inj h))).at (j := 1) rfl) ((q1.grown hb (fun h => n1_2 (Option.some.inj h))).at (j := 2) rfl) ((q1.grown hb (fun h => n1_2 (Option.some.inj h))).at (j := 3) rfl) ((q1.grown hb (fun h => n1_2 (Option.some.inj h))).at (j := 4) rfl) ((q1.grown hb (fun h => n1_2 (Option.some.inj h))).at (j := 5) rfl) ((q1.grown hb (fun h => n1_2 (Option.some.inj h))).at (j := 6) rfl) ((q1.grown hb (fun h => n1_2 (Option.some.inj h))).at (j := 7) rfl) ((q1.grown hb (fun h => n1_2 (Option.some.inj h))).at (j := 8) rfl) ((q1.grown hb (fun h => n1_2 (Option.some.inj h))).at (j := 9) rfl) ((q1.grown hb (fun h => n1_2 (Option.some.inj h))).at (j := 10) rfl) ((q1.grown hb (fun h => n1_2 (Option.some.inj h))).at (j := 11) rfl) ((q1.grown hb (fun h => n1_2 (Option.some.inj h))).at (j := 12) rfl) ((q1.grown hb (fun h => n1_2 (Option.some.inj h))).at (j := 13) rfl) ((q1.grown hb (fun h => n1_2 (Option.some.inj h))).at (j := 14) rfl)) rfl rfl
        | 1, _ =>
         intro val fl w1 a hb ha hd hfl;obtain ⟨hb, hg0⟩ := hb;have ha := ha.s0 (d := 7) rfl
         exact ZD ha rfl rfl (QDE rfl ((q3.grown hb (fun h => n2_3.symm (Option.some.inj h))).at (j := 0) rfl) ((q3.grown hb (fun h => n2_3.symm (Option.some.inj h))).at (j := 1) rfl)) rfl rfl
        | 2, _ =>
         exact absurd (by simp) hs_
        | k + 3, h => exact absurd h (by omega)
       ·simp only [List.mem_singleton] at hi_; subst hi_
        intro val fl w1 a hb hfi ha hd hfl;obtain ⟨hb, hg0⟩ := hb;have e0 : val 0 = _ := hd 0 (ZA.1 rfl);have ha := ha.sub (Sub.ins (d := 167) (Sub.ins (d := 6) (Sub.nil _) rfl) (ZQ rfl e0));refine ZY ha rfl rfl rfl (hg0 hfi) Z5 rfl rfl rfl rfl ?_;intro w' hq hgr;refine ⟨undef, rfl, hgr.size, ⟨YB hb hgr, fun h => by rw [ZR] at h; cases h⟩, hq, fun j _ hj hn hA => ?_⟩
        exact ZF (C := fun j => j ≠ 2 ∧ 2 ∉ clsAt [[], [], [0], [0, 1, 2], [0, 1, 2, 3]] j ∧ ∀ p ∈ [], (p = j ∨ p ∈ clsAt [[], [], [0], [0, 1, 2], [0, 1, 2, 3]] j) → ∀ q ∈ [], (q = 2 ∨ q ∈ clsAt [[], [], [0], [0, 1, 2], [0, 1, 2, 3]] 2) → p ≠ q → val p ≠ val q) (fun hc => absurd rfl hc.1) (fun _ _ h => h) j ⟨hj, hn, hA⟩
       ·intro val fl wR30 hfl hb halc hd
        obtain ⟨hb, _⟩ := hb;have e0 : val 0 = _ := hd 0 (by omega)
        have e1 : val 1 = _ := hd 1 (by omega)
        refine EL.ends (cs := [_, _, val 2]) ⟨e0, e1, rfl, trivial⟩ rfl ?_;replace q1 := q1.gr hb n1_2;have q2 : Blk wR30 g2 114 (stB (tkS s ts false)) := hd 2 (by omega)
        replace q3 := q3.gr hb n2_3.symm;replace hbw := ZE hbw hb bhbw_2;refine EL.store rfl rfl q3 QAm rfl rfl rfl rfl ?_;intro w43 hq43 hg43;replace q1 := q1.gr hg43 n1_3;replace q2 := q2.gr hg43 n2_3;replace hbw := ZE hbw hg43 bhbw_3;replace q3 := hq43;clear hg43 hq43;refine EL.as rfl rfl (EL.nil (EX.seq (EC.ret ?_)))
        exact EX.done (QDz rfl rfl rfl rfl (QAF (q2.at (j := 0) rfl) (q2.at (j := 1) rfl) (q2.at (j := 2) rfl) (q2.at (j := 3) rfl) (q2.at (j := 4) rfl) (q2.at (j := 5) rfl) (q2.at (j := 6) rfl) (q2.at (j := 7) rfl) (q2.at (j := 8) rfl) (q2.at (j := 9) rfl) (q2.at (j := 10) rfl) (q2.at (j := 11) rfl) (q2.at (j := 12) rfl) (q2.at (j := 13) rfl) (q2.at (j := 14) rfl)) (QGY (q3.at (j := 0) rfl) (q3.at (j := 1) rfl))) ⟨by rw [hfit]; rfl, hbw⟩
      ·
       refine EL.val (Zj (k := 1) rfl rfl (by omega)) rfl ?_
       refine EL.val (ld_3 rfl (q1.at (j := 13) rfl)) rfl (EL.mv rfl rfl (EL.val (Yg rfl) rfl ?_));refine EL.val (x_add rfl rfl (c := ((M.t1 + ts.length : Nat) : Int)) ((IntWalk.i64_in _ ⟨by omega, by omega⟩).trans (by show _ = ((M.t1 + ts.length : Nat) : Int); omega))) rfl ?_
       refine EL.val (Zp rfl) rfl ?_;refine EL.val (Zj (k := 1) rfl rfl (by omega)) rfl ?_
       refine EL.store rfl rfl q1 sz_3 rfl rfl rfl rfl ?_;intro w44 hq44 hg44;replace q2 := q2.gr hg44 n1_2.symm;replace q3 := q3.gr hg44 n1_3.symm;replace hbw := ZE hbw hg44 bhbw_1;replace q1 := hq44;clear hg44 hq44;refine EL.nil (EX.seq (EC.seq ?_));replace q1 : Blk w44 g1 114 (stB (tkS s ts true)) := by rw [htk]; exact q1
       have lt_1 := q1.lt;have lt_2 := q2.lt;have lt_3 := q3.lt;refine EC.regionS [[], [], [0], [0, 1, 2], [0, 1, 2, 3]] 3 [] [2] (fun fl w_ => w44.grownBy w_ (some g2) ∧ (fl 2 = false → Blk w_ g2 114 _)) (phiS (fun i_ r => match i_ with | 0 => r 0 = (stA (tkS s ts true)) | 1 => r 1 = .agg #[.int .i64 Rn.start, .int .i64 Rn.stop] | _ => True) [(2, fun _ r w_ => Blk w_ g2 114 (stB (tkS s ts true)))]) (by kernel_rfl) rfl rfl (by intro i hi; simp at hi; first | (subst hi; exact ⟨by simp, by omega⟩) | (rcases hi with rfl | rfl | rfl <;> exact ⟨by simp, by omega⟩) | (rcases hi with rfl | rfl <;> exact ⟨by simp, by omega⟩)) (Yy q2) (ZL QAN (Zd)) (fun i_ hi_ hs_ => ?_) (fun i_ hi_ => ?_) ?_
       ·match i_, hi_ with
        | 0, _ =>
         intro val fl w1 a hb ha hd hfl;obtain ⟨hb, hg0⟩ := hb;have ha := ha.s0 (d := 3) rfl
         exact ZD ha rfl rfl (Z8 rfl ((q1.grown hb (fun h => n1_2 (Option.some.inj h))).at (j := 0) rfl) ((q1.grown hb (fun h => n1_2 (Option.some.inj h))).at (j := 1) rfl) ((q1.grown hb (fun h => n1_2 (Option.some.inj h))).at (j := 2) rfl) ((q1.grown hb (fun h => n1_2 (Option.some.inj h))).at (j := 3) rfl) ((q1.grown hb (fun h => n1_2 (Option.some.inj h))).at (j := 4) rfl) ((q1.grown hb (fun h => n1_2 (Option.some.inj h))).at (j := 5) rfl) ((q1.grown hb (fun h => n1_2 (Option.some.inj h))).at (j := 6) rfl) ((q1.grown hb (fun h => n1_2 (Option.some.inj h))).at (j := 7) rfl) ((q1.grown hb (fun h => n1_2 (Option.some.inj h))).at (j := 8) rfl) ((q1.grown hb (fun h => n1_2 (Option.some.inj h))).at (j := 9) rfl) ((q1.grown hb (fun h => n1_2 (Option.some.inj h))).at (j := 10) rfl) ((q1.grown hb (fun h => n1_2 (Option.some.inj h))).at (j := 11) rfl) ((q1.grown hb (fun h => n1_2 (Option.some.inj h))).at (j := 12) rfl) ((q1.grown hb (fun h => n1_2 (Option.some.inj h))).at (j := 13) rfl) ((q1.grown hb (fun h => n1_2 (Option.some.inj h))).at (j := 14) rfl)) rfl rfl
        | 1, _ =>
         intro val fl w1 a hb ha hd hfl;obtain ⟨hb, hg0⟩ := hb;have ha := ha.s0 (d := 7) rfl
         exact ZD ha rfl rfl (QDE rfl ((q3.grown hb (fun h => n2_3.symm (Option.some.inj h))).at (j := 0) rfl) ((q3.grown hb (fun h => n2_3.symm (Option.some.inj h))).at (j := 1) rfl)) rfl rfl
        | 2, _ =>
         exact absurd (by simp) hs_
        | k + 3, h => exact absurd h (by omega)
       ·simp only [List.mem_singleton] at hi_; subst hi_
        intro val fl w1 a hb hfi ha hd hfl;obtain ⟨hb, hg0⟩ := hb;have e0 : val 0 = _ := hd 0 (ZA.1 rfl);have ha := ha.sub (Sub.ins (d := 167) (Sub.ins (d := 6) (Sub.nil _) rfl) (ZQ rfl e0));refine ZY ha rfl rfl rfl (hg0 hfi) Z5 rfl rfl rfl rfl ?_;intro w' hq hgr;refine ⟨undef, rfl, hgr.size, ⟨YB hb hgr, fun h => by rw [ZR] at h; cases h⟩, hq, fun j _ hj hn hA => ?_⟩
        exact ZF (C := fun j => j ≠ 2 ∧ 2 ∉ clsAt [[], [], [0], [0, 1, 2], [0, 1, 2, 3]] j ∧ ∀ p ∈ [], (p = j ∨ p ∈ clsAt [[], [], [0], [0, 1, 2], [0, 1, 2, 3]] j) → ∀ q ∈ [], (q = 2 ∨ q ∈ clsAt [[], [], [0], [0, 1, 2], [0, 1, 2, 3]] 2) → p ≠ q → val p ≠ val q) (fun hc => absurd rfl hc.1) (fun _ _ h => h) j ⟨hj, hn, hA⟩
       ·intro val fl wR30 hfl hb halc hd
        obtain ⟨hb, _⟩ := hb;have e0 : val 0 = _ := hd 0 (by omega)
        have e1 : val 1 = _ := hd 1 (by omega)
        refine EL.ends (cs := [_, _, val 2]) ⟨e0, e1, rfl, trivial⟩ rfl ?_;replace q1 := q1.gr hb n1_2;have q2 : Blk wR30 g2 114 (stB (tkS s ts true)) := hd 2 (by omega)
        replace q3 := q3.gr hb n2_3.symm;replace hbw := ZE hbw hb bhbw_2;refine EL.store rfl rfl q3 QAm rfl rfl rfl rfl ?_;intro w45 hq45 hg45;replace q1 := q1.gr hg45 n1_3;replace q2 := q2.gr hg45 n2_3;replace hbw := ZE hbw hg45 bhbw_3;replace q3 := hq45;clear hg45 hq45;refine EL.as rfl rfl (EL.nil (EX.seq (EC.ret ?_)))
        exact EX.done (QDz rfl rfl rfl rfl (QAF (q2.at (j := 0) rfl) (q2.at (j := 1) rfl) (q2.at (j := 2) rfl) (q2.at (j := 3) rfl) (q2.at (j := 4) rfl) (q2.at (j := 5) rfl) (q2.at (j := 6) rfl) (q2.at (j := 7) rfl) (q2.at (j := 8) rfl) (q2.at (j := 9) rfl) (q2.at (j := 10) rfl) (q2.at (j := 11) rfl) (q2.at (j := 12) rfl) (q2.at (j := 13) rfl) (q2.at (j := 14) rfl)) (QGY (q3.at (j := 0) rfl) (q3.at (j := 1) rfl))) ⟨by rw [hfit]; rfl, hbw⟩
section
variable {n : Nat} {σ : Sg} {w : World} {dst : Option Tmp} {ty : TypeId} {pos : String} {af : Array Edge} {g : Option (Nat × Bool)} {x y z : Operand} {at' : Array TypeId}
theorem cF87 : cF 87 := fun _ _ => by simp [go_sem]
theorem QL2 : cF 116 := fun _ _ => by simp [go_sem]
theorem QL4 {v0 v1 : Value} (hx : evS σ x = some (.agg #[v0, v1])) (a : Act) (ha : Env n σ a) : (execOp a.eval ⟨dst, .box 87 x, ty, pos, af, g⟩).run Try.prog w = .ok (.value (.pointer (some ⟨w.heap.size, 0, none⟩))) (w.alloc (.cells #[v0, v1] 87)) := by
 simp only [execOp, ha.eval hx]
 simp [go_sem]
theorem QDf {b o : Nat} (hx : evS σ x = some (.pointer (some ⟨b, o, none⟩))) : ZI Try.prog n σ w ⟨dst, .fieldAddr 87 x 0, ty, pos, af, g⟩ (.pointer (some ⟨b, o, none⟩)) := fun a ha => by
 simp only [execOp, ha.eval hx]
 simp [go_sem]
theorem cF56 : cF 56 := fun _ _ => by simp [go_sem]
theorem QNG : cF 115 := fun _ _ => by simp [go_sem]
theorem Y7 {b o : Nat} (hx : evS σ x = some (.pointer (some ⟨b, o, none⟩))) : ZI Try.prog n σ w ⟨dst, .fieldAddr 87 x 1, ty, pos, af, g⟩ (.pointer (some ⟨b, o + 1, none⟩)) := fun a ha => by
 simp only [execOp, ha.eval hx]
 simp [go_sem]
theorem cF75 : cF 75 := fun _ _ => by simp [go_sem]
theorem QL3 : cF 112 := fun _ _ => by simp [go_sem]
theorem QB0 {A : Option Addr} {m c : Nat} (hx : evS σ x = some (.slice A m c)) : ZI Try.prog n σ w ⟨dst, .call { callee := .builtin .len, args := #[x], argTypes := #[25] }, ty, pos, af, g⟩ (.int .i64 (m : Int)) := fun a ha => by
 simp only [execOp, resolve, List.map_toArray, List.map_cons, List.map_nil, ha.eval hx]
 simp [go_sem]
theorem QE0 {b o m c k : Nat} (hx : evS σ x = some (.slice (some ⟨b, o, none⟩) m c)) (hy : evS σ y = some (.int .i64 (k : Int))) (hk : k < m) : ZI Try.prog n σ w ⟨dst, .indexAddr 25 x y, ty, pos, af, g⟩ (.pointer (some ⟨b, o + k * 2, none⟩)) := fun a ha => by
 have k0 : (0 : Int) ≤ (k : Int) := Int.natCast_nonneg _;have k1 : (k : Int) < (m : Int) := by omega
 simp only [execOp, ha.eval hx, ha.eval hy]
 simp [go_sem, k0, k1]
theorem QDD {b o : Nat} {v0 v1 : Value} (hx : evS σ x = some (.pointer (some ⟨b, o, none⟩))) (c0 : w.cell? ⟨b, o, none⟩ = some v0) (c1 : w.cell? ⟨b, o + 1, none⟩ = some v1) : ZI Try.prog n σ w ⟨dst, .load 87 x, ty, pos, af, g⟩ (.agg #[v0, v1]) := fun a ha => by
 simp only [execOp, ha.eval hx]
 simp [go_sem, c0, c1]
theorem QIO (a : Act) (_ : Env n σ a) : (execOp a.eval ⟨dst, .alloc 87, ty, pos, af, g⟩).run Try.prog w = .ok (.value (.pointer (some ⟨w.heap.size, 0, none⟩))) (w.alloc (.cells #[.bool false, .int .i64 0] 87)) := by
 simp only [execOp]
 simp [go_sem]
theorem QHW : (Try.prog.info? 87).map (·.size) = some 2 := by kernel_rfl
theorem QEf {xf x0 x1 : Operand} {v0 v1 : Value} (hf : evS σ xf = some (.func (.func 114) #[] #[])) (h0 : evS σ x0 = some v0) (h1 : evS σ x1 = some v1) (a : Act) (ha : Env n σ a) : (execOp a.eval ⟨dst, .call { callee := .value xf, args := #[x0, x1], argTypes := at' }, ty, pos, af, g⟩).run Try.prog w = .ok (.enter 114 #[v0, v1]) w := by
 simp only [execOp, resolve, List.map_toArray, List.map_cons, List.map_nil, ha.eval hf, ha.eval h0, ha.eval h1]
 simp [go_sem, Deferred.ofValue]
theorem Ze {b o : Nat} (hx : evS σ x = some (.pointer (some ⟨b, o, none⟩))) : ZI Try.prog n σ w ⟨dst, .fieldAddr 124 x 0, ty, pos, af, g⟩ (.pointer (some ⟨b, o, none⟩)) := fun a ha => by
 simp only [execOp, ha.eval hx]
 simp [go_sem]
theorem QAW {b o : Nat} (hx : evS σ x = some (.pointer (some ⟨b, o, none⟩))) : ZI Try.prog n σ w ⟨dst, .fieldAddr 124 x 1, ty, pos, af, g⟩ (.pointer (some ⟨b, o + 15, none⟩)) := fun a ha => by
 simp only [execOp, ha.eval hx]
 simp [go_sem]
theorem QED {b o : Nat} {v0 : Value} (hx : evS σ x = some (.pointer (some ⟨b, o, none⟩))) (c0 : w.cell? ⟨b, o, none⟩ = some v0) : ZI Try.prog n σ w ⟨dst, .load 25 x, ty, pos, af, g⟩ (v0) := fun a ha => by
 simp only [execOp, ha.eval hx]
 simp [go_sem, c0]
theorem QNH : cF 113 := fun _ _ => by simp [go_sem]
theorem QKW {x0 x1 x2 : Operand} {z0_0 z1_0 z2_0 : Int} (h0 : evS σ x0 = some (.int .i64 z0_0)) (h1 : evS σ x1 = some (.int .i64 z1_0)) (h2 : evS σ x2 = some (.int .i64 z2_0)) (a : Act) (ha : Env n σ a) : (execOp a.eval ⟨dst, .buildSlice 101 3 #[(0, x0), (1, x1), (2, x2)], ty, pos, af, g⟩).run Try.prog w = .ok (.value (.slice (some ⟨w.heap.size, 0, none⟩) 3 3)) (w.alloc (.cells #[.int .i64 z0_0, .int .i64 z1_0, .int .i64 z2_0] 3)) := by
 simp only [execOp, List.map_toArray, List.map_cons, List.map_nil, ha.eval h0, ha.eval h1, ha.eval h2]
 go_simp
end
theorem QHo (a : Int) (w : World) : Calls Try.prog 87 #[.int .i64 a] w fun e w' => e = .returned (.bool false) ∧ Below w.heap.size w w' := by
 have hbw := Below.refl w.heap.size w;refine EC.enter 6 Try.func87 rfl rfl rfl (EC.seq (EC.region (EL.as rfl rfl (EL.nil (EX.seq (EC.seq (EC.region (EL.mv rfl rfl (EL.mv rfl rfl ?_)))))))));refine EL.val (Zn (r := false) rfl rfl (decide_eq_false (by omega))) rfl ?_
 refine EL.as rfl rfl (EL.nil (EX.seq (EC.ret ?_)))
 exact EX.done (res1 rfl rfl) ⟨rfl, hbw⟩
theorem QAd (a b : Int) (w : World) : Calls Try.prog 75 #[.int .i64 a, .int .i64 b] w fun e w' => e = .returned (.int .i64 (cmpI a b)) ∧ Below w.heap.size w w' := by
 have hbw := Below.refl w.heap.size w;refine EC.enter 20 Try.func75 rfl rfl rfl (EC.seq (EC.region (EL.as rfl rfl (EL.nil (EX.seq (EC.seq (EC.region (EL.mv rfl rfl (EL.call (cA1 cF87 rfl) rfl (QHo _ _) ?_)))))))))
 rintro e w1 ⟨rfl, hc1⟩
 refine ⟨_, rfl, ?_⟩;replace hbw := bo_ hbw hc1;clear hc1;refine EL.as rfl rfl (EL.nil (EX.seq (EC.seq (EC.region (EL.mv rfl rfl (EL.call (cA1 cF87 rfl) rfl (QHo _ _) ?_))))))
 rintro e w2 ⟨rfl, hc2⟩
 refine ⟨_, rfl, ?_⟩;replace hbw := bo_ hbw hc2;clear hc2;refine EL.as rfl rfl (EL.nil (EX.seq (EC.seq (EC.seq (EC.region (EL.mv rfl rfl (EL.nil (EX.seq (EC.no rfl ?_)))))))));refine EC.skip (EX.seq (EC.seq (EC.seq (EC.region (EL.mv rfl rfl (EL.nil (EX.seq (EC.no rfl (EC.skip ?_)))))))));refine EX.seq (EC.seq (EC.seq (EC.region (EL.mv rfl rfl (EL.mv rfl rfl ?_)))))
 by_cases h1 : a < b
 ·
  refine EL.val (ZO (r := true) rfl rfl (decide_eq_true (by omega))) rfl ?_
  refine EL.nil (EX.seq (EC.yes rfl (EC.seq (EC.region (EL.as rfl rfl (EL.nil (EX.seq (EC.ret (EX.seq_ret ?_)))))))))
  exact EX.done (res1 rfl rfl) ⟨by unfold cmpI; simp only [*, if_true, if_false], hbw⟩
 ·
  refine EL.val (ZO (r := false) rfl rfl (decide_eq_false (by omega))) rfl ?_
  refine EL.nil (EX.seq (EC.no rfl (EC.skip (EX.seq (EC.seq (EC.seq (EC.region (EL.mv rfl rfl (EL.mv rfl rfl ?_)))))))))
  by_cases h2 : b < a
  ·
   refine EL.val (Zw (r := true) rfl rfl (decide_eq_true (by omega))) rfl ?_
   refine EL.nil (EX.seq (EC.yes rfl (EC.seq (EC.region (EL.as rfl rfl (EL.nil (EX.seq (EC.ret (EX.seq_ret ?_)))))))))
   exact EX.done (res1 rfl rfl) ⟨by unfold cmpI; simp only [*, if_true, if_false], hbw⟩
  ·
   refine EL.val (Zw (r := false) rfl rfl (decide_eq_false (by omega))) rfl ?_
   refine EL.nil (EX.seq (EC.no rfl (EC.skip (EX.seq (EC.seq (EC.region (EL.as rfl rfl (EL.nil (EX.seq ?_)))))))));refine EC.ret ?_
   exact EX.done (res1 rfl rfl) ⟨by unfold cmpI; simp only [*, if_true, if_false], hbw⟩
theorem QHn (a : Int) (w : World) : Calls Try.prog 116 #[.int .i64 a] w fun e w' => e = .returned (.bool false) ∧ Below w.heap.size w w' := by
 have hbw := Below.refl w.heap.size w;refine EC.enter 6 Try.func116 rfl rfl rfl (EC.seq (EC.region (EL.as rfl rfl (EL.nil (EX.seq (EC.seq (EC.region (EL.mv rfl rfl (EL.mv rfl rfl ?_)))))))));refine EL.val (Zn (r := false) rfl rfl (decide_eq_false (by omega))) rfl ?_
 refine EL.as rfl rfl (EL.nil (EX.seq (EC.ret ?_)))
 exact EX.done (res1 rfl rfl) ⟨rfl, hbw⟩
theorem QGj (a b : Int) (w : World) : Calls Try.prog 115 #[.int .i64 a, .int .i64 b] w fun e w' => e = .returned (.int .i64 (cmpI a b)) ∧ Below w.heap.size w w' := by
 have hbw := Below.refl w.heap.size w;refine EC.enter 20 Try.func115 rfl rfl rfl (EC.seq (EC.region (EL.as rfl rfl (EL.nil (EX.seq (EC.seq (EC.region (EL.mv rfl rfl (EL.call (cA1 QL2 rfl) rfl (QHn _ _) ?_)))))))))
 rintro e w1 ⟨rfl, hc1⟩
 refine ⟨_, rfl, ?_⟩;replace hbw := bo_ hbw hc1;clear hc1;refine EL.as rfl rfl (EL.nil (EX.seq (EC.seq (EC.region (EL.mv rfl rfl (EL.call (cA1 QL2 rfl) rfl (QHn _ _) ?_))))))
 rintro e w2 ⟨rfl, hc2⟩
 refine ⟨_, rfl, ?_⟩;replace hbw := bo_ hbw hc2;clear hc2;refine EL.as rfl rfl (EL.nil (EX.seq (EC.seq (EC.seq (EC.region (EL.mv rfl rfl (EL.nil (EX.seq (EC.no rfl ?_)))))))));refine EC.skip (EX.seq (EC.seq (EC.seq (EC.region (EL.mv rfl rfl (EL.nil (EX.seq (EC.no rfl (EC.skip ?_)))))))));refine EX.seq (EC.seq (EC.seq (EC.region (EL.mv rfl rfl (EL.mv rfl rfl ?_)))))
 by_cases h1 : a < b
 ·
  refine EL.val (ZO (r := true) rfl rfl (decide_eq_true (by omega))) rfl ?_
  refine EL.nil (EX.seq (EC.yes rfl (EC.seq (EC.region (EL.as rfl rfl (EL.nil (EX.seq (EC.ret (EX.seq_ret ?_)))))))))
  exact EX.done (res1 rfl rfl) ⟨by unfold cmpI; simp only [*, if_true, if_false], hbw⟩
 ·
  refine EL.val (ZO (r := false) rfl rfl (decide_eq_false (by omega))) rfl ?_
  refine EL.nil (EX.seq (EC.no rfl (EC.skip (EX.seq (EC.seq (EC.seq (EC.region (EL.mv rfl rfl (EL.mv rfl rfl ?_)))))))))
  by_cases h2 : b < a
  ·
   refine EL.val (Zw (r := true) rfl rfl (decide_eq_true (by omega))) rfl ?_
   refine EL.nil (EX.seq (EC.yes rfl (EC.seq (EC.region (EL.as rfl rfl (EL.nil (EX.seq (EC.ret (EX.seq_ret ?_)))))))))
   exact EX.done (res1 rfl rfl) ⟨by unfold cmpI; simp only [*, if_true, if_false], hbw⟩
  ·
   refine EL.val (Zw (r := false) rfl rfl (decide_eq_false (by omega))) rfl ?_
   refine EL.nil (EX.seq (EC.no rfl (EC.skip (EX.seq (EC.seq (EC.region (EL.as rfl rfl (EL.nil (EX.seq ?_)))))))));refine EC.ret ?_
   exact EX.done (res1 rfl rfl) ⟨by unfold cmpI; simp only [*, if_true, if_false], hbw⟩
theorem QJc {l : List Int} {v : Value} {w : World} {B : Nat} (hr : Rd w B 1 v l.length (ints l)) (hB : B ≤ w.heap.size) (hn : l.length ≤ 1000) : Calls Try.prog 112 #[v] w fun e w' => e = .returned (.int .i64 (orI l)) ∧ Below w.heap.size w w' := by
 obtain ⟨A, c, rfl, _⟩ := hr.shape;have hbw := Below.refl w.heap.size w;refine EC.enter 18 Try.func112 rfl rfl rfl (EC.seq (EC.region (EL.as rfl rfl (EL.nil (EX.seq (EC.seq (EC.region (EL.as rfl rfl (EL.nil ?_)))))))));refine EX.seq (EC.seq (EC.seq (EC.region (EL.mv rfl rfl (EL.val (QJu rfl) rfl (EL.mv rfl rfl (EL.nil (EX.seq (EC.block ?_)))))))));refine EC.loopD [2, 5, 8, 9, 10, 11, 12, 13, 14, 15, 16] (fun k : Nat => [(8, .int .i64 (k : Nat))]) (fun k W => k ≤ l.length ∧ orI l = orI (l.drop k) ∧ Below w.heap.size w W) (fun k => l.length - k) 0 ⟨Nat.zero_le _, rfl, hbw⟩ ⟨rfl, trivial⟩ ?_
 clear  hbw
 rintro k wk ⟨hk, hor, hbw⟩
 by_cases hltk : k < l.length
 ·
  obtain ⟨b, o, rfl, _, cc⟩ := YO l k hltk w B _ _ _ hr;have hot := QJd hltk
  generalize l.getD k 0 = y at cc hot
  refine EC.seq (EC.region ?_);refine EL.val (ZO (r := true) rfl rfl (decide_eq_true (by omega))) rfl ?_
  refine EL.nil (EX.seq (EC.seq (EC.yes rfl (EC.skip (EX.seq (EC.seq (EC.block (EC.seq (EC.region ?_)))))))));refine EL.val (Y4 rfl rfl hltk) rfl (EL.val (ld_3 rfl (ZC hbw cc)) rfl (EL.as rfl rfl (EL.nil (EX.seq (EC.seq (EC.region (EL.mv rfl rfl (EL.mv rfl rfl ?_))))))))
  by_cases h1 : y = 0
  ·
   refine EL.val (Zn (r := false) rfl rfl (decide_eq_false (by omega))) rfl ?_
   refine EL.nil (EX.seq (EC.no rfl (EC.skip (EX.blk (EX.seq (EC.region ?_))))));refine EL.val (x_add rfl rfl (c := ((k + 1 : Nat) : Int)) ((IntWalk.i64_in _ ⟨by first | omega | (simp only; omega), by first | omega | (simp only; omega)⟩).trans (by first | omega | (simp only; omega)))) rfl ?_
   refine EL.mv rfl rfl (EL.nil ?_);refine EX.roundD (k + 1) ⟨rfl, trivial⟩ (by repeat first | with_reducible exact .refl _ | refine sp_ rfl ?_ | exact .refl _ | refine sd_ rfl ?_ | refine sn_ ?_) ⟨hltk, (by rw [hor, hot, if_pos h1]), hbw⟩ (by omega)
  ·
   refine EL.val (Zn (r := true) rfl rfl (decide_eq_true (by omega))) rfl ?_
   refine EL.nil (EX.seq (EC.yes rfl (EC.seq (EC.region (EL.mv rfl rfl (EL.as rfl rfl (EL.nil (EX.seq (EC.ret ?_)))))))));refine EX.blk_ret (EX.seq_ret (EX.seq_ret (EX.blk_ret (EX.seq_ret ?_))))
   exact EX.done (res1 rfl rfl) ⟨by rw [hor, hot, if_neg h1], hbw⟩
 ·
  obtain rfl : k = l.length := by omega
  refine EC.seq (EC.region ?_);refine EL.val (ZO (r := false) rfl rfl (decide_eq_false (by omega))) rfl ?_
  refine EL.nil (EX.seq (EC.seq (EC.no rfl (EC.exit (EX.seq_exit (EX.seq_exit (EX.blk_here (EX.seq (EC.seq ?_)))))))));refine EC.region (EL.mv rfl rfl (EL.as rfl rfl (EL.nil (EX.seq (EC.ret ?_)))))
  exact EX.done (res1 rfl rfl) ⟨by rw [hor, List.drop_length]; rfl, hbw⟩
theorem QIY (p q : SP) (w : World) : Calls Try.prog 114 #[.agg #[.bool p.up, .int .i64 p.tows], .agg #[.bool q.up, .int .i64 q.tows]] w fun e w' => e = .returned (.int .i64 (QBF p q)) ∧ Below w.heap.size w w' := by
 have hbw := Below.refl w.heap.size w;refine EC.enter 19 Try.func114 rfl rfl rfl (EC.seq (EC.region (EL.newP (QL4 rfl) rfl ?_)));intro g1 w1 q1 hb1 hg1 hl1;have bhbw_1 := Nat.le_trans hbw.size hg1;replace hbw := bo_ hbw hb1;clear hb1 hg1 hl1;refine EL.newP (QL4 rfl) rfl ?_;intro g2 w2 q2 hb2 hg2 hl2;have n1_2 := q1.na hg2;have bhbw_2 := Nat.le_trans hbw.size hg2;replace q1 := q1.bl hb2;replace hbw := bo_ hbw hb2;clear hb2 hg2 hl2;refine EL.as rfl rfl (EL.nil (EX.seq (EC.seq ?_)));have lt_1 := q1.lt;have lt_2 := q2.lt;refine EC.regionP [[], [0], [0, 1], [], [3], [0, 1, 2, 3, 4], [0, 1, 2, 3, 4, 5], [], [7], [], [9], [0, 1, 2, 3, 4, 5, 6, 7, 8, 9, 10], [0, 1, 2, 3, 4, 5, 6, 7, 8, 9, 10, 11], [0, 1, 2, 3, 4, 5, 6, 7, 8, 9, 10, 11, 12], [0, 1, 2, 3, 4, 5, 6, 7, 8, 9, 10, 11, 12, 13]] 11 [] (phi (fun i_ r => match i_ with | 0 => r 0 = .pointer (some ⟨g1, 0, none⟩) | 1 => r 1 = .bool p.up | 2 => r 2 = .int .i64 (wyB p.up) | 3 => r 3 = .pointer (some ⟨g2, 0, none⟩) | 4 => r 4 = .bool q.up | 5 => r 5 = .int .i64 (wyB q.up) | 6 => r 6 = .int .i64 (cmpI (wyB p.up) (wyB q.up)) | 7 => r 7 = .pointer (some ⟨g1, 1, none⟩) | 8 => r 8 = .int .i64 p.tows | 9 => r 9 = .pointer (some ⟨g2, 1, none⟩) | 10 => r 10 = .int .i64 q.tows | _ => True) []) (by kernel_rfl) rfl rfl (Yu) (fun i_ hi_ => ?_) ?_
 ·match i_, hi_ with
  | 0, _ =>
   intro val w1 a hb ha hd;have ha := ha.s0 (d := 2) rfl
   exact ZJ ha rfl rfl (QDf rfl) rfl rfl
  | 1, _ =>
   intro val w1 a hb ha hd;have e0 : val 0 = _ := hd 0 (ZA.1 rfl);have ha := ha.s1 (d := 5) rfl e0
   exact ZJ ha rfl rfl (ld_4 rfl ((q1.below hb q1.lt).at (j := 0) rfl)) rfl rfl
  | 2, _ =>
   intro val w1 a hb ha hd;have e1 : val 1 = _ := hd 1 (ZA.1 rfl);have ha := ha.s1 (d := 6) rfl e1;refine QAc ha rfl rfl (cA1 cF56 rfl) (QAk _ _) rfl ?_
   rintro e w' ⟨rfl, hb'⟩
   exact ⟨_, rfl, hb', rfl⟩
  | 3, _ =>
   intro val w1 a hb ha hd;have ha := ha.s0 (d := 3) rfl
   exact ZJ ha rfl rfl (QDf rfl) rfl rfl
  | 4, _ =>
   intro val w1 a hb ha hd;have e3 : val 3 = _ := hd 3 (ZA.1 rfl);have ha := ha.s1 (d := 8) rfl e3
   exact ZJ ha rfl rfl (ld_4 rfl ((q2.below hb q2.lt).at (j := 0) rfl)) rfl rfl
  | 5, _ =>
   intro val w1 a hb ha hd;have e4 : val 4 = _ := hd 4 (ZA.1 rfl);have ha := ha.s1 (d := 9) rfl e4;refine QAc ha rfl rfl (cA1 cF56 rfl) (QAk _ _) rfl ?_
   rintro e w' ⟨rfl, hb'⟩
   exact ⟨_, rfl, hb', rfl⟩
  | 6, _ =>
   intro val w1 a hb ha hd;have e2 : val 2 = _ := hd 2 (ZA.1 rfl);have e5 : val 5 = _ := hd 5 (ZA.1 rfl);have ha := ha.s2 (d := 10) (e := 7) rfl e5 rfl e2;refine QAc ha rfl rfl (cA2 QNG rfl rfl) (QGj _ _ _) rfl ?_
   rintro e w' ⟨rfl, hb'⟩
   exact ⟨_, rfl, hb', rfl⟩
  | 7, _ =>
   intro val w1 a hb ha hd;have ha := ha.s0 (d := 2) rfl
   exact ZJ ha rfl rfl (Y7 rfl) rfl rfl
  | 8, _ =>
   intro val w1 a hb ha hd;have e7 : val 7 = _ := hd 7 (ZA.1 rfl);have ha := ha.s1 (d := 12) rfl e7
   exact ZJ ha rfl rfl (ld_3 rfl ((q1.below hb q1.lt).at (j := 1) rfl)) rfl rfl
  | 9, _ =>
   intro val w1 a hb ha hd;have ha := ha.s0 (d := 3) rfl
   exact ZJ ha rfl rfl (Y7 rfl) rfl rfl
  | 10, _ =>
   intro val w1 a hb ha hd;have e9 : val 9 = _ := hd 9 (ZA.1 rfl);have ha := ha.s1 (d := 14) rfl e9
   exact ZJ ha rfl rfl (ld_3 rfl ((q2.below hb q2.lt).at (j := 1) rfl)) rfl rfl
  | k + 11, h => exact absurd h (by omega)
 ·intro val wR1 hb halc hd
  have e0 : val 0 = _ := hd 0 (by omega)
  have e1 : val 1 = _ := hd 1 (by omega)
  have e2 : val 2 = _ := hd 2 (by omega)
  have e3 : val 3 = _ := hd 3 (by omega)
  have e4 : val 4 = _ := hd 4 (by omega)
  have e5 : val 5 = _ := hd 5 (by omega)
  have e6 : val 6 = _ := hd 6 (by omega)
  have e7 : val 7 = _ := hd 7 (by omega)
  have e8 : val 8 = _ := hd 8 (by omega)
  have e9 : val 9 = _ := hd 9 (by omega)
  have e10 : val 10 = _ := hd 10 (by omega)
  refine EL.ends (cs := [_, _, _, _, _, _, _, _, _, _, _]) ⟨e0, e1, e2, e3, e4, e5, e6, e7, e8, e9, e10, trivial⟩ rfl ?_;replace q1 := q1.bl hb;replace q2 := q2.bl hb;replace hbw := bo_ hbw hb;clear hb;refine EL.call (cA2 cF75 rfl rfl) rfl (QAd _ _ _) ?_
  rintro e w3 ⟨rfl, hc3⟩
  refine ⟨_, rfl, ?_⟩;replace q1 := q1.bl hc3;replace q2 := q2.bl hc3;replace hbw := bo_ hbw hc3;clear hc3;refine EL.newS (QEQ rfl rfl) rfl ?_;intro g4 w4 q4 hb4 hg4 hl4;have n1_4 := q1.na hg4;have n2_4 := q2.na hg4;have bhbw_4 := Nat.le_trans hbw.size hg4;replace q1 := q1.bl hb4;replace q2 := q2.bl hb4;replace hbw := bo_ hbw hb4;clear hb4 hg4 hl4;refine EL.call (cA1 QL3 rfl) rfl (QJc (l := [cmpI (wyB p.up) (wyB q.up), cmpI p.tows q.tows]) (Yt (k := 2) (l := ints [cmpI (wyB p.up) (wyB q.up), cmpI p.tows q.tows]) q4 rfl) (Nat.le_refl _) (by simp)) ?_
  rintro e w5 ⟨rfl, hc5⟩
  refine ⟨_, rfl, ?_⟩;replace q1 := q1.bl hc5;replace q2 := q2.bl hc5;replace q4 := q4.bl hc5;replace hbw := bo_ hbw hc5;clear hc5;refine EL.as rfl rfl (EL.nil (EX.seq (EC.ret ?_)))
  exact EX.done (res1 rfl rfl) ⟨rfl, hbw⟩
theorem QKM {x y : List SP} {vx vy : Value} {w : World} {B : Nat} (hx : Rd w B 2 vx x.length (spsC x)) (hy : Rd w B 2 vy y.length (spsC y)) (hB : B ≤ w.heap.size) (hn : x.length ≤ 1000000) : Calls Try.prog 113 #[vx, vy, .func (.func 114) #[] #[]] w fun e w' => e = .returned (.int .i64 (cmpL x y)) ∧ Below w.heap.size w w' := by
 obtain ⟨Ax, cx_, rfl, _⟩ := hx.shape;obtain ⟨Ay, cy_, rfl, _⟩ := hy.shape;have hbw := Below.refl w.heap.size w;refine EC.enter 39 Try.func113 rfl rfl rfl (EC.seq (EC.region (EL.as rfl rfl (EL.nil (EX.seq (EC.seq (EC.seq (EC.region (EL.mv rfl rfl ?_)))))))));refine EL.val (QB0 rfl) rfl (EL.mv rfl rfl (EL.nil (EX.seq (EC.block ?_))));refine EC.loopD [6, 7, 8, 9, 10, 13, 14, 15, 16, 17, 18, 19, 20, 21, 22, 23, 24, 25, 26, 27, 28, 29, 30, 31, 32, 33] (fun k : Nat => [(13, .int .i64 (k : Nat))]) (fun k W => k ≤ x.length ∧ k ≤ y.length ∧ cmpL x y = cmpL (x.drop k) (y.drop k) ∧ Below w.heap.size w W) (fun k => x.length - k) 0 ⟨Nat.zero_le _, Nat.zero_le _, rfl, hbw⟩ ⟨rfl, trivial⟩ ?_
 clear  hbw
 rintro k wk ⟨hk, hky0, hc, hbw⟩
 by_cases hltk : k < x.length
 ·
  obtain ⟨b, o, rfl, _, cx⟩ := QBl x k hltk w B _ _ _ hx;have hdx := QCo (d := sp0) hltk
  generalize x.getD k sp0 = p at cx hdx
  refine EC.seq (EC.region ?_);refine EL.val (ZO (r := true) rfl rfl (decide_eq_true (by omega))) rfl ?_
  refine EL.nil (EX.seq (EC.seq (EC.yes rfl (EC.skip (EX.seq (EC.seq (EC.block (EC.seq (EC.region ?_)))))))));refine EL.mv rfl rfl (EL.val (QE0 rfl rfl hltk) rfl (EL.val (QDD rfl (ZC hbw cx.c0) (ZC hbw cx.c1)) rfl (EL.newP QIO rfl ?_)));intro g1 w1 q1 hb1 hg1 hl1;have bhbw_1 := Nat.le_trans hbw.size hg1;replace hbw := bo_ hbw hb1;clear hb1 hg1 hl1;refine EL.as rfl rfl (EL.store rfl rfl q1 QHW rfl rfl rfl rfl ?_);intro w2 hq2 hg2;replace hbw := ZE hbw hg2 bhbw_1;replace q1 := hq2;clear hg2 hq2;refine EL.nil (EX.seq (EC.seq (EC.seq (EC.region (EL.mv rfl rfl (EL.mv rfl rfl (EL.val (QB0 rfl) rfl ?_)))))))
  by_cases hyk : y.length ≤ k
  ·
   refine EL.val (QDA (r := true) rfl rfl (decide_eq_true (by omega))) rfl ?_
   refine EL.nil (EX.seq (EC.yes rfl (EC.seq (EC.region (EL.as rfl rfl (EL.nil (EX.seq (EC.ret (EX.seq_ret ?_)))))))));refine EX.blk_ret (EX.seq_ret (EX.seq_ret (EX.blk_ret (EX.seq_ret ?_))))
   exact EX.done (res1 rfl rfl) ⟨by rw [hc, hdx, List.drop_eq_nil_of_le hyk]; rfl, hbw⟩
  ·
   have hky : k < y.length := by omega
   obtain ⟨b2, o2, rfl, _, cy⟩ := QBl y k hky w B _ _ _ hy;have hdy := QCo (d := sp0) hky
   generalize y.getD k sp0 = q at cy hdy
   refine EL.val (QDA (r := false) rfl rfl (decide_eq_false (by omega))) rfl ?_
   refine EL.nil (EX.seq (EC.no rfl (EC.skip (EX.seq (EC.seq (EC.region (EL.mv rfl rfl (EL.mv rfl rfl (EL.val (QE0 rfl rfl hky) rfl ?_)))))))));refine EL.val (QDD rfl (ZC hbw cy.c0) (ZC hbw cy.c1)) rfl (EL.newP QIO rfl ?_);intro g3 w3 q3 hb3 hg3 hl3;have n1_3 := q1.na hg3;have bhbw_3 := Nat.le_trans hbw.size hg3;replace q1 := q1.bl hb3;replace hbw := bo_ hbw hb3;clear hb3 hg3 hl3;refine EL.store rfl rfl q3 QHW rfl rfl rfl rfl ?_;intro w4 hq4 hg4;replace q1 := q1.gr hg4 n1_3;replace hbw := ZE hbw hg4 bhbw_3;replace q3 := hq4;clear hg4 hq4;refine EL.nil (EX.seq (EC.seq (EC.region (EL.mv rfl rfl (EL.val (QDD rfl (q1.at (j := 0) rfl) (q1.at (j := 1) rfl)) rfl (EL.val (QDD rfl (q3.at (j := 0) rfl) (q3.at (j := 1) rfl)) rfl (EL.call (QEf rfl rfl rfl) rfl (QIY p q _) ?_)))))))
   rintro e w5 ⟨rfl, hc5⟩
   refine ⟨_, rfl, ?_⟩;replace q1 := q1.bl hc5;replace q3 := q3.bl hc5;replace hbw := bo_ hbw hc5;clear hc5;refine EL.as rfl rfl (EL.nil (EX.seq (EC.seq (EC.region (EL.mv rfl rfl ?_)))))
   by_cases h1 : QBF p q = 0
   ·
    refine EL.val (Zn (r := false) rfl rfl (decide_eq_false (by omega))) rfl ?_
    refine EL.nil (EX.seq (EC.no rfl (EC.skip (EX.blk (EX.seq (EC.region ?_))))));refine EL.val (x_add rfl rfl (c := ((k + 1 : Nat) : Int)) ((IntWalk.i64_in _ ⟨by first | omega | (simp only; omega), by first | omega | (simp only; omega)⟩).trans (by first | omega | (simp only; omega)))) rfl ?_
    refine EL.mv rfl rfl (EL.nil ?_);refine EX.roundD (k + 1) ⟨rfl, trivial⟩ (by repeat first | with_reducible exact .refl _ | refine sp_ rfl ?_ | exact .refl _ | refine sd_ rfl ?_ | refine sn_ ?_) ⟨hltk, hky, (by rw [hc, hdx, hdy]; exact if_pos h1), hbw⟩ (by omega)
   ·
    refine EL.val (Zn (r := true) rfl rfl (decide_eq_true (by omega))) rfl ?_
    refine EL.nil (EX.seq (EC.yes rfl (EC.seq (EC.region (EL.mv rfl rfl (EL.as rfl rfl (EL.nil (EX.seq (EC.ret ?_)))))))));refine EX.blk_ret (EX.seq_ret (EX.seq_ret (EX.blk_ret (EX.seq_ret ?_))))
    exact EX.done (res1 rfl rfl) ⟨by rw [hc, hdx, hdy]; exact congrArg (fun z => Ending.returned (.int .i64 z)) (if_neg h1).symm, hbw⟩
 ·
  obtain rfl : k = x.length := by omega
  refine EC.seq (EC.region ?_);refine EL.val (ZO (r := false) rfl rfl (decide_eq_false (by omega))) rfl ?_
  refine EL.nil (EX.seq (EC.seq (EC.no rfl (EC.exit (EX.seq_exit (EX.seq_exit (EX.blk_here (EX.seq (EC.seq ?_)))))))));refine EC.seq (EC.region (EL.mv rfl rfl (EL.val (QB0 rfl) rfl (EL.mv rfl rfl (EL.val (QB0 rfl) rfl ?_)))))
  by_cases hxy : x.length < y.length
  ·
   refine EL.val (ZO (r := true) rfl rfl (decide_eq_true (by omega))) rfl ?_
   refine EL.nil (EX.seq (EC.yes rfl (EC.seq (EC.region (EL.as rfl rfl (EL.nil (EX.seq (EC.ret (EX.seq_ret ?_)))))))))
   exact EX.done (res1 rfl rfl) ⟨by rw [hc, List.drop_length, QCo (d := sp0) hxy]; rfl, hbw⟩
  ·
   refine EL.val (ZO (r := false) rfl rfl (decide_eq_false (by omega))) rfl ?_
   refine EL.nil (EX.seq (EC.no rfl (EC.skip (EX.seq (EC.seq (EC.region (EL.as rfl rfl (EL.nil (EX.seq ?_)))))))));refine EC.ret ?_
   exact EX.done (res1 rfl rfl) ⟨by rw [hc, List.drop_length, List.drop_eq_nil_of_le (by omega)]; rfl, hbw⟩
theorem QKN {d e : Dr} {v u : Value} {w : World} {B : Nat} (hd : RdDr w B v d) (he : RdDr w B u e) (hB : B ≤ w.heap.size) (hn : d.plan.length ≤ 1000000) : Calls Try.prog 111 #[v, u] w fun e_ w' => e_ = .returned (.int .i64 (cmpD d e)) ∧ Below w.heap.size w w' := by
 obtain ⟨b1, sl1, rfl, hb1, hd1, hd2⟩ := hd.at_;obtain ⟨b2, sl2, rfl, hb2, he1, he2⟩ := he.at_;obtain ⟨A1, c1, rfl, _⟩ := hd2.shape;obtain ⟨A2, c2, rfl, _⟩ := he2.shape;have hbw := Below.refl w.heap.size w;refine EC.enter 42 Try.func111 rfl rfl rfl (EC.seq (EC.region (EL.as rfl rfl (EL.nil (EX.seq (EC.seq ?_))))));refine EC.regionP [[], [0], [0, 1], [0, 1, 2], [0, 1, 2, 3], [], [5], [5, 6], [5, 6, 7], [5, 6, 7, 8], [0, 1, 2, 3, 4, 5, 6, 7, 8, 9], [], [11], [11, 12], [11, 12, 13], [11, 12, 13, 14], [11, 12, 13, 14, 15], [11, 12, 13, 14, 15, 16], [], [18], [18, 19], [18, 19, 20], [18, 19, 20, 21], [18, 19, 20, 21, 22], [18, 19, 20, 21, 22, 23], [0, 1, 2, 3, 4, 5, 6, 7, 8, 9, 10, 11, 12, 13, 14, 15, 16, 17, 18, 19, 20, 21, 22, 23, 24], [], [26], [26, 27], [26, 27, 28], [], [30], [30, 31], [30, 31, 32], [0, 1, 2, 3, 4, 5, 6, 7, 8, 9, 10, 11, 12, 13, 14, 15, 16, 17, 18, 19, 20, 21, 22, 23, 24, 25, 26, 27, 28, 29, 30, 31, 32, 33], [0, 1, 2, 3, 4, 5, 6, 7, 8, 9, 10, 11, 12, 13, 14, 15, 16, 17, 18, 19, 20, 21, 22, 23, 24, 25, 26, 27, 28, 29, 30, 31, 32, 33, 34], [0, 1, 2, 3, 4, 5, 6, 7, 8, 9, 10, 11, 12, 13, 14, 15, 16, 17, 18, 19, 20, 21, 22, 23, 24, 25, 26, 27, 28, 29, 30, 31, 32, 33, 34, 35], [0, 1, 2, 3, 4, 5, 6, 7, 8, 9, 10, 11, 12, 13, 14, 15, 16, 17, 18, 19, 20, 21, 22, 23, 24, 25, 26, 27, 28, 29, 30, 31, 32, 33, 34, 35, 36]] 34 [] (phi (fun i_ r => match i_ with | 0 => r 0 = .pointer (some ⟨b1, 0, none⟩) | 1 => r 1 = .pointer (some ⟨b1, 0, none⟩) | 2 => r 2 = .pointer (some ⟨b1, 0, none⟩) | 3 => r 3 = .pointer (some ⟨b1, 14, none⟩) | 4 => r 4 = .int .i64 d.s.cost | 5 => r 5 = .pointer (some ⟨b2, 0, none⟩) | 6 => r 6 = .pointer (some ⟨b2, 0, none⟩) | 7 => r 7 = .pointer (some ⟨b2, 0, none⟩) | 8 => r 8 = .pointer (some ⟨b2, 14, none⟩) | 9 => r 9 = .int .i64 e.s.cost | 10 => r 10 = .int .i64 (cmpI d.s.cost e.s.cost) | 11 => r 11 = .pointer (some ⟨b1, 0, none⟩) | 12 => r 12 = .pointer (some ⟨b1, 0, none⟩) | 13 => r 13 = .pointer (some ⟨b1, 0, none⟩) | 14 => r 14 = .pointer (some ⟨b1, 0, none⟩) | 15 => r 15 = .pointer (some ⟨b1, 6, none⟩) | 16 => r 16 = .pointer (some ⟨b1, 6 + 4, none⟩) | 17 => r 17 = .int .i64 d.s.mv | 18 => r 18 = .pointer (some ⟨b2, 0, none⟩) | 19 => r 19 = .pointer (some ⟨b2, 0, none⟩) | 20 => r 20 = .pointer (some ⟨b2, 0, none⟩) | 21 => r 21 = .pointer (some ⟨b2, 0, none⟩) | 22 => r 22 = .pointer (some ⟨b2, 6, none⟩) | 23 => r 23 = .pointer (some ⟨b2, 6 + 4, none⟩) | 24 => r 24 = .int .i64 e.s.mv | 25 => r 25 = .int .i64 (cmpI d.s.mv e.s.mv) | 26 => r 26 = .pointer (some ⟨b1, 0, none⟩) | 27 => r 27 = .pointer (some ⟨b1, 0, none⟩) | 28 => r 28 = .pointer (some ⟨b1, 15, none⟩) | 29 => r 29 = .slice A1 d.plan.length c1 | 30 => r 30 = .pointer (some ⟨b2, 0, none⟩) | 31 => r 31 = .pointer (some ⟨b2, 0, none⟩) | 32 => r 32 = .pointer (some ⟨b2, 15, none⟩) | 33 => r 33 = .slice A2 e.plan.length c2 | _ => True) []) (by kernel_rfl) rfl rfl (Yu) (fun i_ hi_ => ?_) ?_
 ·match i_, hi_ with
  | 0, _ =>
   intro val w1 a hb ha hd;have ha := ha.s0 (d := 0) rfl
   exact ZJ ha rfl rfl (x_move rfl) rfl rfl
  | 1, _ =>
   intro val w1 a hb ha hd;have e0 : val 0 = _ := hd 0 (ZA.1 rfl);have ha := ha.s1 (d := 5) rfl e0
   exact ZJ ha rfl rfl (ZH rfl) rfl rfl
  | 2, _ =>
   intro val w1 a hb ha hd;have e1 : val 1 = _ := hd 1 (ZA.1 rfl);have ha := ha.s1 (d := 6) rfl e1
   exact ZJ ha rfl rfl (Ze rfl) rfl rfl
  | 3, _ =>
   intro val w1 a hb ha hd;have e2 : val 2 = _ := hd 2 (ZA.1 rfl);have ha := ha.s1 (d := 7) rfl e2
   exact ZJ ha rfl rfl (YS rfl) rfl rfl
  | 4, _ =>
   intro val w1 a hb ha hd;have e3 : val 3 = _ := hd 3 (ZA.1 rfl);have ha := ha.s1 (d := 8) rfl e3
   exact ZJ ha rfl rfl (ld_3 rfl (ZC hb (ZC hbw (hd1 14 _ rfl)))) rfl rfl
  | 5, _ =>
   intro val w1 a hb ha hd;have ha := ha.s0 (d := 1) rfl
   exact ZJ ha rfl rfl (x_move rfl) rfl rfl
  | 6, _ =>
   intro val w1 a hb ha hd;have e5 : val 5 = _ := hd 5 (ZA.1 rfl);have ha := ha.s1 (d := 10) rfl e5
   exact ZJ ha rfl rfl (ZH rfl) rfl rfl
  | 7, _ =>
   intro val w1 a hb ha hd;have e6 : val 6 = _ := hd 6 (ZA.1 rfl);have ha := ha.s1 (d := 11) rfl e6
   exact ZJ ha rfl rfl (Ze rfl) rfl rfl
  | 8, _ =>
   intro val w1 a hb ha hd;have e7 : val 7 = _ := hd 7 (ZA.1 rfl);have ha := ha.s1 (d := 12) rfl e7
   exact ZJ ha rfl rfl (YS rfl) rfl rfl
  | 9, _ =>
   intro val w1 a hb ha hd;have e8 : val 8 = _ := hd 8 (ZA.1 rfl);have ha := ha.s1 (d := 13) rfl e8
   exact ZJ ha rfl rfl (ld_3 rfl (ZC hb (ZC hbw (he1 14 _ rfl)))) rfl rfl
  | 10, _ =>
   intro val w1 a hb ha hd;have e4 : val 4 = _ := hd 4 (ZA.1 rfl);have e9 : val 9 = _ := hd 9 (ZA.1 rfl);have ha := ha.s2 (d := 14) (e := 9) rfl e9 rfl e4;refine QAc ha rfl rfl (cA2 cF75 rfl rfl) (QAd _ _ _) rfl ?_
   rintro e w' ⟨rfl, hb'⟩
   exact ⟨_, rfl, hb', rfl⟩
  | 11, _ =>
   intro val w1 a hb ha hd;have ha := ha.s0 (d := 0) rfl
   exact ZJ ha rfl rfl (x_move rfl) rfl rfl
  | 12, _ =>
   intro val w1 a hb ha hd;have e11 : val 11 = _ := hd 11 (ZA.1 rfl);have ha := ha.s1 (d := 16) rfl e11
   exact ZJ ha rfl rfl (ZH rfl) rfl rfl
  | 13, _ =>
   intro val w1 a hb ha hd;have e12 : val 12 = _ := hd 12 (ZA.1 rfl);have ha := ha.s1 (d := 17) rfl e12
   exact ZJ ha rfl rfl (Ze rfl) rfl rfl
  | 14, _ =>
   intro val w1 a hb ha hd;have e13 : val 13 = _ := hd 13 (ZA.1 rfl);have ha := ha.s1 (d := 18) rfl e13
   exact ZJ ha rfl rfl (ZN rfl) rfl rfl
  | 15, _ =>
   intro val w1 a hb ha hd;have e14 : val 14 = _ := hd 14 (ZA.1 rfl);have ha := ha.s1 (d := 19) rfl e14
   exact ZJ ha rfl rfl (ZW rfl) rfl rfl
  | 16, _ =>
   intro val w1 a hb ha hd;have e15 : val 15 = _ := hd 15 (ZA.1 rfl);have ha := ha.s1 (d := 20) rfl e15
   exact ZJ ha rfl rfl (QBa rfl) rfl rfl
  | 17, _ =>
   intro val w1 a hb ha hd;have e16 : val 16 = _ := hd 16 (ZA.1 rfl);have ha := ha.s1 (d := 21) rfl e16
   exact ZJ ha rfl rfl (ld_3 rfl (ZC hb (ZC hbw (hd1 10 _ rfl)))) rfl rfl
  | 18, _ =>
   intro val w1 a hb ha hd;have ha := ha.s0 (d := 1) rfl
   exact ZJ ha rfl rfl (x_move rfl) rfl rfl
  | 19, _ =>
   intro val w1 a hb ha hd;have e18 : val 18 = _ := hd 18 (ZA.1 rfl);have ha := ha.s1 (d := 23) rfl e18
   exact ZJ ha rfl rfl (ZH rfl) rfl rfl
  | 20, _ =>
   intro val w1 a hb ha hd;have e19 : val 19 = _ := hd 19 (ZA.1 rfl);have ha := ha.s1 (d := 24) rfl e19
   exact ZJ ha rfl rfl (Ze rfl) rfl rfl
  | 21, _ =>
   intro val w1 a hb ha hd;have e20 : val 20 = _ := hd 20 (ZA.1 rfl);have ha := ha.s1 (d := 25) rfl e20
   exact ZJ ha rfl rfl (ZN rfl) rfl rfl
  | 22, _ =>
   intro val w1 a hb ha hd;have e21 : val 21 = _ := hd 21 (ZA.1 rfl);have ha := ha.s1 (d := 26) rfl e21
   exact ZJ ha rfl rfl (ZW rfl) rfl rfl
  | 23, _ =>
   intro val w1 a hb ha hd;have e22 : val 22 = _ := hd 22 (ZA.1 rfl);have ha := ha.s1 (d := 27) rfl e22
   exact ZJ ha rfl rfl (QBa rfl) rfl rfl
  | 24, _ =>
   intro val w1 a hb ha hd;have e23 : val 23 = _ := hd 23 (ZA.1 rfl);have ha := ha.s1 (d := 28) rfl e23
   exact ZJ ha rfl rfl (ld_3 rfl (ZC hb (ZC hbw (he1 10 _ rfl)))) rfl rfl
  | 25, _ =>
   intro val w1 a hb ha hd;have e17 : val 17 = _ := hd 17 (ZA.1 rfl);have e24 : val 24 = _ := hd 24 (ZA.1 rfl);have ha := ha.s2 (d := 29) (e := 22) rfl e24 rfl e17;refine QAc ha rfl rfl (cA2 cF75 rfl rfl) (QAd _ _ _) rfl ?_
   rintro e w' ⟨rfl, hb'⟩
   exact ⟨_, rfl, hb', rfl⟩
  | 26, _ =>
   intro val w1 a hb ha hd;have ha := ha.s0 (d := 0) rfl
   exact ZJ ha rfl rfl (x_move rfl) rfl rfl
  | 27, _ =>
   intro val w1 a hb ha hd;have e26 : val 26 = _ := hd 26 (ZA.1 rfl);have ha := ha.s1 (d := 31) rfl e26
   exact ZJ ha rfl rfl (ZH rfl) rfl rfl
  | 28, _ =>
   intro val w1 a hb ha hd;have e27 : val 27 = _ := hd 27 (ZA.1 rfl);have ha := ha.s1 (d := 32) rfl e27
   exact ZJ ha rfl rfl (QAW rfl) rfl rfl
  | 29, _ =>
   intro val w1 a hb ha hd;have e28 : val 28 = _ := hd 28 (ZA.1 rfl);have ha := ha.s1 (d := 33) rfl e28
   exact ZJ ha rfl rfl (QED rfl (ZC hb (ZC hbw (hd1 15 _ rfl)))) rfl rfl
  | 30, _ =>
   intro val w1 a hb ha hd;have ha := ha.s0 (d := 1) rfl
   exact ZJ ha rfl rfl (x_move rfl) rfl rfl
  | 31, _ =>
   intro val w1 a hb ha hd;have e30 : val 30 = _ := hd 30 (ZA.1 rfl);have ha := ha.s1 (d := 35) rfl e30
   exact ZJ ha rfl rfl (ZH rfl) rfl rfl
  | 32, _ =>
   intro val w1 a hb ha hd;have e31 : val 31 = _ := hd 31 (ZA.1 rfl);have ha := ha.s1 (d := 36) rfl e31
   exact ZJ ha rfl rfl (QAW rfl) rfl rfl
  | 33, _ =>
   intro val w1 a hb ha hd;have e32 : val 32 = _ := hd 32 (ZA.1 rfl);have ha := ha.s1 (d := 37) rfl e32
   exact ZJ ha rfl rfl (QED rfl (ZC hb (ZC hbw (he1 15 _ rfl)))) rfl rfl
  | k + 34, h => exact absurd h (by omega)
 ·intro val wR1 hb halc hd
  have e0 : val 0 = _ := hd 0 (by omega)
  have e1 : val 1 = _ := hd 1 (by omega)
  have e2 : val 2 = _ := hd 2 (by omega)
  have e3 : val 3 = _ := hd 3 (by omega)
  have e4 : val 4 = _ := hd 4 (by omega)
  have e5 : val 5 = _ := hd 5 (by omega)
  have e6 : val 6 = _ := hd 6 (by omega)
  have e7 : val 7 = _ := hd 7 (by omega)
  have e8 : val 8 = _ := hd 8 (by omega)
  have e9 : val 9 = _ := hd 9 (by omega)
  have e10 : val 10 = _ := hd 10 (by omega)
  have e11 : val 11 = _ := hd 11 (by omega)
  have e12 : val 12 = _ := hd 12 (by omega)
  have e13 : val 13 = _ := hd 13 (by omega)
  have e14 : val 14 = _ := hd 14 (by omega)
  have e15 : val 15 = _ := hd 15 (by omega)
  have e16 : val 16 = _ := hd 16 (by omega)
  have e17 : val 17 = _ := hd 17 (by omega)
  have e18 : val 18 = _ := hd 18 (by omega)
  have e19 : val 19 = _ := hd 19 (by omega)
  have e20 : val 20 = _ := hd 20 (by omega)
  have e21 : val 21 = _ := hd 21 (by omega)
  have e22 : val 22 = _ := hd 22 (by omega)
  have e23 : val 23 = _ := hd 23 (by omega)
  have e24 : val 24 = _ := hd 24 (by omega)
  have e25 : val 25 = _ := hd 25 (by omega)
  have e26 : val 26 = _ := hd 26 (by omega)
  have e27 : val 27 = _ := hd 27 (by omega)
  have e28 : val 28 = _ := hd 28 (by omega)
  have e29 : val 29 = _ := hd 29 (by omega)
  have e30 : val 30 = _ := hd 30 (by omega)
  have e31 : val 31 = _ := hd 31 (by omega)
  have e32 : val 32 = _ := hd 32 (by omega)
  have e33 : val 33 = _ := hd 33 (by omega)
  refine EL.ends (cs := [_, _, _, _, _, _, _, _, _, _, _, _, _, _, _, _, _, _, _, _, _, _, _, _, _, _, _, _, _, _, _, _, _, _]) ⟨e0, e1, e2, e3, e4, e5, e6, e7, e8, e9, e10, e11, e12, e13, e14, e15, e16, e17, e18, e19, e20, e21, e22, e23, e24, e25, e26, e27, e28, e29, e30, e31, e32, e33, trivial⟩ rfl ?_;replace hbw := bo_ hbw hb;clear hb;refine EL.call (cA3 QNH rfl rfl rfl) rfl (QKM (hd2.below (hbw.mono hB)) (he2.below (hbw.mono hB)) (Nat.le_trans hB hbw.size) hn) ?_
  rintro e w1 ⟨rfl, hc1⟩
  refine ⟨_, rfl, ?_⟩;replace hbw := bo_ hbw hc1;clear hc1;refine EL.newS (QKW rfl rfl rfl) rfl ?_;intro g2 w2 q2 hb2 hg2 hl2;have bhbw_2 := Nat.le_trans hbw.size hg2;replace hbw := bo_ hbw hb2;clear hb2 hg2 hl2;refine EL.call (cA1 QL3 rfl) rfl (QJc (l := [cmpI d.s.cost e.s.cost, cmpI d.s.mv e.s.mv, cmpL d.plan e.plan]) (Yt (k := 3) (l := ints [cmpI d.s.cost e.s.cost, cmpI d.s.mv e.s.mv, cmpL d.plan e.plan]) q2 rfl) (Nat.le_refl _) (by simp)) ?_
  rintro e w3 ⟨rfl, hc3⟩
  refine ⟨_, rfl, ?_⟩;replace q2 := q2.bl hc3;replace hbw := bo_ hbw hc3;clear hc3;refine EL.as rfl rfl (EL.nil (EX.seq (EC.ret ?_)))
  exact EX.done (res1 rfl rfl) ⟨rfl, hbw⟩
section
variable {n : Nat} {σ : Sg} {w : World} {dst : Option Tmp} {ty : TypeId} {pos : String} {af : Array Edge} {g : Option (Nat × Bool)} {x y z : Operand} {at' : Array TypeId}
theorem QEB {A : Option Addr} {m c : Nat} (hx : evS σ x = some (.slice A m c)) : ZI Try.prog n σ w ⟨dst, .call { callee := .builtin .len, args := #[x], argTypes := #[145] }, ty, pos, af, g⟩ (.int .i64 (m : Int)) := fun a ha => by
 simp only [execOp, resolve, List.map_toArray, List.map_cons, List.map_nil, ha.eval hx]
 simp [go_sem]
theorem QCC {b o m c k : Nat} (hx : evS σ x = some (.slice (some ⟨b, o, none⟩) m c)) (hy : evS σ y = some (.int .i64 (k : Int))) (hk : k < m) : ZI Try.prog n σ w ⟨dst, .indexAddr 145 x y, ty, pos, af, g⟩ (.pointer (some ⟨b, o + k, none⟩)) := fun a ha => by
 have k0 : (0 : Int) ≤ (k : Int) := Int.natCast_nonneg _;have k1 : (k : Int) < (m : Int) := by omega
 simp only [execOp, ha.eval hx, ha.eval hy]
 simp [go_sem, k0, k1]
theorem Z7 {b o : Nat} {v0 : Value} (hx : evS σ x = some (.pointer (some ⟨b, o, none⟩))) (c0 : w.cell? ⟨b, o, none⟩ = some v0) : ZI Try.prog n σ w ⟨dst, .load 122 x, ty, pos, af, g⟩ (v0) := fun a ha => by
 simp only [execOp, ha.eval hx]
 simp [go_sem, c0]
theorem QNI : cF 111 := fun _ _ => by simp [go_sem]
theorem QFH : (Try.prog.info? 122).map (·.size) = some 1 := by kernel_rfl
theorem QGp {x0 : Operand} {A0 : Option Addr} (h0 : evS σ x0 = some (.pointer A0)) (a : Act) (ha : Env n σ a) : (execOp a.eval ⟨dst, .buildSlice 145 1 #[(0, x0)], ty, pos, af, g⟩).run Try.prog w = .ok (.value (.slice (some ⟨w.heap.size, 0, none⟩) 1 1)) (w.alloc (.cells #[.pointer A0] 122)) := by
 simp only [execOp, List.map_toArray, List.map_cons, List.map_nil, ha.eval h0]
 go_simp
theorem QA7 {b o : Nat} {v0 : Value} (hx : evS σ x = some (.pointer (some ⟨b, o, none⟩))) (c0 : w.cell? ⟨b, o, none⟩ = some v0) : ZI Try.prog n σ w ⟨dst, .load 145 x, ty, pos, af, g⟩ (v0) := fun a ha => by
 simp only [execOp, ha.eval hx]
 simp [go_sem, c0]
theorem QDr : (Try.prog.info? 145).map (·.size) = some 1 := by kernel_rfl
theorem QKs {b o m c hi : Nat} (hx : evS σ x = some (.slice (some ⟨b, o, none⟩) m c)) (hh : evS σ y = some (.int .i64 (hi : Int))) (h2 : hi ≤ c) : ZI Try.prog n σ w ⟨dst, .slice 145 x none (some y) none, ty, pos, af, g⟩ (.slice (some ⟨b, o, none⟩) hi c) := fun a ha => by
 have k1 : (0 : Int) ≤ (hi : Int) := Int.natCast_nonneg _;have k3 : (hi : Int) ≤ (c : Int) := by omega
 simp only [execOp, Option.map_some, Option.map_none, ha.eval hx, ha.eval hh]
 by_cases e : c = 0
 ·subst e; obtain rfl : hi = 0 := by omega
  simp [go_sem]
 ·simp [go_sem, k1, k3, h2, e]
end
section
variable {n : Nat} {σ : Sg} {w : World} {dst : Option Tmp} {ty : TypeId} {pos : String} {af : Array Edge} {g : Option (Nat × Bool)} {x y z : Operand} {at' : Array TypeId}
theorem cF83 : cF 83 := fun _ _ => by simp [go_sem]
theorem cF80 : cF 80 := fun _ _ => by simp [go_sem]
end
section
variable {n : Nat} {σ : Sg} {w : World} {dst : Option Tmp} {ty : TypeId} {pos : String} {af : Array Edge} {g : Option (Nat × Bool)} {x y z : Operand} {at' : Array TypeId}
theorem QCs {xf x0 x1 : Operand} {v0 v1 : Value} (hf : evS σ xf = some (.func (.func 74) #[] #[])) (h0 : evS σ x0 = some v0) (h1 : evS σ x1 = some v1) (a : Act) (ha : Env n σ a) : (execOp a.eval ⟨dst, .call { callee := .value xf, args := #[x0, x1], argTypes := at' }, ty, pos, af, g⟩).run Try.prog w = .ok (.enter 74 #[v0, v1]) w := by
 simp only [execOp, resolve, List.map_toArray, List.map_cons, List.map_nil, ha.eval hf, ha.eval h0, ha.eval h1]
 simp [go_sem, Deferred.ofValue]
theorem cA4 {F : FuncId} (hF : cF F) {x0 x1 x2 x3 : Operand} {v0 v1 v2 v3 : Value} (h0 : evS σ x0 = some v0) (h1 : evS σ x1 = some v1) (h2 : evS σ x2 = some v2) (h3 : evS σ x3 = some v3) (a : Act) (ha : Env n σ a) : (execOp a.eval ⟨dst, .call { callee := .value (.func F), args := #[x0, x1, x2, x3], argTypes := at' }, ty, pos, af, g⟩).run Try.prog w = .ok (.enter F #[v0, v1, v2, v3]) w := by
 simp only [execOp, resolve, List.map_toArray, List.map_cons, List.map_nil, ha.eval h0, ha.eval h1, ha.eval h2, ha.eval h3]
 simp [go_sem, Act.eval, hF _ _]
theorem cF88 : cF 88 := fun _ _ => by simp [go_sem]
theorem cF86 : cF 86 := fun _ _ => by simp [go_sem]
theorem QHP (a : Act) (_ : Env n σ a) : (execOp a.eval ⟨dst, .alloc 134, ty, pos, af, g⟩).run Try.prog w = .ok (.value (.pointer (some ⟨w.heap.size, 0, none⟩))) (w.alloc (.cells #[.slice none 0 0, .slice none 0 0] 134)) := by
 simp only [execOp]
 simp [go_sem]
theorem QLP {b o : Nat} (hx : evS σ x = some (.pointer (some ⟨b, o, none⟩))) : ZI Try.prog n σ w ⟨dst, .fieldAddr 39 x 0, ty, pos, af, g⟩ (.pointer (some ⟨b, o, none⟩)) := fun a ha => by
 simp only [execOp, ha.eval hx]
 simp [go_sem]
theorem YD {b o k : Nat} (hx : evS σ x = some (.pointer (some ⟨b, o, none⟩))) (hy : evS σ y = some (.int .i64 (k : Int))) (hk : k < 2) : ZI Try.prog n σ w ⟨dst, .indexAddr 134 x y, ty, pos, af, g⟩ (.pointer (some ⟨b, o + k, none⟩)) := fun a ha => by
 have k0 : (0 : Int) ≤ (k : Int) := Int.natCast_nonneg _;have k1 : (k : Int) < 2 := by omega
 simp only [execOp, ha.eval hx, ha.eval hy]
 simp [go_sem, k0, k1]
theorem QIJ {x0 : Operand} {v0_0 v0_1 v0_2 v0_3 v0_4 : Value} (h0 : evS σ x0 = some (.agg #[v0_0, v0_1, v0_2, v0_3, v0_4]))  (a : Act) (ha : Env n σ a) : (execOp a.eval ⟨dst, .buildSlice 24 1 #[(0, x0)], ty, pos, af, g⟩).run Try.prog w = .ok (.value (.slice (some ⟨w.heap.size, 0, none⟩) 1 1)) (w.alloc (.cells #[v0_0, v0_1, v0_2, v0_3, v0_4] 39)) := by
 simp only [execOp, List.map_toArray, List.map_cons, List.map_nil, ha.eval h0]
 go_simp
theorem QAI {b o : Nat} {v0 : Value} (hx : evS σ x = some (.pointer (some ⟨b, o, none⟩))) (c0 : w.cell? ⟨b, o, none⟩ = some v0) : ZI Try.prog n σ w ⟨dst, .load 24 x, ty, pos, af, g⟩ (v0) := fun a ha => by
 simp only [execOp, ha.eval hx]
 simp [go_sem, c0]
theorem QLt : (Try.prog.info? 24).map (·.size) = some 1 := by kernel_rfl
theorem ld_134 {b o : Nat} {v0 v1 : Value} (hx : evS σ x = some (.pointer (some ⟨b, o, none⟩))) (c0 : w.cell? ⟨b, o, none⟩ = some v0) (c1 : w.cell? ⟨b, o + 1, none⟩ = some v1) : ZI Try.prog n σ w ⟨dst, .load 134 x, ty, pos, af, g⟩ (.agg #[v0, v1]) := fun a ha => by
 simp only [execOp, ha.eval hx]
 simp [go_sem, c0, c1]
theorem cF73 : cF 73 := fun _ _ => by simp [go_sem]
theorem QGy : (Try.prog.info? 134).map (·.size) = some 2 := by kernel_rfl
theorem QMY {b o : Nat} {v0 v1 : Value} (c0 : w.cell? ⟨b, o, none⟩ = some v0) (c1 : w.cell? ⟨b, o + 1, none⟩ = some v1) : (loadVar 134 ⟨b, o, none⟩).run Try.prog w = .ok (.agg #[v0, v1]) w := by
 simp [go_sem, loadVar, c0, c1]
end
theorem QGc (x y : TW) (w : World) : Calls Try.prog 74 #[.agg #[.bool x.up, .int .i64 x.arrive, .int .i64 x.length, .int .i64 x.weight, .int .i64 x.push], .agg #[.bool y.up, .int .i64 y.arrive, .int .i64 y.length, .int .i64 y.weight, .int .i64 y.push]] w fun e w' => e = .returned (.int .i64 (cmpI x.arrive y.arrive)) ∧ Below w.heap.size w w' := by
 have hbw := Below.refl w.heap.size w;refine EC.enter 10 Try.func74 rfl rfl rfl (EC.seq (EC.region (EL.newP (QKT rfl) rfl ?_)));intro g1 w1 q1 hb1 hg1 hl1;have bhbw_1 := Nat.le_trans hbw.size hg1;replace hbw := bo_ hbw hb1;clear hb1 hg1 hl1;refine EL.newP (QKT rfl) rfl ?_;intro g2 w2 q2 hb2 hg2 hl2;have n1_2 := q1.na hg2;have bhbw_2 := Nat.le_trans hbw.size hg2;replace q1 := q1.bl hb2;replace hbw := bo_ hbw hb2;clear hb2 hg2 hl2;refine EL.as rfl rfl (EL.nil (EX.seq (EC.seq (EC.region (EL.val (QBs rfl) rfl (EL.val (ld_3 rfl (q1.at (j := 1) rfl)) rfl (EL.val (QBs rfl) rfl (EL.val (ld_3 rfl (q2.at (j := 1) rfl)) rfl (EL.call (cA2 cF75 rfl rfl) rfl (QAd _ _ _) ?_)))))))))
 rintro e w3 ⟨rfl, hc3⟩
 refine ⟨_, rfl, ?_⟩;replace q1 := q1.bl hc3;replace q2 := q2.bl hc3;replace hbw := bo_ hbw hc3;clear hc3;refine EL.as rfl rfl (EL.nil (EX.seq (EC.ret ?_)))
 exact EX.done (res1 rfl rfl) ⟨rfl, hbw⟩
theorem QG0 (ts : List TW) : Yo (ts.take (0 + 1)) ++ ts.drop (0 + 1) = ts := by cases ts <;> rfl
theorem QIZ {ts : List TW} {k : Nat} (h : k + 1 < ts.length) : ts.getD (k + 1) tw0 ∈ ts := Zo h tw0
theorem QJP {ts : List TW} {k : Nat} (hk : k = 0 ∨ k + 1 ≤ ts.length) (h : ts.length ≤ k + 1) : Yo (ts.take (k + 1)) ++ ts.drop (k + 1) = Yo ts := by
 rw [List.take_of_length_le h, List.drop_of_length_le h, List.append_nil]
theorem QGS {α : Type} (l : List α) : l = [] ∨ ∃ a b, l = a ++ [b] := (List.eq_nil_or_concat l).imp id fun ⟨a, b, h⟩ => ⟨a, b, by rw [h, List.concat_eq_append]⟩
theorem QAx {w : World} {base e size n : Nat} {v : Value} {xs ys : List Value} (h : w.ownsRow base e size v n xs) (he : xs = ys) : w.ownsRow base e size v n ys := he ▸ h
set_option maxRecDepth 100000 in
theorem QHD {w : World} {base : Nat} {v : Value} {ts : List TW} (h : w.ownsRow base 39 5 v ts.length (twsC ts)) (hn : ts.length ≤ 1000) :
  Calls Try.prog 88 #[v, .int .i64 0, .int .i64 (ts.length : Nat), .func (.func 74) #[] #[]] w fun e w' => e = .returned (.tuple #[]) ∧ w'.ownsRow base 39 5 v ts.length (twsC (Yo ts)) ∧ w.grownBy w' v.ownBlock := by
 refine EC.enter 53 Try.func88 rfl rfl rfl (EC.seq (EC.region (EL.mv rfl rfl (EL.val (x_add rfl rfl (c := ((0 + 1 : Nat) : Int)) rfl) rfl (EL.as rfl rfl (EL.nil (EX.seq (EC.block ?_))))))));refine EC.loopD [8, 9, 12, 13, 14, 15, 16, 17, 18, 19, 20, 21, 22, 23, 24, 25, 26, 27, 28, 29, 30, 31, 32, 33, 34, 35, 36, 37, 38, 39, 40, 41, 42, 43, 44, 45, 46, 47, 48, 49, 50, 51, 52] (fun k : Nat => [(8, .int .i64 ((k + 1 : Nat) : Int))]) (fun k W => (k = 0 ∨ k + 1 ≤ ts.length) ∧ W.ownsRow base 39 5 v ts.length (twsC (Yo (ts.take (k + 1)) ++ ts.drop (k + 1))) ∧ w.grownBy W v.ownBlock) (fun k => ts.length - k) 0 ⟨.inl rfl, by rw [QG0]; exact h, ⟨rfl, rfl, rfl, Nat.le_refl _, fun _ _ _ => rfl⟩⟩ ⟨rfl, trivial⟩ ?_
 clear h
 rintro k W ⟨hk, ho, hgw⟩
 by_cases hlt : k + 1 < ts.length
 ·
  obtain ⟨g, c, rfl⟩ := Z6 ho (by omega)
  obtain ⟨x, hx⟩ : ∃ x, x = ts.getD (k + 1) tw0 := ⟨_, rfl⟩;have hsp := QIZ hlt;rw [← hx] at hsp;have hS := QFK (ts.take (k + 1));have hSl : (Yo (ts.take (k + 1))).length = k + 1 := by rw [(QB9 _).length_eq, List.length_take]; omega
  rw [QCo (d := tw0) hlt, ← hx] at ho;have hnx : Yo (ts.take (k + 1 + 1)) = insT x (Yo (ts.take (k + 1))) := by rw [Z1 hlt, QG1, ← hx]
  generalize Yo (ts.take (k + 1)) = S at *
  obtain ⟨R, hR⟩ : ∃ R, R = ts.drop (k + 1 + 1) := ⟨_, rfl⟩;rw [← hR] at ho;refine EC.seq (EC.seq (EC.region (EL.mv rfl rfl (EL.mv rfl rfl ?_))));refine EL.val (ZO (r := true) rfl rfl (decide_eq_true (by omega))) rfl ?_
  refine EL.nil (EX.seq (EC.yes rfl (EC.skip (EX.seq (EC.seq (EC.block (EC.seq (EC.region (EL.mv rfl rfl ?_)))))))));refine EL.as rfl rfl (EL.nil (EX.seq (EC.block ?_)));refine EC.loopD [9, 18, 19, 20, 21, 22, 23, 24, 25, 26, 27, 28, 29, 30, 31, 32, 33, 34, 35, 36, 37, 38, 39, 40, 41, 42, 43, 44, 45, 46, 47, 48, 49, 50, 51, 52] (fun i : List TW × List TW => [(9, .int .i64 (i.1.length : Nat))]) (fun i V => i.1 ++ i.2 = S ∧ (∀ q ∈ i.2, x.arrive < q.arrive) ∧ V.ownsRow base 39 5 (.slice (some ⟨g, 0, none⟩) ts.length c) ts.length (twsC (i.1 ++ x :: (i.2 ++ R))) ∧ w.grownBy V (some g)) (fun i => i.1.length) (S, []) ⟨List.append_nil _, (fun q hq => by cases hq), ho, hgw⟩ ⟨by rw [← hSl]; rfl, trivial⟩ ?_
  clear ho hgw
  rintro ⟨L, Q⟩ V ⟨hLQ, hQ, ho, hgw⟩
  dsimp only at hLQ hQ ho hgw
  have hln := ho.1;rw [QAl] at hln;refine EC.seq (EC.seq ?_)
  rcases QGS L with rfl | ⟨L2, y, rfl⟩
  ·
   have hPn : ∀ p ∈ ([] : List TW), ¬x.arrive < p.arrive := fun p hp => by cases hp
   refine EC.regionQ (by kernel_rfl) (by kernel_rfl) ?_
   refine EQ.mv rfl rfl (EQ.mv rfl rfl ?_);refine EQ.val (fun _ hw => (Zw (r := false) rfl rfl (decide_eq_false (by simp)))) rfl ?_
   refine EQ.mv rfl rfl (EQ.skip rfl rfl rfl rfl (EQ.skip rfl rfl rfl rfl (EQ.skip rfl rfl rfl rfl (EQ.skip rfl rfl rfl rfl (EQ.skip rfl rfl rfl rfl (EQ.skip rfl rfl rfl rfl (EQ.skip rfl rfl rfl rfl (EQ.skip rfl rfl rfl rfl (EQ.skip rfl rfl rfl rfl ?_)))))))));refine EQ.skip rfl rfl rfl rfl (EQ.skip rfl rfl rfl rfl (EQ.skip rfl rfl rfl rfl ?_));refine EQ.val (fun _ hw => (Zz rfl rfl)) rfl ?_
   refine EQ.fin (fun w1 hw_ => ?_)
   replace ho := ZB ho hw_ (Nat.le_refl _);replace hgw := YX hgw hw_;clear hw_;have hfin : w1.ownsRow base 39 5 (.slice (some ⟨g, 0, none⟩) ts.length c) ts.length (twsC (insT x S ++ R)) := by rw [← hLQ, QCD hPn hQ, List.append_assoc]; exact ho
   refine EX.seq (EC.no rfl (EC.exit (EX.seq_exit (EX.seq_exit (EX.blk_here (EX.blk (EX.seq (EC.region (EL.mv rfl rfl ?_)))))))));refine EL.val (x_add rfl rfl (c := (((k + 1) + 1 : Nat) : Int)) ((IntWalk.i64_in _ ⟨by first | omega | (simp only; omega), by first | omega | (simp only; omega)⟩).trans (by first | omega | (simp only; omega)))) rfl ?_
   refine EL.as rfl rfl (EL.nil ?_);refine EX.roundD (k + 1) ⟨rfl, trivial⟩ (by repeat first | with_reducible exact .refl _ | refine sp_ rfl ?_ | exact .refl _ | refine sd_ rfl ?_ | refine sn_ ?_) ⟨.inr hlt, by rw [hnx, ← hR]; exact hfin, hgw⟩ (show ts.length - (k + 1) < ts.length - k by omega)
  ·
   have hl1 : (L2 ++ [y]).length = L2.length + 1 := by simp
   have hcur : (L2 ++ [y]) ++ x :: (Q ++ R) = L2 ++ y :: x :: (Q ++ R) := by simp
   rw [hcur] at ho;have hll : (L2 ++ y :: x :: (Q ++ R)).length = ts.length := by have := ho.1; rw [QAl] at this; omega
   have hL2 : L2.length + 1 < ts.length := by have h_ := hll; simp only [List.length_append, List.length_cons] at h_; omega
   obtain ⟨e1_, e2_⟩ := QLA (x := x) (y := y) L2 (Q ++ R);obtain ⟨b1, o1, eb1, _, cx⟩ := Ya _ (L2 ++ [y]).length (by rw [hll]; omega) _ _ _ _ _ (Rd.of_own ho)
   obtain ⟨b2, o2, eb2, _, cy⟩ := Ya _ L2.length (by rw [hll]; omega) _ _ _ _ _ (Rd.of_own ho)
   injection eb1 with eb1
   injection eb1 with eb1 eb3
   subst eb1 eb3
   injection eb2 with eb2
   injection eb2 with eb2 eb3
   subst eb2 eb3;rw [hl1, e2_] at cx;rw [← hl1] at cx;rw [e1_] at cy
   by_cases hxy : x.arrive < y.arrive
   ·
    refine EC.regionQ (by kernel_rfl) (by kernel_rfl) ?_
    refine EQ.mv rfl rfl (EQ.mv rfl rfl ?_);refine EQ.val (fun _ hw => (Zw (r := true) rfl rfl (decide_eq_true (by simp)))) rfl ?_
    refine EQ.mv rfl rfl (EQ.mg rfl rfl rfl rfl (EQ.mg rfl rfl rfl rfl (EQ.mg rfl rfl rfl rfl ?_)));refine EQ.valg rfl rfl (fun _ hw => (QAv rfl rfl (show (L2 ++ [y]).length < ts.length by omega))) rfl ?_
    refine EQ.valg rfl rfl (fun _ hw => (QAt rfl (ZC hw cx.c0) (ZC hw cx.c1) (ZC hw cx.c2) (ZC hw cx.c3) (ZC hw cx.c4))) rfl ?_
    refine EQ.mg rfl rfl rfl rfl (EQ.mg rfl rfl rfl rfl ?_);refine EQ.valg rfl rfl (fun _ hw => (Z_ rfl rfl (c := ((L2.length : Nat) : Int)) ((IntWalk.i64_in _ ⟨by simp only [hl1]; omega, by simp only [hl1]; omega⟩).trans (by simp only [hl1]; omega)))) rfl ?_
    refine EQ.valg rfl rfl (fun _ hw => (QAv rfl rfl (show L2.length < ts.length by omega))) rfl ?_
    refine EQ.valg rfl rfl (fun _ hw => (QAt rfl (ZC hw cy.c0) (ZC hw cy.c1) (ZC hw cy.c2) (ZC hw cy.c3) (ZC hw cy.c4))) rfl ?_
    refine EQ.callg rfl rfl (fun _ _ _ ha => QCs rfl rfl rfl _ ha) rfl (fun W hw => (QGc x y _).mono fun e w' h => ⟨h.1, hw.trans (h.2.mono hw.size)⟩) ?_
    refine EQ.valg rfl rfl (fun _ hw => (ZO (r := true) rfl rfl (decide_eq_true (by unfold cmpI; split <;> (try split) <;> omega)))) rfl ?_
    refine EQ.val (fun _ hw => (YH rfl rfl)) rfl ?_
    refine EQ.fin (fun w2 hw_ => ?_)
    replace ho := ZB ho hw_ (Nat.le_refl _);replace hgw := YX hgw hw_;clear hw_;refine EX.seq (EC.yes rfl (EC.skip (EX.seq (EC.seq (EC.block ?_)))));clear cx cy;have lb_ts : base ≤ g := (ho.lt _ rfl).1;refine EC.regionS [[], [], [], [], [3], [], [], [6], [5, 6, 7], [5, 6, 7, 8], [], [], [10, 11], [10, 11, 12], [0, 1, 5, 6, 7, 8, 9, 10, 11, 12, 13], [0, 1, 5, 6, 7, 8, 9, 10, 11, 12, 13, 14], [0, 1, 2, 3, 4, 5, 6, 7, 8, 9, 10, 11, 12, 13, 14, 15], [0, 1, 2, 3, 4, 5, 6, 7, 8, 9, 10, 11, 12, 13, 14, 15, 16]] 16 [] [15] (fun fl w_ => Touch w2 w_ [g] ∧ (fl 15 = false → w_.ownsRow base 39 5 (.slice (some ⟨g, 0, none⟩) ts.length c) ts.length (twsC (L2 ++ y :: x :: (Q ++ R))))) (phiS (fun i_ r => match i_ with | 0 => r 0 = .slice (some ⟨g, 0, none⟩) ts.length c | 1 => r 1 = .int .i64 ((L2 ++ [y]).length : Nat) | 2 => r 2 = .slice (some ⟨g, 0, none⟩) ts.length c | 3 => r 3 = .int .i64 ((L2 ++ [y]).length : Nat) | 4 => r 4 = .int .i64 (L2.length : Nat) | 5 => r 5 = .slice (some ⟨g, 0, none⟩) ts.length c | 6 => r 6 = .int .i64 ((L2 ++ [y]).length : Nat) | 7 => r 7 = .int .i64 (L2.length : Nat) | 8 => r 8 = .pointer (some ⟨g, 0 + L2.length * 5, none⟩) | 9 => r 9 = .agg #[.bool y.up, .int .i64 y.arrive, .int .i64 y.length, .int .i64 y.weight, .int .i64 y.push] | 10 => r 10 = .slice (some ⟨g, 0, none⟩) ts.length c | 11 => r 11 = .int .i64 ((L2 ++ [y]).length : Nat) | 12 => r 12 = .pointer (some ⟨g, 0 + (L2 ++ [y]).length * 5, none⟩) | 13 => r 13 = .agg #[.bool x.up, .int .i64 x.arrive, .int .i64 x.length, .int .i64 x.weight, .int .i64 x.push] | 14 => r 14 = .pointer (some ⟨g, 0 + (L2 ++ [y]).length * 5, none⟩) | _ => True) [(15, fun fl _ w_ => fl 15 = true ∧ w_.ownsRow base 39 5 (.slice (some ⟨g, 0, none⟩) ts.length c) ts.length (twsC ((L2 ++ y :: x :: (Q ++ R)).set (L2.length + 1) y)))]) (by kernel_rfl) rfl rfl (by intro i hi; simp at hi; rcases hi with rfl <;> exact ⟨by simp, by omega⟩) ⟨fun _ _ => ⟨Touch.start _ _, fun _ => QBo ho 1⟩, fun _ _ _ ⟨hT, hA0_⟩ hb => ⟨hT.below hb, fun h => ZB (hA0_ h) hb (Nat.le_refl _)⟩, fun _ _ h => h.1.size⟩ (ZL (fun _ _ _ _ hb ⟨h1, h2⟩ => ⟨h1, ZB h2 hb (Nat.le_refl _)⟩) (Zd)) (fun i_ hi_ hs_ => ?_) (fun i_ hi_ => ?_) ?_
    ·match i_, hi_ with
     | 0, _ =>
      intro val fl w1 a hb ha hd hfl;obtain ⟨hT, hA0_⟩ := hb;have ha := ha.s0 (d := 0) rfl
      exact ZD ha rfl rfl (x_move rfl) rfl rfl
     | 1, _ =>
      intro val fl w1 a hb ha hd hfl;obtain ⟨hT, hA0_⟩ := hb;have ha := ha.s0 (d := 9) rfl
      exact ZD ha rfl rfl (x_move rfl) rfl rfl
     | 2, _ =>
      intro val fl w1 a hb ha hd hfl;obtain ⟨hT, hA0_⟩ := hb;have ha := ha.s0 (d := 0) rfl
      exact ZD ha rfl rfl (x_move rfl) rfl rfl
     | 3, _ =>
      intro val fl w1 a hb ha hd hfl;obtain ⟨hT, hA0_⟩ := hb;have ha := ha.s0 (d := 9) rfl
      exact ZD ha rfl rfl (x_move rfl) rfl rfl
     | 4, _ =>
      intro val fl w1 a hb ha hd hfl;obtain ⟨hT, hA0_⟩ := hb;have e3 : val 3 = _ := hd 3 (ZA.1 rfl);have ha := ha.s1 (d := 40) rfl e3
      exact ZD ha rfl rfl (Z_ rfl rfl (c := ((L2.length : Nat) : Int)) ((IntWalk.i64_in _ ⟨by simp only [hl1]; omega, by simp only [hl1]; omega⟩).trans (by simp only [hl1]; omega))) rfl rfl
     | 5, _ =>
      intro val fl w1 a hb ha hd hfl;obtain ⟨hT, hA0_⟩ := hb;have ha := ha.s0 (d := 0) rfl
      exact ZD ha rfl rfl (x_move rfl) rfl rfl
     | 6, _ =>
      intro val fl w1 a hb ha hd hfl;obtain ⟨hT, hA0_⟩ := hb;have ha := ha.s0 (d := 9) rfl
      exact ZD ha rfl rfl (x_move rfl) rfl rfl
     | 7, _ =>
      intro val fl w1 a hb ha hd hfl;obtain ⟨hT, hA0_⟩ := hb;have e6 : val 6 = _ := hd 6 (ZA.1 rfl);have ha := ha.s1 (d := 43) rfl e6
      exact ZD ha rfl rfl (Z_ rfl rfl (c := ((L2.length : Nat) : Int)) ((IntWalk.i64_in _ ⟨by simp only [hl1]; omega, by simp only [hl1]; omega⟩).trans (by simp only [hl1]; omega))) rfl rfl
     | 8, _ =>
      intro val fl w1 a hb ha hd hfl;obtain ⟨hT, hA0_⟩ := hb;have e5 : val 5 = _ := hd 5 (ZA.1 rfl);have e7 : val 7 = _ := hd 7 (ZA.1 rfl);have ha := ha.s2 (d := 44) (e := 42) rfl e7 rfl e5
      exact ZD ha rfl rfl (QAv rfl rfl (show L2.length < ts.length by omega)) rfl rfl
     | 9, _ =>
      intro val fl w1 a hb ha hd hfl;obtain ⟨hT, hA0_⟩ := hb;have e8 : val 8 = _ := hd 8 (ZA.1 rfl);have ha := ha.s1 (d := 45) rfl e8;have hr0 := hA0_ (hfl 15 (by simp) (ZA.1 rfl))
      exact ZD ha rfl rfl (by obtain ⟨b1, o1, eb1, _, cx⟩ := Ya _ L2.length (by rw [hll]; omega) _ _ _ _ _ (Rd.of_own hr0); injection eb1 with eb1; injection eb1 with eb1 eb3; subst eb1 eb3; rw [e1_] at cx; exact QAt rfl cx.c0 cx.c1 cx.c2 cx.c3 cx.c4) rfl rfl
     | 10, _ =>
      intro val fl w1 a hb ha hd hfl;obtain ⟨hT, hA0_⟩ := hb;have ha := ha.s0 (d := 0) rfl
      exact ZD ha rfl rfl (x_move rfl) rfl rfl
     | 11, _ =>
      intro val fl w1 a hb ha hd hfl;obtain ⟨hT, hA0_⟩ := hb;have ha := ha.s0 (d := 9) rfl
      exact ZD ha rfl rfl (x_move rfl) rfl rfl
     | 12, _ =>
      intro val fl w1 a hb ha hd hfl;obtain ⟨hT, hA0_⟩ := hb;have e10 : val 10 = _ := hd 10 (ZA.1 rfl);have e11 : val 11 = _ := hd 11 (ZA.1 rfl);have ha := ha.s2 (d := 48) (e := 47) rfl e11 rfl e10
      exact ZD ha rfl rfl (QAv rfl rfl (show (L2 ++ [y]).length < ts.length by omega)) rfl rfl
     | 13, _ =>
      intro val fl w1 a hb ha hd hfl;obtain ⟨hT, hA0_⟩ := hb;have e12 : val 12 = _ := hd 12 (ZA.1 rfl);have ha := ha.s1 (d := 49) rfl e12;have hr0 := hA0_ (hfl 15 (by simp) (ZA.1 rfl))
      exact ZD ha rfl rfl (by obtain ⟨b1, o1, eb1, _, cx⟩ := Ya _ (L2 ++ [y]).length (by rw [hll]; omega) _ _ _ _ _ (Rd.of_own hr0); injection eb1 with eb1; injection eb1 with eb1 eb3; subst eb1 eb3; rw [hl1, e2_, ← hl1] at cx; exact QAt rfl cx.c0 cx.c1 cx.c2 cx.c3 cx.c4) rfl rfl
     | 14, _ =>
      intro val fl w1 a hb ha hd hfl;obtain ⟨hT, hA0_⟩ := hb;have e0 : val 0 = _ := hd 0 (ZA.1 rfl);have e1 : val 1 = _ := hd 1 (ZA.1 rfl);have ha := ha.s2 (d := 38) (e := 37) rfl e1 rfl e0
      exact ZD ha rfl rfl (QAv rfl rfl (show (L2 ++ [y]).length < ts.length by omega)) rfl rfl
     | 15, _ =>
      exact absurd (by simp) hs_
     | k + 16, h => exact absurd h (by omega)
    ·simp only [List.mem_cons, List.not_mem_nil, or_false] at hi_
     subst hi_;intro val fl w1 a hb hfi ha hd hfl;obtain ⟨hT, hA0_⟩ := hb;have e14 : val 14 = _ := hd 14 (ZA.1 rfl);have e9 : val 9 = _ := hd 9 (ZA.1 rfl);have ha := ha.s2 (d := 46) (e := 51) rfl e9 rfl e14;refine QBI (l' := [.bool y.up, .int .i64 y.arrive, .int .i64 y.length, .int .i64 y.weight, .int .i64 y.push]) ha rfl rfl rfl (hA0_ hfi) QEn rfl rfl (by rw [QAl, hll]; omega) rfl ?_
     intro w' ho2 hgr;rw [Nat.zero_add, hl1, show [.bool y.up, .int .i64 y.arrive, .int .i64 y.length, .int .i64 y.weight, .int .i64 y.push] = twC y from rfl] at ho2;replace ho2 := QAx ho2 (QAo QBg _ _ (by rw [hll]; omega) _)
     refine ⟨undef, rfl, hgr.size, ⟨hT.grown hgr (by simp), (fun h => by rw [ZR] at h; cases h)⟩, ⟨ZR, ho2⟩, fun j _ hj hn hA => ?_⟩
     exact ZF (C := fun j => j ≠ 15 ∧ 15 ∉ clsAt [[], [], [], [], [3], [], [], [6], [5, 6, 7], [5, 6, 7, 8], [], [], [10, 11], [10, 11, 12], [0, 1, 5, 6, 7, 8, 9, 10, 11, 12, 13], [0, 1, 5, 6, 7, 8, 9, 10, 11, 12, 13, 14], [0, 1, 2, 3, 4, 5, 6, 7, 8, 9, 10, 11, 12, 13, 14, 15], [0, 1, 2, 3, 4, 5, 6, 7, 8, 9, 10, 11, 12, 13, 14, 15, 16]] j) (fun hc => absurd rfl hc.1) (fun _ _ h => h) j ⟨hj, hn⟩
    ·intro val fl wR6 hfl hb halc hd
     obtain ⟨hT, _⟩ := hb;have hz_ts := (hd 15 (by omega)).2
     change wR6.ownsRow base 39 5 (.slice (some ⟨g, 0, none⟩) ts.length c) ts.length (twsC ((L2 ++ y :: x :: (Q ++ R)).set (L2.length + 1) y)) at hz_ts;have e0 : val 0 = _ := hd 0 (by omega)
     have e1 : val 1 = _ := hd 1 (by omega)
     have e2 : val 2 = _ := hd 2 (by omega)
     have e3 : val 3 = _ := hd 3 (by omega)
     have e4 : val 4 = _ := hd 4 (by omega)
     have e5 : val 5 = _ := hd 5 (by omega)
     have e6 : val 6 = _ := hd 6 (by omega)
     have e7 : val 7 = _ := hd 7 (by omega)
     have e8 : val 8 = _ := hd 8 (by omega)
     have e9 : val 9 = _ := hd 9 (by omega)
     have e10 : val 10 = _ := hd 10 (by omega)
     have e11 : val 11 = _ := hd 11 (by omega)
     have e12 : val 12 = _ := hd 12 (by omega)
     have e13 : val 13 = _ := hd 13 (by omega)
     have e14 : val 14 = _ := hd 14 (by omega)
     refine EL.ends (cs := [_, _, _, _, _, _, _, _, _, _, _, _, _, _, _, val 15]) ⟨e0, e1, e2, e3, e4, e5, e6, e7, e8, e9, e10, e11, e12, e13, e14, rfl, trivial⟩ rfl ?_;replace hgw := Zm hgw (QBJ hT);clear hT ho;have ho := hz_ts;clear hz_ts;refine EL.val (QAv rfl rfl (show L2.length < ts.length by omega)) rfl ?_
     refine EL.storeRow (l' := [.bool x.up, .int .i64 x.arrive, .int .i64 x.length, .int .i64 x.weight, .int .i64 x.push]) rfl rfl ho QEn rfl rfl (by rw [QAl, List.length_set, hll]; omega) rfl ?_
     intro w3 ho2 hgr;rw [Nat.zero_add, show [.bool x.up, .int .i64 x.arrive, .int .i64 x.length, .int .i64 x.weight, .int .i64 x.push] = twC x from rfl] at ho2;replace ho2 := QAx ho2 (QAo QBg _ _ (by rw [List.length_set, hll]; omega) _)
     rw [QJJ] at ho2;replace hgw := Zm hgw hgr;clear ho hgr;have ho := ho2;clear ho2;refine EL.nil (EX.blk (EX.seq (EC.region (EL.mv rfl rfl ?_))));refine EL.val (Z_ rfl rfl (c := ((L2.length : Nat) : Int)) ((IntWalk.i64_in _ ⟨by simp only [hl1]; omega, by simp only [hl1]; omega⟩).trans (by simp only [hl1]; omega))) rfl ?_
     refine EL.as rfl rfl (EL.nil ?_);refine EX.roundD (L2, y :: Q) ⟨rfl, trivial⟩ (by repeat first | with_reducible exact .refl _ | refine sp_ rfl ?_ | exact .refl _ | refine sd_ rfl ?_ | refine sn_ ?_) ⟨by rw [← hLQ]; simp, fun q hq => (List.mem_cons.1 hq).elim (fun e => e ▸ hxy) (hQ q), ho, hgw⟩ (show L2.length < (L2 ++ [y]).length by omega)
   ·
    have hPn : ∀ p ∈ L2 ++ [y], ¬x.arrive < p.arrive := QKa (Q := Q) (by rw [hLQ]; exact hS) hxy
    refine EC.regionQ (by kernel_rfl) (by kernel_rfl) ?_
    refine EQ.mv rfl rfl (EQ.mv rfl rfl ?_);refine EQ.val (fun _ hw => (Zw (r := true) rfl rfl (decide_eq_true (by simp)))) rfl ?_
    refine EQ.mv rfl rfl (EQ.mg rfl rfl rfl rfl (EQ.mg rfl rfl rfl rfl (EQ.mg rfl rfl rfl rfl ?_)));refine EQ.valg rfl rfl (fun _ hw => (QAv rfl rfl (show (L2 ++ [y]).length < ts.length by omega))) rfl ?_
    refine EQ.valg rfl rfl (fun _ hw => (QAt rfl (ZC hw cx.c0) (ZC hw cx.c1) (ZC hw cx.c2) (ZC hw cx.c3) (ZC hw cx.c4))) rfl ?_
    refine EQ.mg rfl rfl rfl rfl (EQ.mg rfl rfl rfl rfl ?_);refine EQ.valg rfl rfl (fun _ hw => (Z_ rfl rfl (c := ((L2.length : Nat) : Int)) ((IntWalk.i64_in _ ⟨by simp only [hl1]; omega, by simp only [hl1]; omega⟩).trans (by simp only [hl1]; omega)))) rfl ?_
    refine EQ.valg rfl rfl (fun _ hw => (QAv rfl rfl (show L2.length < ts.length by omega))) rfl ?_
    refine EQ.valg rfl rfl (fun _ hw => (QAt rfl (ZC hw cy.c0) (ZC hw cy.c1) (ZC hw cy.c2) (ZC hw cy.c3) (ZC hw cy.c4))) rfl ?_
    refine EQ.callg rfl rfl (fun _ _ _ ha => QCs rfl rfl rfl _ ha) rfl (fun W hw => (QGc x y _).mono fun e w' h => ⟨h.1, hw.trans (h.2.mono hw.size)⟩) ?_
    refine EQ.valg rfl rfl (fun _ hw => (ZO (r := false) rfl rfl (decide_eq_false (by unfold cmpI; split <;> (try split) <;> omega)))) rfl ?_
    refine EQ.val (fun _ hw => (YH rfl rfl)) rfl ?_
    refine EQ.fin (fun w4 hw_ => ?_)
    replace ho := ZB ho hw_ (Nat.le_refl _);replace hgw := YX hgw hw_;clear hw_;have hfin : w4.ownsRow base 39 5 (.slice (some ⟨g, 0, none⟩) ts.length c) ts.length (twsC (insT x S ++ R)) := by rw [← hLQ, QCD hPn hQ, List.append_assoc]; have h_ := ho; rw [← hcur] at h_; exact h_
    refine EX.seq (EC.no rfl (EC.exit (EX.seq_exit (EX.seq_exit (EX.blk_here (EX.blk (EX.seq (EC.region (EL.mv rfl rfl ?_)))))))));refine EL.val (x_add rfl rfl (c := (((k + 1) + 1 : Nat) : Int)) ((IntWalk.i64_in _ ⟨by first | omega | (simp only; omega), by first | omega | (simp only; omega)⟩).trans (by first | omega | (simp only; omega)))) rfl ?_
    refine EL.as rfl rfl (EL.nil ?_);refine EX.roundD (k + 1) ⟨rfl, trivial⟩ (by repeat first | with_reducible exact .refl _ | refine sp_ rfl ?_ | exact .refl _ | refine sd_ rfl ?_ | refine sn_ ?_) ⟨.inr hlt, by rw [hnx, ← hR]; exact hfin, hgw⟩ (show ts.length - (k + 1) < ts.length - k by omega)
 ·
  refine EC.seq (EC.seq (EC.region (EL.mv rfl rfl (EL.mv rfl rfl ?_))));refine EL.val (ZO (r := false) rfl rfl (decide_eq_false (by omega))) rfl ?_
  refine EL.nil (EX.seq (EC.no rfl (EC.exit (EX.seq_exit (EX.seq_exit (EX.blk_here ?_))))))
  exact EX.done' (res0 rfl) ⟨rfl, by rw [← QJP hk (by omega)]; exact ho, hgw⟩
theorem QGz {w : World} {base : Nat} {v : Value} {ts : List TW} (h : w.ownsRow base 39 5 v ts.length (twsC ts)) (hn : ts.length ≤ 19) :
  Calls Try.prog 86 #[v, .int .i64 (ts.length : Nat), .func (.func 74) #[] #[]] w fun e w' => e = .returned (.tuple #[]) ∧ w'.ownsRow base 39 5 v ts.length (twsC (Yo ts)) ∧ w.grownBy w' v.ownBlock := by
 refine EC.enter 63 Try.func86 rfl rfl rfl (EC.seq (EC.region (EL.as rfl rfl (EL.nil (EX.seq (EC.seq (EC.region (EL.mv rfl rfl (EL.as rfl rfl ?_)))))))));refine EL.as rfl rfl (EL.nil (EX.seq (EC.seq (EC.block ?_))));refine EC.loopD [7, 8, 11, 12, 13, 14, 15, 16, 17, 18, 19, 20, 21, 22] (fun _ : Unit => [(8, .int .i64 20), (7, .int .i64 0)]) (fun _ W => W = w) (fun _ => 0) () rfl ⟨rfl, rfl, trivial⟩ ?_
 rintro ⟨⟩ _ rfl
 refine EC.seq (EC.seq (EC.region (EL.mv rfl rfl (EL.mv rfl rfl ?_))));refine EL.val (QF1 (r := false) rfl rfl (decide_eq_false (by omega))) rfl ?_
 refine EL.nil (EX.seq (EC.no rfl (EC.exit (EX.seq_exit (EX.seq_exit (EX.blk_here (EX.seq (EC.seq (EC.region ?_)))))))));refine EL.mv rfl rfl (EL.mv rfl rfl (EL.mv rfl rfl (EL.mv rfl rfl ?_)));refine EL.call (cA4 cF88 rfl rfl rfl rfl) rfl (QHD h (by omega)) ?_
 rintro e w1 ⟨rfl, ho, hgw⟩
 refine ⟨_, rfl, ?_⟩;refine EL.nil (EX.seq (EC.block ?_));refine EC.loopD [6, 7, 8, 9, 28, 29, 30, 31, 32, 33, 34, 35, 36, 37, 38, 39, 40, 41, 42, 43, 44, 45, 46, 47, 48, 49, 50, 51, 52, 53, 54, 55, 56, 57, 58, 59, 60, 61, 62] (fun _ : Unit => [(6, .int .i64 20)]) (fun _ W => W = w1) (fun _ => 0) () rfl ⟨rfl, trivial⟩ ?_
 rintro ⟨⟩ _ rfl
 refine EC.seq (EC.seq (EC.region (EL.mv rfl rfl (EL.mv rfl rfl ?_))));refine EL.val (ZO (r := false) rfl rfl (decide_eq_false (by omega))) rfl ?_
 refine EL.nil (EX.seq (EC.no rfl (EC.exit (EX.seq_exit (EX.seq_exit (EX.blk_here ?_))))))
 exact EX.done' (res0 rfl) ⟨rfl, ho, hgw⟩
theorem QGA {w : World} {base : Nat} {v : Value} {ts : List TW} (h : w.ownsRow base 39 5 v ts.length (twsC ts)) (hn : ts.length ≤ 19) :
  Calls Try.prog 73 #[v, .func (.func 74) #[] #[]] w fun e w' => e = .returned (.tuple #[]) ∧ w'.ownsRow base 39 5 v ts.length (twsC (Yo ts)) ∧ w.grownBy w' v.ownBlock := by
 obtain ⟨A, c, rfl, _⟩ := (Rd.of_own h).shape;refine EC.enter 9 Try.func73 rfl rfl rfl (EC.region (EL.mv rfl rfl (EL.mv rfl rfl (EL.val (Yg rfl) rfl (EL.mv rfl rfl (EL.call (cA3 cF86 rfl rfl rfl) rfl (QGz h hn) ?_))))))
 rintro e w1 ⟨rfl, ho, hgw⟩
 refine ⟨_, rfl, ?_⟩;refine EL.nil ?_
 exact EX.done' (res0 rfl) ⟨rfl, ho, hgw⟩
section
variable {n : Nat} {σ : Sg} {w : World} {dst : Option Tmp} {ty : TypeId} {t' : TypeId} {pos : String} {af : Array Edge} {g : Option (Nat × Bool)} {x y z : Operand}
theorem QM9 {A1 A2 : Option Addr} {m1 c1 m2 c2 : Nat} (hx : evS σ x = some (.agg #[.slice A1 m1 c1, .slice A2 m2 c2])) (hy : evS σ y = some (.int .i64 ((0 : Nat) : Int))) : ZI Try.prog n σ w ⟨dst, .index 134 x y, ty, pos, af, g⟩ (.slice A1 m1 c1) := fun a ha => by
 simp only [execOp, ha.eval hx, ha.eval hy, Sem.run_bind]
 have h : Sem.run Try.prog (Instr.index 134 (.agg #[.slice A1 m1 c1, .slice A2 m2 c2]) (.int .i64 ((0 : Nat) : Int))) w = .ok (.slice A1 m1 c1) w := by kernel_rfl
 rw [h]
 rfl
theorem QM8 {A1 A2 : Option Addr} {m1 c1 m2 c2 : Nat} (hx : evS σ x = some (.agg #[.slice A1 m1 c1, .slice A2 m2 c2])) (hy : evS σ y = some (.int .i64 ((1 : Nat) : Int))) : ZI Try.prog n σ w ⟨dst, .index 134 x y, ty, pos, af, g⟩ (.slice A2 m2 c2) := fun a ha => by
 simp only [execOp, ha.eval hx, ha.eval hy, Sem.run_bind]
 have h : Sem.run Try.prog (Instr.index 134 (.agg #[.slice A1 m1 c1, .slice A2 m2 c2]) (.int .i64 ((1 : Nat) : Int))) w = .ok (.slice A2 m2 c2) w := by kernel_rfl
 rw [h]
 rfl
end
theorem QI6 : (Try.prog.info? 39).map (fun i => (i.zero, i.size, i.bytes)) = some (some (.agg #[.bool false, .int .i64 0, .int .i64 0, .int .i64 0, .int .i64 0]), 5, 40) := by kernel_rfl
theorem QF6 : Elem Try.prog 24 39 5 40 := Elem.mk' Try.underlying24 QI6 rfl (by omega)
theorem QF5 (a b : List TW) : twsC (a ++ b) = twsC a ++ twsC b := List.flatMap_append
theorem Yd {W W' : World} {base e z n : Nat} {u : Value} {xs : List Value} {row : Option Nat} (h : W.ownsRow base e z u n xs) (hg : W.grownBy W' row) (hn : ∀ b, u.ownBlock = some b → row ≠ some b) : W'.ownsRow base e z u n xs := h.kept hg (by
 cases e : u.ownBlock with
 | none => exact .inl rfl
 | some b => exact .inr fun e2 => hn b e e2.symm)
theorem QLv {w : World} {base : Nat} {v : Value} {ts : List TW} {u : Bool} (h : w.ownsRow base 39 5 v (fU u ts).length (twsC (Yo (fU u ts)))) : w.ownsRow base 39 5 v (qL ts u).length (twsC (qL ts u)) := by
 have e : (qL ts u).length = (fU u ts).length := (QB9 _).length_eq;rw [e]
 exact h
set_option maxRecDepth 100000 in
theorem QGU {ts : List TW} {v : Value} {w : World} {B : Nat} (hr : Rd w B 5 v ts.length (twsC ts)) (hB : B ≤ w.heap.size) (hn : ts.length ≤ 8) :
  Calls Try.prog 55 #[v] w fun e w' => ∃ s0 s1, e = .returned (.agg #[s0, s1]) ∧ w'.ownsRow w.heap.size 39 5 s0 (qL ts false).length (twsC (qL ts false)) ∧ w'.ownsRow w.heap.size 39 5 s1 (qL ts true).length (twsC (qL ts true)) ∧ Below w.heap.size w w' := by
 obtain ⟨At, ct, rfl, _⟩ := hr.shape;have hbw := Below.refl w.heap.size w;refine EC.enter 34 Try.func55 rfl rfl rfl (EC.seq (EC.region (EL.newP QHP rfl ?_)));intro g1 w1 q1 hb1 hg1 hl1;have bhbw_1 := Nat.le_trans hbw.size hg1;replace hbw := bo_ hbw hb1;clear hb1 hg1 hl1;refine EL.nil (EX.seq (EC.seq (EC.seq (EC.region (EL.mv rfl rfl (EL.val (Yg rfl) rfl (EL.mv rfl rfl (EL.nil (EX.seq ?_)))))))));refine EC.block ?_;refine EC.loopD [4, 5, 10, 11, 12, 13, 14, 15, 16, 17, 18, 19, 20, 21, 22, 23, 24, 25] (fun i : Nat × Value × Value => [(10, .int .i64 (i.1 : Nat))]) (fun i W => i.1 ≤ ts.length ∧ Blk W g1 134 #[i.2.1, i.2.2] ∧ W.ownsRow w.heap.size 39 5 i.2.1 (fU false (ts.take i.1)).length (twsC (fU false (ts.take i.1))) ∧ W.ownsRow w.heap.size 39 5 i.2.2 (fU true (ts.take i.1)).length (twsC (fU true (ts.take i.1))) ∧ (∀ b, i.2.1.ownBlock = some b → i.2.2.ownBlock ≠ some b) ∧ Below w.heap.size w W) (fun i => ts.length - i.1) (0, .slice none 0 0, .slice none 0 0) ⟨Nat.zero_le _, q1, Yv _ _ _ _, Yv _ _ _ _, (fun b hb => by cases hb), hbw⟩ ⟨rfl, trivial⟩ ?_
 clear q1 hbw
 rintro ⟨k, s0, s1⟩ W ⟨hk, hq2, h0, h1, hap, hbw⟩
 dsimp only at hk hq2 h0 h1 hap hbw
 obtain ⟨A0, c0, rfl, _⟩ := (Rd.of_own h0).shape;obtain ⟨A1, c1, rfl, _⟩ := (Rd.of_own h1).shape;have hf0 : (fU false (ts.take k)).length ≤ (ts.take k).length := List.length_filter_le _ _;have hf1 : (fU true (ts.take k)).length ≤ (ts.take k).length := List.length_filter_le _ _;rw [List.length_take] at hf0 hf1
 by_cases hlt : k < ts.length
 ·
  have htk := Z1 (d := tw0) hlt;obtain ⟨b, o, rfl, _, cc⟩ := Ya ts k hlt w B _ _ _ hr
  generalize ts.getD k tw0 = y at cc htk
  obtain ⟨yu, ya, yl, yw, yp⟩ := y;refine EC.seq (EC.region ?_);refine EL.val (ZO (r := true) rfl rfl (decide_eq_true (by omega))) rfl ?_
  refine EL.nil (EX.seq (EC.seq (EC.yes rfl (EC.skip (EX.seq (EC.seq (EC.block (EC.seq (EC.region ?_)))))))));refine EL.val (QAv rfl rfl hlt) rfl (EL.val (QAt rfl (ZC hbw cc.c0) (ZC hbw cc.c1) (ZC hbw cc.c2) (ZC hbw cc.c3) (ZC hbw cc.c4)) rfl (EL.newP QIQ rfl ?_));intro g2 w2 q2 hb2 hg2 hl2;have n1_2 := hq2.na hg2;have bhbw_2 := Nat.le_trans hbw.size hg2;have hn0 : ∀ b, (.slice A0 (fU false (ts.take k)).length c0 : Value).ownBlock = some b → b ≠ g2 := fun b hb => Nat.ne_of_lt (Nat.lt_of_lt_of_le (h0.lt b hb).2 hg2)
  have hn1 : ∀ b, (.slice A1 (fU true (ts.take k)).length c1 : Value).ownBlock = some b → b ≠ g2 := fun b hb => Nat.ne_of_lt (Nat.lt_of_lt_of_le (h1.lt b hb).2 hg2)
  replace hq2 := hq2.bl hb2;replace h0 := ZB h0 hb2 (Nat.le_refl _);replace h1 := ZB h1 hb2 (Nat.le_refl _);replace hbw := bo_ hbw hb2;clear hb2 hg2 hl2;refine EL.store rfl rfl q2 QEn rfl rfl rfl rfl ?_;intro w3 hq3 hg3;replace hq2 := hq2.gr hg3 n1_2;replace h0 := Yd h0 hg3 (fun b hb e => hn0 b hb (Option.some.inj e).symm)
  replace h1 := Yd h1 hg3 (fun b hb e => hn1 b hb (Option.some.inj e).symm)
  replace hbw := ZE hbw hg3 bhbw_2;replace q2 := hq3;clear hg3 hq3;refine EL.nil (EX.seq (EC.seq (EC.region (EL.val (QLP rfl) rfl (EL.val (ld_4 rfl (q2.at (j := 0) rfl)) rfl (EL.call (cA1 cF56 rfl) rfl (QAk _ _) ?_))))))
  rintro e w4 ⟨rfl, hc4⟩
  refine ⟨_, rfl, ?_⟩;replace hq2 := hq2.bl hc4;replace q2 := q2.bl hc4;replace h0 := ZB h0 hc4 (Nat.le_refl _);replace h1 := ZB h1 hc4 (Nat.le_refl _);replace hbw := bo_ hbw hc4;clear hc4;refine EL.as rfl rfl (EL.nil (EX.seq ?_))
  cases yu
  ·
   have hW := ZM h0 (w1 := w4) ⟨rfl, rfl, rfl, Nat.le_refl _, fun _ _ _ => rfl⟩ hbw.size
   clear hW;have lt_1 := hq2.lt;refine EC.regionS [[], [], [1], [1, 2], [], [4], [1, 2, 3, 4, 5], [0, 1, 2, 3, 4, 5, 6], [0, 1, 2, 3, 4, 5, 6, 7]] 7 [] [6] (fun fl w_ => w4.grownBy w_ ((.slice A0 (fU false (ts.take k)).length c0) : Value).ownBlock ∧ (fl 6 = false → w_.ownsRow w.heap.size 39 5 (.slice A0 (fU false (ts.take k)).length c0) (fU false (ts.take k)).length (twsC (fU false (ts.take k))))) (phiS (fun i_ r => match i_ with | 0 => r 0 = .int .i64 (wyB false) | 1 => r 1 = .int .i64 (wyB false) | 2 => r 2 = .pointer (some ⟨g1, 0 + 0, none⟩) | 3 => r 3 = .slice A0 (fU false (ts.take k)).length c0 | 4 => r 4 = .agg #[.bool false, .int .i64 ya, .int .i64 yl, .int .i64 yw, .int .i64 yp] | _ => True) [(5, fun fl r w_ => fl 6 = false → (∃ g_, r 5 = .slice (some ⟨g_, 0, none⟩) 1 1 ∧ Blk w_ g_ 39 #[.bool false, .int .i64 ya, .int .i64 yl, .int .i64 yw, .int .i64 yp] ∧ w4.heap.size ≤ g_)), (6, fun _ r w_ => w_.ownsRow w.heap.size 39 5 (r 6) ((fU false (ts.take k)).length + 1) ((twsC (fU false (ts.take k))) ++ [.bool false, .int .i64 ya, .int .i64 yl, .int .i64 yw, .int .i64 yp]) ∧ ∀ b, (r 6).ownBlock = some b → ((.slice A0 (fU false (ts.take k)).length c0) : Value).ownBlock = some b ∨ w4.heap.size ≤ b)]) (by kernel_rfl) rfl rfl (by intro i hi; simp at hi; subst hi; exact ⟨by simp, by omega⟩) (QBc h0) (ZL (QAS QAL) (ZL (QAq (e := 6) (C := fun u_ => ∀ b, u_.ownBlock = some b → ((.slice A0 (fU false (ts.take k)).length c0) : Value).ownBlock = some b ∨ w4.heap.size ≤ b)) (Zd))) (fun i_ hi_ hs_ => ?_) (fun i_ hi_ => ?_) ?_
   ·match i_, hi_ with
    | 0, _ =>
     intro val fl w1 a hb ha hd hfl;obtain ⟨hgb, hg0⟩ := hb;have hb := ZM h0 hgb hbw.size;have ha := ha.s0 (d := 5) rfl
     exact ZD ha rfl rfl (x_move rfl) rfl rfl
    | 1, _ =>
     intro val fl w1 a hb ha hd hfl;obtain ⟨hgb, hg0⟩ := hb;have hb := ZM h0 hgb hbw.size;have ha := ha.s0 (d := 5) rfl
     exact ZD ha rfl rfl (x_move rfl) rfl rfl
    | 2, _ =>
     intro val fl w1 a hb ha hd hfl;obtain ⟨hgb, hg0⟩ := hb;have hb := ZM h0 hgb hbw.size;have e1 : val 1 = _ := hd 1 (ZA.1 rfl);have ha := ha.sub (Sub.ins (d := 18) (Sub.ins (d := 2) (Sub.nil _) rfl) (ZQ rfl e1))
     exact ZD ha rfl rfl (YD (k := 0) rfl rfl (by omega)) rfl rfl
    | 3, _ =>
     intro val fl w1 a hb ha hd hfl;obtain ⟨hgb, hg0⟩ := hb;have hb := ZM h0 hgb hbw.size;have e2 : val 2 = _ := hd 2 (ZA.1 rfl);have ha := ha.s1 (d := 19) rfl e2
     exact ZD ha rfl rfl (QAI rfl ((ZK hq2 h0 rfl hgb).at (j := 0) rfl)) rfl rfl
    | 4, _ =>
     intro val fl w1 a hb ha hd hfl;obtain ⟨hgb, hg0⟩ := hb;have hb := ZM h0 hgb hbw.size;have ha := ha.s0 (d := 4) rfl
     exact ZD ha rfl rfl (QAt rfl ((q2.grown hgb (fun e => hn0 _ e.symm rfl)).at (j := 0) rfl) ((q2.grown hgb (fun e => hn0 _ e.symm rfl)).at (j := 1) rfl) ((q2.grown hgb (fun e => hn0 _ e.symm rfl)).at (j := 2) rfl) ((q2.grown hgb (fun e => hn0 _ e.symm rfl)).at (j := 3) rfl) ((q2.grown hgb (fun e => hn0 _ e.symm rfl)).at (j := 4) rfl)) rfl rfl
    | 5, _ =>
     intro val fl w1 a hb ha hd hfl;obtain ⟨hgb, hg0⟩ := hb;have hb := ZM h0 hgb hbw.size;have e4 : val 4 = _ := hd 4 (ZA.1 rfl);have ha := ha.s1 (d := 21) rfl e4
     exact QCQ ha rfl rfl (QIJ rfl) rfl (fun g w' hq _ hge => fun _ => ⟨g, rfl, hq, Nat.le_trans hgb.size hge⟩)
    | 6, _ =>
     exact absurd (by simp) hs_
    | k + 7, h => exact absurd h (by omega)
   ·simp only [List.mem_singleton] at hi_; subst hi_
    intro val fl w1 a hb hfi ha hd hfl;obtain ⟨hgb, hg0⟩ := hb;have hb := ZM h0 hgb hbw.size;have e3 : val 3 = _ := hd 3 (ZA.1 rfl);obtain ⟨g5_, e5, q5_, h5_⟩ := hd 5 (ZA.1 rfl) hfi;change val 5 = _ at e5;have ha := ha.s2 (d := 22) (e := 20) rfl e5 rfl e3;refine QCM QF6 ha rfl rfl rfl (hg0 hfi) (QAE (l := [.bool false, .int .i64 ya, .int .i64 yl, .int .i64 yw, .int .i64 yp]) q5_ rfl) (by intro u hu; simp only [List.mem_cons, List.not_mem_nil, or_false] at hu; rcases hu with rfl | rfl | rfl | rfl | rfl <;> rfl) (by omega) rfl (Nat.le_trans hbw.size hgb.size) ?_
    intro v' w' ho' hgr hat;refine ⟨v', rfl, hgr.size, ⟨Zm hgb hgr, fun h => by rw [ZR] at h; cases h⟩, ⟨ho', fun b hb' => ?_⟩, fun j _ hj hn hA => ?_⟩
    ·rcases hat with h | h
     ·exact .inl (h ▸ hb')
     ·refine .inr ?_
      change v'.ownBlock = some b at hb';rw [h] at hb'
      injection hb' with hb'
      have := hgb.size
      omega
    ·exact ZF (C := fun j => j ≠ 6 ∧ 6 ∉ clsAt [[], [], [1], [1, 2], [], [4], [1, 2, 3, 4, 5], [0, 1, 2, 3, 4, 5, 6], [0, 1, 2, 3, 4, 5, 6, 7]] j) (fun _ _ h => by rw [ZR] at h; cases h) (ZF (fun hc => absurd rfl hc.1) (fun _ _ h => h)) j ⟨hj, hn⟩
   ·intro val fl w' hfl hb halc hd
    obtain ⟨hgb, _⟩ := hb;have hb := ZM h0 hgb hbw.size;have e0 : val 0 = _ := hd 0 (by omega)
    have e1 : val 1 = _ := hd 1 (by omega)
    have e2 : val 2 = _ := hd 2 (by omega)
    have e3 : val 3 = _ := hd 3 (by omega)
    have e4 : val 4 = _ := hd 4 (by omega)
    obtain ⟨ho6, hn6⟩ := hd 6 (by omega)
    change w'.ownsRow _ _ _ (val 6) _ _ at ho6;refine EL.ends (cs := [_, _, _, _, _, val 5, val 6]) ⟨e0, e1, e2, e3, e4, rfl, rfl, trivial⟩ rfl ?_;replace hq2 := ZK hq2 h0 rfl hgb
    (have hlt_h1 := h1.lt)
    replace h1 := Yd h1 hgb (fun b hb e => hap _ e hb)
    replace hbw := hbw.trans (hb.mono (Nat.le_refl _));obtain ⟨A7, c7, e7_, _⟩ := (Rd.of_own ho6).shape;change ∀ b, (val 6).ownBlock = some b → (.slice A0 (fU false (ts.take k)).length c0 : Value).ownBlock = some b ∨ w4.heap.size ≤ b at hn6;rw [e7_] at ho6 hn6 ⊢;refine EL.val (YD (k := 0) rfl rfl (by omega)) rfl ?_
    refine EL.store rfl rfl hq2 QLt rfl rfl rfl rfl ?_;intro w5 hq5 hg5;replace h1 := ZG h1 hq2 rfl hg5;replace ho6 := ZG ho6 hq2 rfl hg5;replace hbw := ZE hbw hg5 bhbw_1;replace hq2 := hq5;clear hg5 hq5;refine EL.nil (EX.blk (EX.seq (EC.region ?_)));refine EL.val (x_add rfl rfl (c := ((k + 1 : Nat) : Int)) ((IntWalk.i64_in _ ⟨by first | omega | (simp only; omega), by first | omega | (simp only; omega)⟩).trans (by first | omega | (simp only; omega)))) rfl ?_
    refine EL.mv rfl rfl (EL.nil ?_);have hfx : (fU false (ts.take (k + 1))) = (fU false (ts.take k)) ++ [⟨false, ya, yl, yw, yp⟩] := by rw [htk]; exact List.filter_append ..
    have hfy : (fU true (ts.take (k + 1))) = (fU true (ts.take k)) := by rw [htk]; exact (List.filter_append ..).trans (List.append_nil _)
    refine EX.roundD (k + 1, .slice A7 ((fU false (ts.take k)).length + 1) c7, .slice A1 (fU true (ts.take k)).length c1) ⟨rfl, trivial⟩ (by repeat first | with_reducible exact .refl _ | refine sp_ rfl ?_ | exact .refl _ | refine sd_ rfl ?_ | refine sn_ ?_) ⟨hlt, hq2, (by rw [hfx, QF5, List.length_append]; exact ho6), (by rw [hfy]; exact h1), (fun b hb => (hn6 b hb).elim (hap b) (fun h2 h3 => absurd (hlt_h1 b h3).2 (by omega))), hbw⟩ (show ts.length - (k + 1) < ts.length - k by omega)
  ·
   have hW := ZM h1 (w1 := w4) ⟨rfl, rfl, rfl, Nat.le_refl _, fun _ _ _ => rfl⟩ hbw.size
   clear hW;have lt_1 := hq2.lt;refine EC.regionS [[], [], [1], [1, 2], [], [4], [1, 2, 3, 4, 5], [0, 1, 2, 3, 4, 5, 6], [0, 1, 2, 3, 4, 5, 6, 7]] 7 [] [6] (fun fl w_ => w4.grownBy w_ ((.slice A1 (fU true (ts.take k)).length c1) : Value).ownBlock ∧ (fl 6 = false → w_.ownsRow w.heap.size 39 5 (.slice A1 (fU true (ts.take k)).length c1) (fU true (ts.take k)).length (twsC (fU true (ts.take k))))) (phiS (fun i_ r => match i_ with | 0 => r 0 = .int .i64 (wyB true) | 1 => r 1 = .int .i64 (wyB true) | 2 => r 2 = .pointer (some ⟨g1, 0 + 1, none⟩) | 3 => r 3 = .slice A1 (fU true (ts.take k)).length c1 | 4 => r 4 = .agg #[.bool true, .int .i64 ya, .int .i64 yl, .int .i64 yw, .int .i64 yp] | _ => True) [(5, fun fl r w_ => fl 6 = false → (∃ g_, r 5 = .slice (some ⟨g_, 0, none⟩) 1 1 ∧ Blk w_ g_ 39 #[.bool true, .int .i64 ya, .int .i64 yl, .int .i64 yw, .int .i64 yp] ∧ w4.heap.size ≤ g_)), (6, fun _ r w_ => w_.ownsRow w.heap.size 39 5 (r 6) ((fU true (ts.take k)).length + 1) ((twsC (fU true (ts.take k))) ++ [.bool true, .int .i64 ya, .int .i64 yl, .int .i64 yw, .int .i64 yp]) ∧ ∀ b, (r 6).ownBlock = some b → ((.slice A1 (fU true (ts.take k)).length c1) : Value).ownBlock = some b ∨ w4.heap.size ≤ b)]) (by kernel_rfl) rfl rfl (by intro i hi; simp at hi; subst hi; exact ⟨by simp, by omega⟩) (QBc h1) (ZL (QAS QAL) (ZL (QAq (e := 6) (C := fun u_ => ∀ b, u_.ownBlock = some b → ((.slice A1 (fU true (ts.take k)).length c1) : Value).ownBlock = some b ∨ w4.heap.size ≤ b)) (Zd))) (fun i_ hi_ hs_ => ?_) (fun i_ hi_ => ?_) ?_
   ·match i_, hi_ with
    | 0, _ =>
     intro val fl w1 a hb ha hd hfl;obtain ⟨hgb, hg0⟩ := hb;have hb := ZM h1 hgb hbw.size;have ha := ha.s0 (d := 5) rfl
     exact ZD ha rfl rfl (x_move rfl) rfl rfl
    | 1, _ =>
     intro val fl w1 a hb ha hd hfl;obtain ⟨hgb, hg0⟩ := hb;have hb := ZM h1 hgb hbw.size;have ha := ha.s0 (d := 5) rfl
     exact ZD ha rfl rfl (x_move rfl) rfl rfl
    | 2, _ =>
     intro val fl w1 a hb ha hd hfl;obtain ⟨hgb, hg0⟩ := hb;have hb := ZM h1 hgb hbw.size;have e1 : val 1 = _ := hd 1 (ZA.1 rfl);have ha := ha.sub (Sub.ins (d := 18) (Sub.ins (d := 2) (Sub.nil _) rfl) (ZQ rfl e1))
     exact ZD ha rfl rfl (YD (k := 1) rfl rfl (by omega)) rfl rfl
    | 3, _ =>
     intro val fl w1 a hb ha hd hfl;obtain ⟨hgb, hg0⟩ := hb;have hb := ZM h1 hgb hbw.size;have e2 : val 2 = _ := hd 2 (ZA.1 rfl);have ha := ha.s1 (d := 19) rfl e2
     exact ZD ha rfl rfl (QAI rfl ((ZK hq2 h1 rfl hgb).at (j := 1) rfl)) rfl rfl
    | 4, _ =>
     intro val fl w1 a hb ha hd hfl;obtain ⟨hgb, hg0⟩ := hb;have hb := ZM h1 hgb hbw.size;have ha := ha.s0 (d := 4) rfl
     exact ZD ha rfl rfl (QAt rfl ((q2.grown hgb (fun e => hn1 _ e.symm rfl)).at (j := 0) rfl) ((q2.grown hgb (fun e => hn1 _ e.symm rfl)).at (j := 1) rfl) ((q2.grown hgb (fun e => hn1 _ e.symm rfl)).at (j := 2) rfl) ((q2.grown hgb (fun e => hn1 _ e.symm rfl)).at (j := 3) rfl) ((q2.grown hgb (fun e => hn1 _ e.symm rfl)).at (j := 4) rfl)) rfl rfl
    | 5, _ =>
     intro val fl w1 a hb ha hd hfl;obtain ⟨hgb, hg0⟩ := hb;have hb := ZM h1 hgb hbw.size;have e4 : val 4 = _ := hd 4 (ZA.1 rfl);have ha := ha.s1 (d := 21) rfl e4
     exact QCQ ha rfl rfl (QIJ rfl) rfl (fun g w' hq _ hge => fun _ => ⟨g, rfl, hq, Nat.le_trans hgb.size hge⟩)
    | 6, _ =>
     exact absurd (by simp) hs_
    | k + 7, h => exact absurd h (by omega)
   ·simp only [List.mem_singleton] at hi_; subst hi_
    intro val fl w1 a hb hfi ha hd hfl;obtain ⟨hgb, hg0⟩ := hb;have hb := ZM h1 hgb hbw.size;have e3 : val 3 = _ := hd 3 (ZA.1 rfl);obtain ⟨g5_, e5, q5_, h5_⟩ := hd 5 (ZA.1 rfl) hfi;change val 5 = _ at e5;have ha := ha.s2 (d := 22) (e := 20) rfl e5 rfl e3;refine QCM QF6 ha rfl rfl rfl (hg0 hfi) (QAE (l := [.bool true, .int .i64 ya, .int .i64 yl, .int .i64 yw, .int .i64 yp]) q5_ rfl) (by intro u hu; simp only [List.mem_cons, List.not_mem_nil, or_false] at hu; rcases hu with rfl | rfl | rfl | rfl | rfl <;> rfl) (by omega) rfl (Nat.le_trans hbw.size hgb.size) ?_
    intro v' w' ho' hgr hat;refine ⟨v', rfl, hgr.size, ⟨Zm hgb hgr, fun h => by rw [ZR] at h; cases h⟩, ⟨ho', fun b hb' => ?_⟩, fun j _ hj hn hA => ?_⟩
    ·rcases hat with h | h
     ·exact .inl (h ▸ hb')
     ·refine .inr ?_
      change v'.ownBlock = some b at hb';rw [h] at hb'
      injection hb' with hb'
      have := hgb.size
      omega
    ·exact ZF (C := fun j => j ≠ 6 ∧ 6 ∉ clsAt [[], [], [1], [1, 2], [], [4], [1, 2, 3, 4, 5], [0, 1, 2, 3, 4, 5, 6], [0, 1, 2, 3, 4, 5, 6, 7]] j) (fun _ _ h => by rw [ZR] at h; cases h) (ZF (fun hc => absurd rfl hc.1) (fun _ _ h => h)) j ⟨hj, hn⟩
   ·intro val fl w' hfl hb halc hd
    obtain ⟨hgb, _⟩ := hb;have hb := ZM h1 hgb hbw.size;have e0 : val 0 = _ := hd 0 (by omega)
    have e1 : val 1 = _ := hd 1 (by omega)
    have e2 : val 2 = _ := hd 2 (by omega)
    have e3 : val 3 = _ := hd 3 (by omega)
    have e4 : val 4 = _ := hd 4 (by omega)
    obtain ⟨ho6, hn6⟩ := hd 6 (by omega)
    change w'.ownsRow _ _ _ (val 6) _ _ at ho6;refine EL.ends (cs := [_, _, _, _, _, val 5, val 6]) ⟨e0, e1, e2, e3, e4, rfl, rfl, trivial⟩ rfl ?_;replace hq2 := ZK hq2 h1 rfl hgb
    (have hlt_h0 := h0.lt)
    replace h0 := Yd h0 hgb (fun b hb e => hap _ hb e)
    replace hbw := hbw.trans (hb.mono (Nat.le_refl _));obtain ⟨A7, c7, e7_, _⟩ := (Rd.of_own ho6).shape;change ∀ b, (val 6).ownBlock = some b → (.slice A1 (fU true (ts.take k)).length c1 : Value).ownBlock = some b ∨ w4.heap.size ≤ b at hn6;rw [e7_] at ho6 hn6 ⊢;refine EL.val (YD (k := 1) rfl rfl (by omega)) rfl ?_
    refine EL.store rfl rfl hq2 QLt rfl rfl rfl rfl ?_;intro w6 hq6 hg6;replace h0 := ZG h0 hq2 rfl hg6;replace ho6 := ZG ho6 hq2 rfl hg6;replace hbw := ZE hbw hg6 bhbw_1;replace hq2 := hq6;clear hg6 hq6;refine EL.nil (EX.blk (EX.seq (EC.region ?_)));refine EL.val (x_add rfl rfl (c := ((k + 1 : Nat) : Int)) ((IntWalk.i64_in _ ⟨by first | omega | (simp only; omega), by first | omega | (simp only; omega)⟩).trans (by first | omega | (simp only; omega)))) rfl ?_
    refine EL.mv rfl rfl (EL.nil ?_);have hfx : (fU true (ts.take (k + 1))) = (fU true (ts.take k)) ++ [⟨true, ya, yl, yw, yp⟩] := by rw [htk]; exact List.filter_append ..
    have hfy : (fU false (ts.take (k + 1))) = (fU false (ts.take k)) := by rw [htk]; exact (List.filter_append ..).trans (List.append_nil _)
    refine EX.roundD (k + 1, .slice A0 (fU false (ts.take k)).length c0, .slice A7 ((fU true (ts.take k)).length + 1) c7) ⟨rfl, trivial⟩ (by repeat first | with_reducible exact .refl _ | refine sp_ rfl ?_ | exact .refl _ | refine sd_ rfl ?_ | refine sn_ ?_) ⟨hlt, hq2, (by rw [hfy]; exact h0), (by rw [hfx, QF5, List.length_append]; exact ho6), (fun b hb hb2 => (hn6 b hb2).elim (hap b hb) (fun h2 => absurd (hlt_h0 b hb).2 (by omega))), hbw⟩ (show ts.length - (k + 1) < ts.length - k by omega)
 ·
  obtain rfl : k = ts.length := by omega
  rw [List.take_length] at h0 h1 hq2 hap hf0 hf1;refine EC.seq (EC.region ?_);refine EL.val (ZO (r := false) rfl rfl (decide_eq_false (by omega))) rfl ?_
  refine EL.nil (EX.seq (EC.seq (EC.no rfl (EC.exit (EX.seq_exit (EX.seq_exit (EX.blk_here (EX.seq (EC.seq ?_)))))))));refine EC.seq (EC.region (EL.val (ld_134 rfl (hq2.at (j := 0) rfl) (hq2.at (j := 1) rfl)) rfl (EL.mv rfl rfl (EL.nil (EX.seq (EC.block ?_))))));refine EC.loopD [7, 27, 28, 29, 30, 31, 32] (fun i : Nat => [(27, .int .i64 (i : Nat))]) (fun i W => i ≤ 2 ∧ Blk W g1 134 #[.slice A0 (fU false ts).length c0, .slice A1 (fU true ts).length c1] ∧ W.ownsRow w.heap.size 39 5 (.slice A0 (fU false ts).length c0) (fU false ts).length (twsC (if i ≤ 0 then (fU false ts) else Yo (fU false ts))) ∧ W.ownsRow w.heap.size 39 5 (.slice A1 (fU true ts).length c1) (fU true ts).length (twsC (if i ≤ 1 then (fU true ts) else Yo (fU true ts))) ∧ Below w.heap.size w W) (fun i => 2 - i) 0 ⟨Nat.zero_le _, hq2, h0, h1, hbw⟩ ⟨rfl, trivial⟩ ?_
  clear hq2 h0 h1 hbw
  rintro i W ⟨hi, hq2, h0, h1, hbw⟩
  have hi3 : i = 0 ∨ i = 1 ∨ i = 2 := by omega
  rcases hi3 with rfl | rfl | rfl
  ·
   refine EC.seq (EC.region ?_);refine EL.val (ZO (r := true) rfl rfl (decide_eq_true (by omega))) rfl ?_
   refine EL.nil (EX.seq (EC.seq (EC.yes rfl (EC.skip (EX.seq (EC.seq (EC.block (EC.seq (EC.region ?_)))))))));refine EL.val (QM9 rfl rfl) rfl (EL.as rfl rfl (EL.nil (EX.seq (EC.region (EL.mv rfl rfl ?_)))));refine EL.call (cA2 cF73 rfl rfl) rfl (QGA h0 (by omega)) ?_
   rintro e w5 ⟨rfl, hs5, hg5⟩
   refine ⟨_, rfl, ?_⟩;replace h1 := Yd h1 hg5 (fun b hb e => hap _ e hb)
   replace hq2 := ZK hq2 h0 rfl hg5;replace hbw := hbw.trans (ZM h0 hg5 hbw.size);clear h0;have h0 := hs5;clear hs5;refine EL.nil (EX.blk (EX.seq (EC.region (EL.val (x_add rfl rfl (c := ((0 + 1 : Nat) : Int)) rfl) rfl (EL.mv rfl rfl (EL.nil ?_))))));refine EX.roundD (0 + 1) ⟨rfl, trivial⟩ (by repeat first | with_reducible exact .refl _ | refine sp_ rfl ?_ | exact .refl _ | refine sd_ rfl ?_ | refine sn_ ?_) ⟨by omega, hq2, h0, h1, hbw⟩ (by omega)
  ·
   refine EC.seq (EC.region ?_);refine EL.val (ZO (r := true) rfl rfl (decide_eq_true (by omega))) rfl ?_
   refine EL.nil (EX.seq (EC.seq (EC.yes rfl (EC.skip (EX.seq (EC.seq (EC.block (EC.seq (EC.region ?_)))))))));refine EL.val (QM8 rfl rfl) rfl (EL.as rfl rfl (EL.nil (EX.seq (EC.region (EL.mv rfl rfl ?_)))));refine EL.call (cA2 cF73 rfl rfl) rfl (QGA h1 (by omega)) ?_
   rintro e w5 ⟨rfl, hs5, hg5⟩
   refine ⟨_, rfl, ?_⟩;replace h0 := Yd h0 hg5 (fun b hb e => hap _ hb e)
   replace hq2 := ZK hq2 h1 rfl hg5;replace hbw := hbw.trans (ZM h1 hg5 hbw.size);clear h1;have h1 := hs5;clear hs5;refine EL.nil (EX.blk (EX.seq (EC.region (EL.val (x_add rfl rfl (c := ((1 + 1 : Nat) : Int)) rfl) rfl (EL.mv rfl rfl (EL.nil ?_))))));refine EX.roundD (1 + 1) ⟨rfl, trivial⟩ (by repeat first | with_reducible exact .refl _ | refine sp_ rfl ?_ | exact .refl _ | refine sd_ rfl ?_ | refine sn_ ?_) ⟨by omega, hq2, h0, h1, hbw⟩ (by omega)
  ·
   refine EC.seq (EC.region ?_);refine EL.val (ZO (r := false) rfl rfl (decide_eq_false (by omega))) rfl ?_
   refine EL.nil (EX.seq (EC.seq (EC.no rfl (EC.exit (EX.seq_exit (EX.seq_exit (EX.blk_here (EX.seq (EC.seq ?_)))))))));refine EC.region (EL.val (ld_134 rfl (hq2.at (j := 0) rfl) (hq2.at (j := 1) rfl)) rfl (EL.store rfl rfl hq2 QGy rfl rfl rfl rfl ?_));intro w7 hq7 hg7;replace h0 := ZG h0 hq2 rfl hg7;replace h1 := ZG h1 hq2 rfl hg7;replace hbw := ZE hbw hg7 bhbw_1;replace hq2 := hq7;clear hg7 hq7;refine EL.nil (EX.seq (EC.ret ?_))
   exact EX.done (QGH rfl rfl (QMY (hq2.at (j := 0) rfl) (hq2.at (j := 1) rfl))) ⟨_, _, rfl, QLv h0, QLv h1, hbw⟩
section
variable {n : Nat} {σ : Sg} {w : World} {dst : Option Tmp} {ty : TypeId} {pos : String} {af : Array Edge} {g : Option (Nat × Bool)} {x y z : Operand} {at' : Array TypeId}
theorem QKU {v0 v1 : Value} (hx : evS σ x = some (.agg #[v0, v1])) (a : Act) (ha : Env n σ a) : (execOp a.eval ⟨dst, .box 134 x, ty, pos, af, g⟩).run Try.prog w = .ok (.value (.pointer (some ⟨w.heap.size, 0, none⟩))) (w.alloc (.cells #[v0, v1] 134)) := by
 simp only [execOp, ha.eval hx]
 simp [go_sem]
theorem QMn {v0 : Value} (hx : evS σ x = some (v0)) (h1 : v0.oneCell' = true) (a : Act) (ha : Env n σ a) : (execOp a.eval ⟨dst, .box 122 x, ty, pos, af, g⟩).run Try.prog w = .ok (.value (.pointer (some ⟨w.heap.size, 0, none⟩))) (w.alloc (.cells #[v0] 122)) := by
 simp only [execOp, ha.eval hx]
 cases v0 <;> first | (simp [Value.oneCell'] at h1; done) | simp [go_sem, Value.cells]
theorem QIi {x0 x1 : Operand} {v0 v1 : Value} (h0 : evS σ x0 = some v0) (h1 : evS σ x1 = some v1) : ZI Try.prog n σ w ⟨dst, .makeFunc (.func 81) #[] #[x0, x1], ty, pos, af, g⟩ (.func (.func 81) #[] #[v0, v1]) := fun a ha => by
 simp only [execOp, List.map_toArray, List.map_cons, List.map_nil, ha.eval h0, ha.eval h1]
 simp [go_sem]
theorem QKV {x0 x1 : Operand} {z0_0 z1_0 : Int} (h0 : evS σ x0 = some (.int .i64 z0_0)) (h1 : evS σ x1 = some (.int .i64 z1_0)) (a : Act) (ha : Env n σ a) : (execOp a.eval ⟨dst, .buildSlice 168 2 #[(0, x0), (1, x1)], ty, pos, af, g⟩).run Try.prog w = .ok (.value (.slice (some ⟨w.heap.size, 0, none⟩) 2 2)) (w.alloc (.cells #[.int .i64 z0_0, .int .i64 z1_0] 136)) := by
 simp only [execOp, List.map_toArray, List.map_cons, List.map_nil, ha.eval h0, ha.eval h1]
 go_simp
theorem QMd {A : Option Addr} {m c : Nat} (hx : evS σ x = some (.slice A m c)) : ZI Try.prog n σ w ⟨dst, .call { callee := .builtin .len, args := #[x], argTypes := #[168] }, ty, pos, af, g⟩ (.int .i64 (m : Int)) := fun a ha => by
 simp only [execOp, resolve, List.map_toArray, List.map_cons, List.map_nil, ha.eval hx]
 simp [go_sem]
theorem QJ3 {b o m c k : Nat} (hx : evS σ x = some (.slice (some ⟨b, o, none⟩) m c)) (hy : evS σ y = some (.int .i64 (k : Int))) (hk : k < m) : ZI Try.prog n σ w ⟨dst, .indexAddr 168 x y, ty, pos, af, g⟩ (.pointer (some ⟨b, o + k, none⟩)) := fun a ha => by
 have k0 : (0 : Int) ≤ (k : Int) := Int.natCast_nonneg _;have k1 : (k : Int) < (m : Int) := by omega
 simp only [execOp, ha.eval hx, ha.eval hy]
 simp [go_sem, k0, k1]
theorem QJ1 {b o : Nat} {v0 : Value} (hx : evS σ x = some (.pointer (some ⟨b, o, none⟩))) (c0 : w.cell? ⟨b, o, none⟩ = some v0) : ZI Try.prog n σ w ⟨dst, .load 136 x, ty, pos, af, g⟩ (v0) := fun a ha => by
 simp only [execOp, ha.eval hx]
 simp [go_sem, c0]
theorem QFL {b o m c hi : Nat} (hx : evS σ x = some (.slice (some ⟨b, o, none⟩) m c)) (hh : evS σ y = some (.int .i64 (hi : Int))) (h2 : hi ≤ c) : ZI Try.prog n σ w ⟨dst, .slice 24 x none (some y) none, ty, pos, af, g⟩ (.slice (some ⟨b, o, none⟩) hi c) := fun a ha => by
 have k1 : (0 : Int) ≤ (hi : Int) := Int.natCast_nonneg _;have k3 : (hi : Int) ≤ (c : Int) := by omega
 simp only [execOp, Option.map_some, Option.map_none, ha.eval hx, ha.eval hh]
 by_cases e : c = 0
 ·subst e; obtain rfl : hi = 0 := by omega
  simp [go_sem]
 ·simp [go_sem, k1, k3, h2, e]
theorem cF57 : cF 57 := fun _ _ => by simp [go_sem]
theorem QII {x0 : Operand} {v0_0 v0_1 : Value} (h0 : evS σ x0 = some (.agg #[v0_0, v0_1]))  (a : Act) (ha : Env n σ a) : (execOp a.eval ⟨dst, .buildSlice 25 1 #[(0, x0)], ty, pos, af, g⟩).run Try.prog w = .ok (.value (.slice (some ⟨w.heap.size, 0, none⟩) 1 1)) (w.alloc (.cells #[v0_0, v0_1] 87)) := by
 simp only [execOp, List.map_toArray, List.map_cons, List.map_nil, ha.eval h0]
 go_simp
theorem cF82 : cF 82 := fun _ _ => by simp [go_sem]
theorem QAz {x0 x1 : Operand} {b0 : Bool} {z1 : Int} (h0 : evS σ x0 = some (.bool b0)) (h1 : evS σ x1 = some (.int .i64 z1)) : ZI Try.prog n σ w ⟨dst, .build 87 #[(0, x0), (1, x1)], ty, pos, af, g⟩ (.agg #[.bool b0, .int .i64 z1]) := fun a ha => by
 simp only [execOp, List.map_toArray, List.map_cons, List.map_nil, ha.eval h0, ha.eval h1]
 go_simp
theorem QER {x0 x1 : Operand} {v0_0 : Value} {v0_1 : Value} {v0_2 : Value} {v0_3 : Value} {v0_4 : Value} {v0_5 : Value} {v0_6 : Value} {v0_7 : Value} {v0_8 : Value} {v0_9 : Value} {v0_10 : Value} {v0_11 : Value} {v0_12 : Value} {v0_13 : Value} {v0_14 : Value} {A1 : Option Addr} {m1 : Nat} {c1 : Nat} (h0 : evS σ x0 = some (.agg #[v0_0, v0_1, v0_2, v0_3, v0_4, v0_5, v0_6, v0_7, v0_8, v0_9, v0_10, v0_11, v0_12, v0_13, v0_14])) (h1 : evS σ x1 = some (.slice A1 m1 c1)) : ZI Try.prog n σ w ⟨dst, .build 124 #[(0, x0), (1, x1)], ty, pos, af, g⟩ (.agg #[v0_0, v0_1, v0_2, v0_3, v0_4, v0_5, v0_6, v0_7, v0_8, v0_9, v0_10, v0_11, v0_12, v0_13, v0_14, .slice A1 m1 c1]) := fun a ha => by
 simp only [execOp, List.map_toArray, List.map_cons, List.map_nil, ha.eval h0, ha.eval h1]
 go_simp
theorem QHI {v0 v1 v2 v3 v4 v5 v6 v7 v8 v9 v10 v11 v12 v13 v14 v15 : Value} (hx : evS σ x = some (.agg #[v0, v1, v2, v3, v4, v5, v6, v7, v8, v9, v10, v11, v12, v13, v14, v15])) (a : Act) (ha : Env n σ a) : (execOp a.eval ⟨dst, .box 124 x, ty, pos, af, g⟩).run Try.prog w = .ok (.value (.pointer (some ⟨w.heap.size, 0, none⟩))) (w.alloc (.cells #[v0, v1, v2, v3, v4, v5, v6, v7, v8, v9, v10, v11, v12, v13, v14, v15] 124)) := by
 simp only [execOp, ha.eval hx]
 simp [go_sem]
theorem QML {b o m c lo r : Nat} (hx : evS σ x = some (.slice (some ⟨b, o, none⟩) m c)) (hl : evS σ y = some (.int .i64 (lo : Int))) (h1 : lo ≤ m) (hr : (if c = lo then o else o + lo * 5) = r) : ZI Try.prog n σ w ⟨dst, .slice 24 x (some y) none none, ty, pos, af, g⟩ (.slice (some ⟨b, r, none⟩) (m - lo) (c - lo)) := fun a ha => by
 have k0 : (0 : Int) ≤ (lo : Int) := Int.natCast_nonneg _;have k2 : (lo : Int) ≤ (m : Int) := by omega
 subst hr
 simp only [execOp, Option.map_some, Option.map_none, ha.eval hx, ha.eval hl]
 by_cases e : c = lo
 ·subst e; simp [go_sem, k0, k2, h1]
 ·simp [go_sem, k0, k2, h1, e]
end
end Go.Proofs.Ytlbfnimilcnihaa
