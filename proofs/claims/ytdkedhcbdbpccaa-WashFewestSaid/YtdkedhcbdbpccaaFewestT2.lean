/- X3, E22, E23, WsArr, ExX4, X4, ExX5, X5, E9, E10, E11, E24, ExX6, X6, ExX7, X7, E16: what WashFewestProof needs of them (merged by trimpack.py). -/
import Derived.Test.YtdkedhcbdbpccaaFewestT1
set_option linter.unusedVariables false
set_option linter.unusedSimpArgs false
namespace Go.Proofs.Ytdkedhcbdbpccaa
open Go Go.RowKit
theorem kind1 (x : Kd) (w : World) : Calls Try.prog 61 #[.agg #[.int .i64 x.power.lo, .int .i64 x.power.hi, .int .i64 x.mins, .int .i64 x.water, .int .i64 x.cost]] w fun e w' => e = .returned (.bool (!kdB x)) ∧ Below w.heap.size w w' := by
 have hbw := Below.refl w.heap.size w;refine EC.enter 28 Try.func61 rfl rfl rfl (EC.seq (EC.region (EL.newP (bx_52 rfl) rfl ?_)));intro g1 w1 q1 hb1 hg1 hl1;have bhbw_1 := Nat.le_trans hbw.size hg1;replace hbw := bo_ hbw hb1;clear hb1 hg1 hl1;refine EL.as rfl rfl (EL.nil (EX.seq (EC.seq (EC.region (EL.val (fa_52_0 rfl) rfl (EL.val (ld_24 rfl (q1.at (j := 0) rfl) (q1.at (j := 1) rfl)) rfl ?_))))))
 cases h1 : bdB x.power
 ·
  refine EL.call (cA1 cF62 rfl) rfl (isBounds_to (x := x.power) (b := false) h1 _) ?_
  rintro e w2 ⟨rfl, hc2⟩
  refine ⟨_, rfl, ?_⟩;replace q1 := q1.bl hc2;replace hbw := bo_ hbw hc2;clear hc2;refine EL.val (x_not rfl) rfl (EL.mv rfl rfl (EL.skip rfl rfl rfl rfl (EL.skip rfl rfl rfl rfl (EL.skip rfl rfl rfl rfl (EL.skip rfl rfl rfl rfl (EL.skip rfl rfl rfl rfl (EL.pt rfl rfl rfl (EL.mv rfl rfl (EL.skip rfl rfl rfl rfl ?_)))))))));refine EL.skip rfl rfl rfl rfl (EL.skip rfl rfl rfl rfl (EL.skip rfl rfl rfl rfl (EL.skip rfl rfl rfl rfl (EL.pt rfl rfl rfl (EL.mv rfl rfl (EL.skip rfl rfl rfl rfl (EL.skip rfl rfl rfl rfl (EL.skip rfl rfl rfl rfl (EL.skip rfl rfl rfl rfl ?_)))))))));refine EL.skip rfl rfl rfl rfl (EL.pt rfl rfl rfl (EL.as rfl rfl (EL.nil (EX.seq (EC.ret ?_)))))
  exact EX.done (res1 rfl rfl) ⟨by congr 2; simp [kdB, *], hbw⟩
 ·
  refine EL.call (cA1 cF62 rfl) rfl (isBounds_to (x := x.power) (b := true) h1 _) ?_
  rintro e w3 ⟨rfl, hc3⟩
  refine ⟨_, rfl, ?_⟩;replace q1 := q1.bl hc3;replace hbw := bo_ hbw hc3;clear hc3;refine EL.val (x_not rfl) rfl (EL.mv rfl rfl (EL.valg rfl rfl (fa_52_1 rfl) rfl (EL.valg rfl rfl (ld_3 rfl (q1.at (j := 2) rfl)) rfl (EL.newSg rfl rfl (bs_22_1 rfl) rfl ?_))));intro g4 w4 q4 hb4 hg4 hl4;have n1_4 := q1.na hg4;have bhbw_4 := Nat.le_trans hbw.size hg4;replace q1 := q1.bl hb4;replace hbw := bo_ hbw hb4;clear hb4 hg4 hl4
  cases h2 : inB 0 10000 x.mins
  ·
   refine EL.callg rfl rfl (cA3 cF63 rfl rfl rfl) rfl (within_1 q4 h2) ?_
   rintro e w5 ⟨rfl, hc5⟩
   refine ⟨_, rfl, ?_⟩;replace q1 := q1.bl hc5;replace q4 := q4.bl hc5;replace hbw := bo_ hbw hc5;clear hc5;refine EL.valg rfl rfl (x_not rfl) rfl (EL.pf rfl rfl rfl (EL.mv rfl rfl (EL.skip rfl rfl rfl rfl (EL.skip rfl rfl rfl rfl (EL.skip rfl rfl rfl rfl (EL.skip rfl rfl rfl rfl (EL.skip rfl rfl rfl rfl (EL.pt rfl rfl rfl (EL.mv rfl rfl ?_)))))))));refine EL.skip rfl rfl rfl rfl (EL.skip rfl rfl rfl rfl (EL.skip rfl rfl rfl rfl (EL.skip rfl rfl rfl rfl (EL.skip rfl rfl rfl rfl (EL.pt rfl rfl rfl (EL.as rfl rfl (EL.nil (EX.seq (EC.ret ?_)))))))))
   exact EX.done (res1 rfl rfl) ⟨by congr 2; simp [kdB, *], hbw⟩
  ·
   refine EL.callg rfl rfl (cA3 cF63 rfl rfl rfl) rfl (within_1 q4 h2) ?_
   rintro e w6 ⟨rfl, hc6⟩
   refine ⟨_, rfl, ?_⟩;replace q1 := q1.bl hc6;replace q4 := q4.bl hc6;replace hbw := bo_ hbw hc6;clear hc6;refine EL.valg rfl rfl (x_not rfl) rfl (EL.pf rfl rfl rfl (EL.mv rfl rfl (EL.valg rfl rfl (fa_52_2 rfl) rfl (EL.valg rfl rfl (ld_3 rfl (q1.at (j := 3) rfl)) rfl (EL.newSg rfl rfl (bs_22_1 rfl) rfl ?_)))));intro g7 w7 q7 hb7 hg7 hl7;have n1_7 := q1.na hg7;have n4_7 := q4.na hg7;have bhbw_7 := Nat.le_trans hbw.size hg7;replace q1 := q1.bl hb7;replace q4 := q4.bl hb7;replace hbw := bo_ hbw hb7;clear hb7 hg7 hl7
   cases h3 : inB 0 10000 x.water
   ·
    refine EL.callg rfl rfl (cA3 cF63 rfl rfl rfl) rfl (within_1 q7 h3) ?_
    rintro e w8 ⟨rfl, hc8⟩
    refine ⟨_, rfl, ?_⟩;replace q1 := q1.bl hc8;replace q4 := q4.bl hc8;replace q7 := q7.bl hc8;replace hbw := bo_ hbw hc8;clear hc8;refine EL.valg rfl rfl (x_not rfl) rfl (EL.pf rfl rfl rfl (EL.mv rfl rfl (EL.skip rfl rfl rfl rfl (EL.skip rfl rfl rfl rfl (EL.skip rfl rfl rfl rfl (EL.skip rfl rfl rfl rfl (EL.skip rfl rfl rfl rfl (EL.pt rfl rfl rfl (EL.as rfl rfl ?_)))))))));refine EL.nil (EX.seq (EC.ret ?_))
    exact EX.done (res1 rfl rfl) ⟨by congr 2; simp [kdB, *], hbw⟩
   ·
    refine EL.callg rfl rfl (cA3 cF63 rfl rfl rfl) rfl (within_1 q7 h3) ?_
    rintro e w9 ⟨rfl, hc9⟩
    refine ⟨_, rfl, ?_⟩;replace q1 := q1.bl hc9;replace q4 := q4.bl hc9;replace q7 := q7.bl hc9;replace hbw := bo_ hbw hc9;clear hc9;refine EL.valg rfl rfl (x_not rfl) rfl (EL.pf rfl rfl rfl (EL.mv rfl rfl (EL.valg rfl rfl (fa_52_3 rfl) rfl (EL.valg rfl rfl (ld_3 rfl (q1.at (j := 4) rfl)) rfl (EL.newSg rfl rfl (bs_22_1 rfl) rfl ?_)))));intro g10 w10 q10 hb10 hg10 hl10;have n1_10 := q1.na hg10;have n4_10 := q4.na hg10;have n7_10 := q7.na hg10;have bhbw_10 := Nat.le_trans hbw.size hg10;replace q1 := q1.bl hb10;replace q4 := q4.bl hb10;replace q7 := q7.bl hb10;replace hbw := bo_ hbw hb10;clear hb10 hg10 hl10
    cases h4 : inB 0 100000000 x.cost
    ·
     refine EL.callg rfl rfl (cA3 cF63 rfl rfl rfl) rfl (within_1 q10 h4) ?_
     rintro e w11 ⟨rfl, hc11⟩
     refine ⟨_, rfl, ?_⟩;replace q1 := q1.bl hc11;replace q4 := q4.bl hc11;replace q7 := q7.bl hc11;replace q10 := q10.bl hc11;replace hbw := bo_ hbw hc11;clear hc11;refine EL.valg rfl rfl (x_not rfl) rfl (EL.pf rfl rfl rfl (EL.as rfl rfl (EL.nil (EX.seq (EC.ret ?_)))))
     exact EX.done (res1 rfl rfl) ⟨by congr 2; simp [kdB, *], hbw⟩
    ·
     refine EL.callg rfl rfl (cA3 cF63 rfl rfl rfl) rfl (within_1 q10 h4) ?_
     rintro e w12 ⟨rfl, hc12⟩
     refine ⟨_, rfl, ?_⟩;replace q1 := q1.bl hc12;replace q4 := q4.bl hc12;replace q7 := q7.bl hc12;replace q10 := q10.bl hc12;replace hbw := bo_ hbw hc12;clear hc12;refine EL.valg rfl rfl (x_not rfl) rfl (EL.pf rfl rfl rfl (EL.as rfl rfl (EL.nil (EX.seq (EC.ret ?_)))))
     exact EX.done (res1 rfl rfl) ⟨by congr 2; simp [kdB, *], hbw⟩
theorem contains_kd_to {l : List Kd} {b : Bool} (h : l.all kdB = b) (v : Value) (w : World) (B : Nat) (hr : Rd w B 5 v l.length (kdsC l)) (hB : B ≤ w.heap.size) (hn : l.length ≤ 9223372036854775806) :
  Calls Try.prog 60 #[v, .func (.func 61) #[] #[]] w fun e w' => e = .returned (.bool (!b)) ∧ Below w.heap.size w w' := by
 have key := contains_kd l (fun x => !kdB x) v w B hr hB hn fun x _ W _ => kind1 x W
 rw [show l.any (fun x => !kdB x) = !b by rw [← h, all_nn]] at key
 exact key
theorem isSquare_to {ls : List (List Int)} {us : List Value} {n : Nat} {m : Int} {b : Bool} (h : sqB ls n m = b) (v : Value) (w : World) (B : Nat) (hr : RdLL iC 1 w B v ls us) (hB : B ≤ w.heap.size) (hl : ls.length ≤ 9223372036854775806) (hn : n ≤ 1048576) :
  Calls Try.prog 64 #[v, .int .i64 (n : Nat), .int .i64 m] w fun e w' => e = .returned (.bool b) ∧ Below w.heap.size w w' := h ▸ isSquare_any ls us n m v w B hr hB hl hn
/-- no list is too long -/
structure Short (r : Rules) : Prop where
 n : r.levels.length ≤ 1048576
 a : r.allow.length ≤ 1048576
 p : r.apart.length ≤ 1048576
 k : r.kinds.length ≤ 1048576
def rulesV (vl va vp vk : Value) (r : Rules) : Value := .agg #[vl, .int .i64 r.fade.lo, .int .i64 r.fade.hi, va, vp, vk]
theorem check_any (r : Rules) (ua up : List Value) (vl va vp vk : Value) (w : World) (B : Nat) (hr : RdRules w B vl va vp vk r ua up) (hB : B ≤ w.heap.size) (hs : Short r) :
  Calls Try.prog 32 #[rulesV vl va vp vk r] w fun e w' => e = .returned (.int .i64 (if rulesB r = true then 0 else 2)) ∧ Below w.heap.size w w' := by
 obtain ⟨z1, z2, z3, z4⟩ := hs;obtain ⟨Al, cl, Aa, ca, Ap, cp, Ak, ck, rfl, rfl, rfl, rfl⟩ := hr.sh4;have hbw := Below.refl w.heap.size w
 unfold rulesV
 refine EC.enter 52 Try.func32 rfl rfl rfl (EC.seq (EC.region (EL.newP (bx_28 rfl) rfl ?_)));intro g1 w1 q1 hb1 hg1 hl1;have bhbw_1 := Nat.le_trans hbw.size hg1;replace hbw := bo_ hbw hb1;clear hb1 hg1 hl1;refine EL.as rfl rfl (EL.nil (EX.seq (EC.seq (EC.region (EL.val (fa_28_0 rfl) rfl (EL.val (ld_22 rfl (q1.at (j := 0) rfl)) rfl (EL.val (ln_22 rfl) rfl (EL.as rfl rfl (EL.nil ?_)))))))));refine EX.seq (EC.seq (EC.region (EL.val (fa_28_4 rfl) rfl (EL.val (ld_26 rfl (q1.at (j := 5) rfl)) rfl ?_))))
 cases hk : r.kinds.all kdB
 ·
  refine EL.call (cA2 cF60 rfl rfl) rfl (contains_kd_to (b := false) hk _ _ B (hr.kinds.below (hbw.mono hB)) (Nat.le_trans hB hbw.size) (by omega)) ?_
  rintro e w2 ⟨rfl, hc2⟩
  refine ⟨_, rfl, ?_⟩;replace q1 := q1.bl hc2;replace hbw := bo_ hbw hc2;clear hc2;refine EL.val (x_not rfl) rfl (EL.as rfl rfl (EL.nil (EX.seq (EC.seq (EC.seq (EC.region (EL.mv rfl rfl (EL.newS (bs_22_1 rfl) rfl ?_))))))));intro g3 w3 q3 hb3 hg3 hl3;have n1_3 := q1.na hg3;have bhbw_3 := Nat.le_trans hbw.size hg3;replace q1 := q1.bl hb3;replace hbw := bo_ hbw hb3;clear hb3 hg3 hl3
  cases h1 : inB 1 8 (r.levels.length : Nat)
  ·
   refine EL.call (cA3 cF63 rfl rfl rfl) rfl (within_1 q3 h1) ?_
   rintro e w4 ⟨rfl, hc4⟩
   refine ⟨_, rfl, ?_⟩;replace q1 := q1.bl hc4;replace q3 := q3.bl hc4;replace hbw := bo_ hbw hc4;clear hc4;refine EL.val (x_not rfl) rfl (EL.mv rfl rfl (EL.skip rfl rfl rfl rfl (EL.skip rfl rfl rfl rfl (EL.skip rfl rfl rfl rfl (EL.skip rfl rfl rfl rfl (EL.pt rfl rfl rfl (EL.mv rfl rfl (EL.skip rfl rfl rfl rfl (EL.skip rfl rfl rfl rfl ?_)))))))));refine EL.skip rfl rfl rfl rfl (EL.skip rfl rfl rfl rfl (EL.pt rfl rfl rfl (EL.mv rfl rfl (EL.skip rfl rfl rfl rfl (EL.skip rfl rfl rfl rfl (EL.skip rfl rfl rfl rfl (EL.skip rfl rfl rfl rfl (EL.skip rfl rfl rfl rfl (EL.pt rfl rfl rfl ?_)))))))));refine EL.mv rfl rfl (EL.skip rfl rfl rfl rfl (EL.skip rfl rfl rfl rfl (EL.skip rfl rfl rfl rfl (EL.skip rfl rfl rfl rfl (EL.skip rfl rfl rfl rfl (EL.pt rfl rfl rfl (EL.mv rfl rfl (EL.skip rfl rfl rfl rfl (EL.skip rfl rfl rfl rfl ?_)))))))));refine EL.skip rfl rfl rfl rfl (EL.skip rfl rfl rfl rfl (EL.pt rfl rfl rfl (EL.mv rfl rfl (EL.skip rfl rfl rfl rfl (EL.skip rfl rfl rfl rfl (EL.pt rfl rfl rfl (EL.nil (EX.seq (EC.yes rfl ?_)))))))));refine EC.seq (EC.region (EL.as rfl rfl (EL.nil (EX.seq (EC.ret (EX.seq_ret ?_))))))
   exact EX.done (res1 rfl rfl) ⟨by congr 2; simp [rulesB, *] <;> omega, hbw⟩
  ·
   refine EL.call (cA3 cF63 rfl rfl rfl) rfl (within_1 q3 h1) ?_
   rintro e w5 ⟨rfl, hc5⟩
   refine ⟨_, rfl, ?_⟩;replace q1 := q1.bl hc5;replace q3 := q3.bl hc5;replace hbw := bo_ hbw hc5;clear hc5;refine EL.val (x_not rfl) rfl (EL.mv rfl rfl (EL.valg rfl rfl (fa_28_0 rfl) rfl (EL.valg rfl rfl (ld_22 rfl (q1.at (j := 0) rfl)) rfl ?_)))
   cases h2 : r.levels.all (inB 0 1000000)
   ·
    refine EL.callg rfl rfl (cA3 cF63 rfl rfl rfl) rfl (within_to (b := false) h2 _ _ B (hr.levels.below (hbw.mono hB)) (Nat.le_trans hB hbw.size) (by omega)) ?_
    rintro e w6 ⟨rfl, hc6⟩
    refine ⟨_, rfl, ?_⟩;replace q1 := q1.bl hc6;replace q3 := q3.bl hc6;replace hbw := bo_ hbw hc6;clear hc6;refine EL.valg rfl rfl (x_not rfl) rfl (EL.pf rfl rfl rfl (EL.mv rfl rfl (EL.skip rfl rfl rfl rfl (EL.skip rfl rfl rfl rfl (EL.skip rfl rfl rfl rfl (EL.skip rfl rfl rfl rfl (EL.pt rfl rfl rfl (EL.mv rfl rfl (EL.skip rfl rfl rfl rfl ?_)))))))));refine EL.skip rfl rfl rfl rfl (EL.skip rfl rfl rfl rfl (EL.skip rfl rfl rfl rfl (EL.skip rfl rfl rfl rfl (EL.pt rfl rfl rfl (EL.mv rfl rfl (EL.skip rfl rfl rfl rfl (EL.skip rfl rfl rfl rfl (EL.skip rfl rfl rfl rfl (EL.skip rfl rfl rfl rfl ?_)))))))));refine EL.skip rfl rfl rfl rfl (EL.pt rfl rfl rfl (EL.mv rfl rfl (EL.skip rfl rfl rfl rfl (EL.skip rfl rfl rfl rfl (EL.skip rfl rfl rfl rfl (EL.skip rfl rfl rfl rfl (EL.pt rfl rfl rfl (EL.mv rfl rfl (EL.skip rfl rfl rfl rfl ?_)))))))));refine EL.skip rfl rfl rfl rfl (EL.pt rfl rfl rfl (EL.nil (EX.seq (EC.yes rfl (EC.seq (EC.region (EL.as rfl rfl (EL.nil (EX.seq ?_)))))))));refine EC.ret (EX.seq_ret ?_)
    exact EX.done (res1 rfl rfl) ⟨by congr 2; simp [rulesB, *] <;> omega, hbw⟩
   ·
    refine EL.callg rfl rfl (cA3 cF63 rfl rfl rfl) rfl (within_to (b := true) h2 _ _ B (hr.levels.below (hbw.mono hB)) (Nat.le_trans hB hbw.size) (by omega)) ?_
    rintro e w7 ⟨rfl, hc7⟩
    refine ⟨_, rfl, ?_⟩;replace q1 := q1.bl hc7;replace q3 := q3.bl hc7;replace hbw := bo_ hbw hc7;clear hc7;refine EL.valg rfl rfl (x_not rfl) rfl (EL.pf rfl rfl rfl (EL.mv rfl rfl (EL.valg rfl rfl (fa_28_1 rfl) rfl (EL.valg rfl rfl (ld_24 rfl (q1.at (j := 1) rfl) (q1.at (j := 2) rfl)) rfl ?_))))
    cases h3 : bdB r.fade
    ·
     refine EL.callg rfl rfl (cA1 cF62 rfl) rfl (isBounds_to (b := false) h3 _) ?_
     rintro e w8 ⟨rfl, hc8⟩
     refine ⟨_, rfl, ?_⟩;replace q1 := q1.bl hc8;replace q3 := q3.bl hc8;replace hbw := bo_ hbw hc8;clear hc8;refine EL.valg rfl rfl (x_not rfl) rfl (EL.pf rfl rfl rfl (EL.mv rfl rfl (EL.skip rfl rfl rfl rfl (EL.skip rfl rfl rfl rfl (EL.skip rfl rfl rfl rfl (EL.skip rfl rfl rfl rfl (EL.skip rfl rfl rfl rfl (EL.pt rfl rfl rfl (EL.mv rfl rfl ?_)))))))));refine EL.skip rfl rfl rfl rfl (EL.skip rfl rfl rfl rfl (EL.skip rfl rfl rfl rfl (EL.skip rfl rfl rfl rfl (EL.skip rfl rfl rfl rfl (EL.pt rfl rfl rfl (EL.mv rfl rfl (EL.skip rfl rfl rfl rfl (EL.skip rfl rfl rfl rfl (EL.skip rfl rfl rfl rfl ?_)))))))));refine EL.skip rfl rfl rfl rfl (EL.pt rfl rfl rfl (EL.mv rfl rfl (EL.skip rfl rfl rfl rfl (EL.skip rfl rfl rfl rfl (EL.pt rfl rfl rfl (EL.nil (EX.seq (EC.yes rfl (EC.seq ?_)))))))));refine EC.region (EL.as rfl rfl (EL.nil (EX.seq (EC.ret (EX.seq_ret ?_)))))
     exact EX.done (res1 rfl rfl) ⟨by congr 2; simp [rulesB, *] <;> omega, hbw⟩
    ·
     refine EL.callg rfl rfl (cA1 cF62 rfl) rfl (isBounds_to (b := true) h3 _) ?_
     rintro e w9 ⟨rfl, hc9⟩
     refine ⟨_, rfl, ?_⟩;replace q1 := q1.bl hc9;replace q3 := q3.bl hc9;replace hbw := bo_ hbw hc9;clear hc9;refine EL.valg rfl rfl (x_not rfl) rfl (EL.pf rfl rfl rfl (EL.mv rfl rfl (EL.valg rfl rfl (fa_28_2 rfl) rfl (EL.valg rfl rfl (ld_25 rfl (q1.at (j := 3) rfl)) rfl (EL.mg rfl rfl rfl rfl ?_)))))
     cases h4 : sqB r.allow r.levels.length 1000000
     ·
      refine EL.callg rfl rfl (cA3 cF64 rfl rfl rfl) rfl (isSquare_to (b := false) h4 _ _ B (hr.allow.below (hbw.mono hB)) (Nat.le_trans hB hbw.size) (by omega) (by omega)) ?_
      rintro e w10 ⟨rfl, hc10⟩
      refine ⟨_, rfl, ?_⟩;replace q1 := q1.bl hc10;replace q3 := q3.bl hc10;replace hbw := bo_ hbw hc10;clear hc10;refine EL.valg rfl rfl (x_not rfl) rfl (EL.pf rfl rfl rfl (EL.mv rfl rfl (EL.skip rfl rfl rfl rfl (EL.skip rfl rfl rfl rfl (EL.skip rfl rfl rfl rfl (EL.skip rfl rfl rfl rfl (EL.skip rfl rfl rfl rfl (EL.pt rfl rfl rfl (EL.mv rfl rfl ?_)))))))));refine EL.skip rfl rfl rfl rfl (EL.skip rfl rfl rfl rfl (EL.skip rfl rfl rfl rfl (EL.skip rfl rfl rfl rfl (EL.pt rfl rfl rfl (EL.mv rfl rfl (EL.skip rfl rfl rfl rfl (EL.skip rfl rfl rfl rfl (EL.pt rfl rfl rfl (EL.nil ?_)))))))));refine EX.seq (EC.yes rfl (EC.seq (EC.region (EL.as rfl rfl (EL.nil (EX.seq (EC.ret (EX.seq_ret ?_))))))))
      exact EX.done (res1 rfl rfl) ⟨by congr 2; simp [rulesB, *] <;> omega, hbw⟩
     ·
      refine EL.callg rfl rfl (cA3 cF64 rfl rfl rfl) rfl (isSquare_to (b := true) h4 _ _ B (hr.allow.below (hbw.mono hB)) (Nat.le_trans hB hbw.size) (by omega) (by omega)) ?_
      rintro e w11 ⟨rfl, hc11⟩
      refine ⟨_, rfl, ?_⟩;replace q1 := q1.bl hc11;replace q3 := q3.bl hc11;replace hbw := bo_ hbw hc11;clear hc11;refine EL.valg rfl rfl (x_not rfl) rfl (EL.pf rfl rfl rfl (EL.mv rfl rfl (EL.valg rfl rfl (fa_28_3 rfl) rfl (EL.valg rfl rfl (ld_25 rfl (q1.at (j := 4) rfl)) rfl (EL.mg rfl rfl rfl rfl ?_)))))
      cases h5 : sqB r.apart r.levels.length 10
      ·
       refine EL.callg rfl rfl (cA3 cF64 rfl rfl rfl) rfl (isSquare_to (b := false) h5 _ _ B (hr.apart.below (hbw.mono hB)) (Nat.le_trans hB hbw.size) (by omega) (by omega)) ?_
       rintro e w12 ⟨rfl, hc12⟩
       refine ⟨_, rfl, ?_⟩;replace q1 := q1.bl hc12;replace q3 := q3.bl hc12;replace hbw := bo_ hbw hc12;clear hc12;refine EL.valg rfl rfl (x_not rfl) rfl (EL.pf rfl rfl rfl (EL.mv rfl rfl (EL.skip rfl rfl rfl rfl (EL.skip rfl rfl rfl rfl (EL.skip rfl rfl rfl rfl (EL.skip rfl rfl rfl rfl (EL.pt rfl rfl rfl (EL.mv rfl rfl (EL.skip rfl rfl rfl rfl ?_)))))))));refine EL.skip rfl rfl rfl rfl (EL.pt rfl rfl rfl (EL.nil (EX.seq (EC.yes rfl (EC.seq (EC.region (EL.as rfl rfl (EL.nil (EX.seq ?_)))))))));refine EC.ret (EX.seq_ret ?_)
       exact EX.done (res1 rfl rfl) ⟨by congr 2; simp [rulesB, *] <;> omega, hbw⟩
      ·
       refine EL.callg rfl rfl (cA3 cF64 rfl rfl rfl) rfl (isSquare_to (b := true) h5 _ _ B (hr.apart.below (hbw.mono hB)) (Nat.le_trans hB hbw.size) (by omega) (by omega)) ?_
       rintro e w13 ⟨rfl, hc13⟩
       refine ⟨_, rfl, ?_⟩;replace q1 := q1.bl hc13;replace q3 := q3.bl hc13;replace hbw := bo_ hbw hc13;clear hc13;refine EL.valg rfl rfl (x_not rfl) rfl (EL.pf rfl rfl rfl (EL.mv rfl rfl (EL.valg rfl rfl (fa_28_4 rfl) rfl (EL.valg rfl rfl (ld_26 rfl (q1.at (j := 5) rfl)) rfl (EL.valg rfl rfl (ln_26 rfl) rfl ?_)))))
       by_cases h6 : 4 < r.kinds.length
       ·
        refine EL.valg rfl rfl (x_gtr rfl rfl (by first | assumption | exact decide_eq_true (by omega))) rfl ?_
        refine EL.pf rfl rfl rfl (EL.mv rfl rfl (EL.skip rfl rfl rfl rfl (EL.skip rfl rfl rfl rfl (EL.pt rfl rfl rfl (EL.nil (EX.seq (EC.yes rfl (EC.seq (EC.region ?_)))))))));refine EL.as rfl rfl (EL.nil (EX.seq (EC.ret (EX.seq_ret ?_))))
        exact EX.done (res1 rfl rfl) ⟨by congr 2; simp [rulesB, *] <;> omega, hbw⟩
       ·
        refine EL.valg rfl rfl (x_gtr rfl rfl (by first | assumption | exact decide_eq_false (by omega))) rfl ?_
        refine EL.pf rfl rfl rfl (EL.mv rfl rfl (EL.mg rfl rfl rfl rfl (EL.valg rfl rfl (x_not rfl) rfl (EL.pf rfl rfl rfl (EL.nil (EX.seq (EC.yes rfl (EC.seq (EC.region ?_)))))))));refine EL.as rfl rfl (EL.nil (EX.seq (EC.ret (EX.seq_ret ?_))))
        exact EX.done (res1 rfl rfl) ⟨by congr 2; simp [rulesB, *] <;> omega, hbw⟩
 ·
  refine EL.call (cA2 cF60 rfl rfl) rfl (contains_kd_to (b := true) hk _ _ B (hr.kinds.below (hbw.mono hB)) (Nat.le_trans hB hbw.size) (by omega)) ?_
  rintro e w14 ⟨rfl, hc14⟩
  refine ⟨_, rfl, ?_⟩;replace q1 := q1.bl hc14;replace hbw := bo_ hbw hc14;clear hc14;refine EL.val (x_not rfl) rfl (EL.as rfl rfl (EL.nil (EX.seq (EC.seq (EC.seq (EC.region (EL.mv rfl rfl (EL.newS (bs_22_1 rfl) rfl ?_))))))));intro g15 w15 q15 hb15 hg15 hl15;have n1_15 := q1.na hg15;have bhbw_15 := Nat.le_trans hbw.size hg15;replace q1 := q1.bl hb15;replace hbw := bo_ hbw hb15;clear hb15 hg15 hl15
  cases h1 : inB 1 8 (r.levels.length : Nat)
  ·
   refine EL.call (cA3 cF63 rfl rfl rfl) rfl (within_1 q15 h1) ?_
   rintro e w16 ⟨rfl, hc16⟩
   refine ⟨_, rfl, ?_⟩;replace q1 := q1.bl hc16;replace q15 := q15.bl hc16;replace hbw := bo_ hbw hc16;clear hc16;refine EL.val (x_not rfl) rfl (EL.mv rfl rfl (EL.skip rfl rfl rfl rfl (EL.skip rfl rfl rfl rfl (EL.skip rfl rfl rfl rfl (EL.skip rfl rfl rfl rfl (EL.pt rfl rfl rfl (EL.mv rfl rfl (EL.skip rfl rfl rfl rfl (EL.skip rfl rfl rfl rfl ?_)))))))));refine EL.skip rfl rfl rfl rfl (EL.skip rfl rfl rfl rfl (EL.pt rfl rfl rfl (EL.mv rfl rfl (EL.skip rfl rfl rfl rfl (EL.skip rfl rfl rfl rfl (EL.skip rfl rfl rfl rfl (EL.skip rfl rfl rfl rfl (EL.skip rfl rfl rfl rfl (EL.pt rfl rfl rfl ?_)))))))));refine EL.mv rfl rfl (EL.skip rfl rfl rfl rfl (EL.skip rfl rfl rfl rfl (EL.skip rfl rfl rfl rfl (EL.skip rfl rfl rfl rfl (EL.skip rfl rfl rfl rfl (EL.pt rfl rfl rfl (EL.mv rfl rfl (EL.skip rfl rfl rfl rfl (EL.skip rfl rfl rfl rfl ?_)))))))));refine EL.skip rfl rfl rfl rfl (EL.skip rfl rfl rfl rfl (EL.pt rfl rfl rfl (EL.mv rfl rfl (EL.skip rfl rfl rfl rfl (EL.skip rfl rfl rfl rfl (EL.pt rfl rfl rfl (EL.nil (EX.seq (EC.yes rfl ?_)))))))));refine EC.seq (EC.region (EL.as rfl rfl (EL.nil (EX.seq (EC.ret (EX.seq_ret ?_))))))
   exact EX.done (res1 rfl rfl) ⟨by congr 2; simp [rulesB, *] <;> omega, hbw⟩
  ·
   refine EL.call (cA3 cF63 rfl rfl rfl) rfl (within_1 q15 h1) ?_
   rintro e w17 ⟨rfl, hc17⟩
   refine ⟨_, rfl, ?_⟩;replace q1 := q1.bl hc17;replace q15 := q15.bl hc17;replace hbw := bo_ hbw hc17;clear hc17;refine EL.val (x_not rfl) rfl (EL.mv rfl rfl (EL.valg rfl rfl (fa_28_0 rfl) rfl (EL.valg rfl rfl (ld_22 rfl (q1.at (j := 0) rfl)) rfl ?_)))
   cases h2 : r.levels.all (inB 0 1000000)
   ·
    refine EL.callg rfl rfl (cA3 cF63 rfl rfl rfl) rfl (within_to (b := false) h2 _ _ B (hr.levels.below (hbw.mono hB)) (Nat.le_trans hB hbw.size) (by omega)) ?_
    rintro e w18 ⟨rfl, hc18⟩
    refine ⟨_, rfl, ?_⟩;replace q1 := q1.bl hc18;replace q15 := q15.bl hc18;replace hbw := bo_ hbw hc18;clear hc18;refine EL.valg rfl rfl (x_not rfl) rfl (EL.pf rfl rfl rfl (EL.mv rfl rfl (EL.skip rfl rfl rfl rfl (EL.skip rfl rfl rfl rfl (EL.skip rfl rfl rfl rfl (EL.skip rfl rfl rfl rfl (EL.pt rfl rfl rfl (EL.mv rfl rfl (EL.skip rfl rfl rfl rfl ?_)))))))));refine EL.skip rfl rfl rfl rfl (EL.skip rfl rfl rfl rfl (EL.skip rfl rfl rfl rfl (EL.skip rfl rfl rfl rfl (EL.pt rfl rfl rfl (EL.mv rfl rfl (EL.skip rfl rfl rfl rfl (EL.skip rfl rfl rfl rfl (EL.skip rfl rfl rfl rfl (EL.skip rfl rfl rfl rfl ?_)))))))));refine EL.skip rfl rfl rfl rfl (EL.pt rfl rfl rfl (EL.mv rfl rfl (EL.skip rfl rfl rfl rfl (EL.skip rfl rfl rfl rfl (EL.skip rfl rfl rfl rfl (EL.skip rfl rfl rfl rfl (EL.pt rfl rfl rfl (EL.mv rfl rfl (EL.skip rfl rfl rfl rfl ?_)))))))));refine EL.skip rfl rfl rfl rfl (EL.pt rfl rfl rfl (EL.nil (EX.seq (EC.yes rfl (EC.seq (EC.region (EL.as rfl rfl (EL.nil (EX.seq ?_)))))))));refine EC.ret (EX.seq_ret ?_)
    exact EX.done (res1 rfl rfl) ⟨by congr 2; simp [rulesB, *] <;> omega, hbw⟩
   ·
    refine EL.callg rfl rfl (cA3 cF63 rfl rfl rfl) rfl (within_to (b := true) h2 _ _ B (hr.levels.below (hbw.mono hB)) (Nat.le_trans hB hbw.size) (by omega)) ?_
    rintro e w19 ⟨rfl, hc19⟩
    refine ⟨_, rfl, ?_⟩;replace q1 := q1.bl hc19;replace q15 := q15.bl hc19;replace hbw := bo_ hbw hc19;clear hc19;refine EL.valg rfl rfl (x_not rfl) rfl (EL.pf rfl rfl rfl (EL.mv rfl rfl (EL.valg rfl rfl (fa_28_1 rfl) rfl (EL.valg rfl rfl (ld_24 rfl (q1.at (j := 1) rfl) (q1.at (j := 2) rfl)) rfl ?_))))
    cases h3 : bdB r.fade
    ·
     refine EL.callg rfl rfl (cA1 cF62 rfl) rfl (isBounds_to (b := false) h3 _) ?_
     rintro e w20 ⟨rfl, hc20⟩
     refine ⟨_, rfl, ?_⟩;replace q1 := q1.bl hc20;replace q15 := q15.bl hc20;replace hbw := bo_ hbw hc20;clear hc20;refine EL.valg rfl rfl (x_not rfl) rfl (EL.pf rfl rfl rfl (EL.mv rfl rfl (EL.skip rfl rfl rfl rfl (EL.skip rfl rfl rfl rfl (EL.skip rfl rfl rfl rfl (EL.skip rfl rfl rfl rfl (EL.skip rfl rfl rfl rfl (EL.pt rfl rfl rfl (EL.mv rfl rfl ?_)))))))));refine EL.skip rfl rfl rfl rfl (EL.skip rfl rfl rfl rfl (EL.skip rfl rfl rfl rfl (EL.skip rfl rfl rfl rfl (EL.skip rfl rfl rfl rfl (EL.pt rfl rfl rfl (EL.mv rfl rfl (EL.skip rfl rfl rfl rfl (EL.skip rfl rfl rfl rfl (EL.skip rfl rfl rfl rfl ?_)))))))));refine EL.skip rfl rfl rfl rfl (EL.pt rfl rfl rfl (EL.mv rfl rfl (EL.skip rfl rfl rfl rfl (EL.skip rfl rfl rfl rfl (EL.pt rfl rfl rfl (EL.nil (EX.seq (EC.yes rfl (EC.seq ?_)))))))));refine EC.region (EL.as rfl rfl (EL.nil (EX.seq (EC.ret (EX.seq_ret ?_)))))
     exact EX.done (res1 rfl rfl) ⟨by congr 2; simp [rulesB, *] <;> omega, hbw⟩
    ·
     refine EL.callg rfl rfl (cA1 cF62 rfl) rfl (isBounds_to (b := true) h3 _) ?_
     rintro e w21 ⟨rfl, hc21⟩
     refine ⟨_, rfl, ?_⟩;replace q1 := q1.bl hc21;replace q15 := q15.bl hc21;replace hbw := bo_ hbw hc21;clear hc21;refine EL.valg rfl rfl (x_not rfl) rfl (EL.pf rfl rfl rfl (EL.mv rfl rfl (EL.valg rfl rfl (fa_28_2 rfl) rfl (EL.valg rfl rfl (ld_25 rfl (q1.at (j := 3) rfl)) rfl (EL.mg rfl rfl rfl rfl ?_)))))
     cases h4 : sqB r.allow r.levels.length 1000000
     ·
      refine EL.callg rfl rfl (cA3 cF64 rfl rfl rfl) rfl (isSquare_to (b := false) h4 _ _ B (hr.allow.below (hbw.mono hB)) (Nat.le_trans hB hbw.size) (by omega) (by omega)) ?_
      rintro e w22 ⟨rfl, hc22⟩
      refine ⟨_, rfl, ?_⟩;replace q1 := q1.bl hc22;replace q15 := q15.bl hc22;replace hbw := bo_ hbw hc22;clear hc22;refine EL.valg rfl rfl (x_not rfl) rfl (EL.pf rfl rfl rfl (EL.mv rfl rfl (EL.skip rfl rfl rfl rfl (EL.skip rfl rfl rfl rfl (EL.skip rfl rfl rfl rfl (EL.skip rfl rfl rfl rfl (EL.skip rfl rfl rfl rfl (EL.pt rfl rfl rfl (EL.mv rfl rfl ?_)))))))));refine EL.skip rfl rfl rfl rfl (EL.skip rfl rfl rfl rfl (EL.skip rfl rfl rfl rfl (EL.skip rfl rfl rfl rfl (EL.pt rfl rfl rfl (EL.mv rfl rfl (EL.skip rfl rfl rfl rfl (EL.skip rfl rfl rfl rfl (EL.pt rfl rfl rfl (EL.nil ?_)))))))));refine EX.seq (EC.yes rfl (EC.seq (EC.region (EL.as rfl rfl (EL.nil (EX.seq (EC.ret (EX.seq_ret ?_))))))))
      exact EX.done (res1 rfl rfl) ⟨by congr 2; simp [rulesB, *] <;> omega, hbw⟩
     ·
      refine EL.callg rfl rfl (cA3 cF64 rfl rfl rfl) rfl (isSquare_to (b := true) h4 _ _ B (hr.allow.below (hbw.mono hB)) (Nat.le_trans hB hbw.size) (by omega) (by omega)) ?_
      rintro e w23 ⟨rfl, hc23⟩
      refine ⟨_, rfl, ?_⟩;replace q1 := q1.bl hc23;replace q15 := q15.bl hc23;replace hbw := bo_ hbw hc23;clear hc23;refine EL.valg rfl rfl (x_not rfl) rfl (EL.pf rfl rfl rfl (EL.mv rfl rfl (EL.valg rfl rfl (fa_28_3 rfl) rfl (EL.valg rfl rfl (ld_25 rfl (q1.at (j := 4) rfl)) rfl (EL.mg rfl rfl rfl rfl ?_)))))
      cases h5 : sqB r.apart r.levels.length 10
      ·
       refine EL.callg rfl rfl (cA3 cF64 rfl rfl rfl) rfl (isSquare_to (b := false) h5 _ _ B (hr.apart.below (hbw.mono hB)) (Nat.le_trans hB hbw.size) (by omega) (by omega)) ?_
       rintro e w24 ⟨rfl, hc24⟩
       refine ⟨_, rfl, ?_⟩;replace q1 := q1.bl hc24;replace q15 := q15.bl hc24;replace hbw := bo_ hbw hc24;clear hc24;refine EL.valg rfl rfl (x_not rfl) rfl (EL.pf rfl rfl rfl (EL.mv rfl rfl (EL.skip rfl rfl rfl rfl (EL.skip rfl rfl rfl rfl (EL.skip rfl rfl rfl rfl (EL.skip rfl rfl rfl rfl (EL.pt rfl rfl rfl (EL.mv rfl rfl (EL.skip rfl rfl rfl rfl ?_)))))))));refine EL.skip rfl rfl rfl rfl (EL.pt rfl rfl rfl (EL.nil (EX.seq (EC.yes rfl (EC.seq (EC.region (EL.as rfl rfl (EL.nil (EX.seq ?_)))))))));refine EC.ret (EX.seq_ret ?_)
       exact EX.done (res1 rfl rfl) ⟨by congr 2; simp [rulesB, *] <;> omega, hbw⟩
      ·
       refine EL.callg rfl rfl (cA3 cF64 rfl rfl rfl) rfl (isSquare_to (b := true) h5 _ _ B (hr.apart.below (hbw.mono hB)) (Nat.le_trans hB hbw.size) (by omega) (by omega)) ?_
       rintro e w25 ⟨rfl, hc25⟩
       refine ⟨_, rfl, ?_⟩;replace q1 := q1.bl hc25;replace q15 := q15.bl hc25;replace hbw := bo_ hbw hc25;clear hc25;refine EL.valg rfl rfl (x_not rfl) rfl (EL.pf rfl rfl rfl (EL.mv rfl rfl (EL.valg rfl rfl (fa_28_4 rfl) rfl (EL.valg rfl rfl (ld_26 rfl (q1.at (j := 5) rfl)) rfl (EL.valg rfl rfl (ln_26 rfl) rfl ?_)))))
       by_cases h6 : 4 < r.kinds.length
       ·
        refine EL.valg rfl rfl (x_gtr rfl rfl (by first | assumption | exact decide_eq_true (by omega))) rfl ?_
        refine EL.pf rfl rfl rfl (EL.mv rfl rfl (EL.skip rfl rfl rfl rfl (EL.skip rfl rfl rfl rfl (EL.pt rfl rfl rfl (EL.nil (EX.seq (EC.yes rfl (EC.seq (EC.region ?_)))))))));refine EL.as rfl rfl (EL.nil (EX.seq (EC.ret (EX.seq_ret ?_))))
        exact EX.done (res1 rfl rfl) ⟨by congr 2; simp [rulesB, *] <;> omega, hbw⟩
       ·
        refine EL.valg rfl rfl (x_gtr rfl rfl (by first | assumption | exact decide_eq_false (by omega))) rfl ?_
        refine EL.pf rfl rfl rfl (EL.mv rfl rfl (EL.mg rfl rfl rfl rfl (EL.valg rfl rfl (x_not rfl) rfl (EL.pf rfl rfl rfl (EL.nil (EX.seq (EC.no rfl (EC.skip (EX.seq ?_)))))))));refine EC.seq (EC.region (EL.as rfl rfl (EL.nil (EX.seq (EC.ret ?_)))))
        exact EX.done (res1 rfl rfl) ⟨by congr 2; simp [rulesB, *] <;> omega, hbw⟩
/-- l lies in ls from offset o on -/
def PartAt (ls : List Value) (o : Nat) (l : List Value) : Prop := ∀ j v, l[j]? = some v → ls[o + j]? = some v
theorem PartAt.whole (l : List Value) : PartAt l 0 l := fun j v h => by rw [Nat.zero_add]; exact h
theorem PartAt.mid {a b c : List Value} {o : Nat} (h : a.length = o) : PartAt (a ++ (b ++ c)) o b := fun j v hv => by
 subst h;have hj : j < b.length := (List.getElem?_eq_some_iff.1 hv).1;rw [List.getElem?_append_right (by omega), Nat.add_sub_cancel_left, List.getElem?_append_left hj]
 exact hv
theorem PartAt.last {a b : List Value} {o : Nat} (h : a.length = o) : PartAt (a ++ b) o b := fun j v hv => by
 subst h;rw [List.getElem?_append_right (by omega), Nat.add_sub_cancel_left]
 exact hv
theorem PartAt.first {a b : List Value} : PartAt (a ++ b) 0 a := fun j v hv => by
 have hj : j < a.length := (List.getElem?_eq_some_iff.1 hv).1;rw [Nat.zero_add, List.getElem?_append_left hj]
 exact hv
theorem PartAt.sub {ls l m : List Value} {o k : Nat} (h : PartAt ls o l) (h2 : PartAt l k m) : PartAt ls (o + k) m := fun j v hv => by
 rw [Nat.add_assoc]
 exact h _ _ (h2 j v hv)
theorem PartAt.at_ {ls l : List Value} {o j : Nat} {v : Value} (h : PartAt ls o l) (hv : l[j]? = some v) : ls[o + j]? = some v := h j v hv
theorem PartAt.take_drop {ls l : List Value} {o : Nat} (h : PartAt ls o l) (hl : o + l.length ≤ ls.length) : (ls.drop o).take l.length = l := by
 apply List.ext_getElem?
 intro j;rw [List.getElem?_take]
 split
 ·rename_i hj
  rw [List.getElem?_drop, h j _ (List.getElem?_eq_getElem hj), List.getElem?_eq_getElem hj]
 ·rename_i hj
  rw [List.getElem?_eq_none (by omega)]
theorem PartAt.extract {ls l : List Value} {o n : Nat} (h : PartAt ls o l) (hn : l.length = n) (hl : o + n ≤ ls.length) : ls.toArray.extract o (o + n) = l.toArray := by
 subst hn
 apply Array.ext'
 simp only [List.extract_toArray, List.extract_eq_take_drop, Nat.add_sub_cancel_left]
 exact h.take_drop hl
/-- elements of one size: the k-th -/
theorem part_flat {α : Type} {f : α → List Value} {z : Nat} (hz : ∀ x, (f x).length = z) {d : α} : ∀ (l : List α) (k : Nat), k < l.length → PartAt (l.flatMap f) (k * z) (f (l.getD k d))
 | [], k, hk => by simp at hk
 | x :: l, 0, _ => by
  rw [Nat.zero_mul, List.flatMap_cons]
  exact PartAt.first
 | x :: l, k + 1, hk => by
  have h1 : PartAt (f x ++ l.flatMap f) z (l.flatMap f) := PartAt.last (hz x);have h2 := h1.sub (part_flat hz (d := d) l k (by simpa using hk))
  rw [List.flatMap_cons, show (k + 1) * z = z + k * z by rw [Nat.add_mul, Nat.one_mul, Nat.add_comm]]
  exact h2
/-- what a store of one element makes of all -/
theorem spl_flat {α : Type} {f : α → List Value} {z : Nat} (hz : ∀ x, (f x).length = z) (l : List α) (k : Nat) (hk : k < l.length) (y : α) : spl (l.flatMap f) (k * z) (f y) = (l.set k y).flatMap f := by
 have hl : (l.flatMap f).length = l.length * z := flat_len hz l;have h1 : (k + 1) * z ≤ l.length * z := Nat.mul_le_mul_right _ hk;rw [Nat.add_mul, Nat.one_mul] at h1;rw [spl_eq _ _ _ (by rw [hz, hl]; exact h1), hz]
 have e1 : (l.flatMap f).take (k * z) = (l.take k).flatMap f := by
  conv => lhs; rw [← List.take_append_drop k l, List.flatMap_append]
  rw [List.take_left' (by rw [flat_len hz, List.length_take, Nat.min_eq_left (Nat.le_of_lt hk)])]
 have e2 : (l.flatMap f).drop (k * z + z) = (l.drop (k + 1)).flatMap f := by
  conv => lhs; rw [← List.take_append_drop (k + 1) l, List.flatMap_append]
  rw [List.drop_left' (by rw [flat_len hz, List.length_take, Nat.min_eq_left hk, Nat.succ_mul])]
 rw [e1, e2, List.set_eq_take_append_cons_drop, if_pos hk, List.flatMap_append, List.flatMap_cons, List.append_assoc]
section
variable {w : World} {g T : Nat} {l cs : List Value} {o : Nat}
theorem Blk.range (h : Blk w g T l.toArray) (hp : PartAt l o cs) : w.rangeAt g o cs := fun j v hv => by
 rw [h.cell]
 simpa using hp j v hv
theorem Blk.cellA {v : Value} (h : Blk w g T l.toArray) {k : Nat} (hv : l[k]? = some v) : w.cell? ⟨g, k, none⟩ = some v := by
 rw [h.cell]
 simpa using hv
end
section
variable {P : Program} {n : Nat} {σ : Sg} {w : World} {dst : Option Tmp} {ty : TypeId} {pos : String} {af : Array Edge} {g : Option (Nat × Bool)} {x y : Operand} {t e : TypeId}
theorem x_loadA {b o : Nat} {cs : List Value} {d : TypeDesc} (hx : evS σ x = some (.pointer (some ⟨b, o, none⟩))) (hc : w.rangeAt b o cs) (hu : P.underlying t = some d) (hd : d.isRow = true) (hi : (P.info? t).map (·.size) = some cs.length) : Gives P n σ w ⟨dst, .load t x, ty, pos, af, g⟩ (.agg cs.toArray) := fun a ha => by
 simp only [execOp, ha.eval hx, Sem.run_bind, run_loadAt_mid w b o t cs d hc hu hd hi, Result.andThen_ok]
 rfl
theorem x_boxA {cs : Array Value} (hx : evS σ x = some (.agg cs)) (a : Act) (ha : Env n σ a) : (execOp a.eval ⟨dst, .box t x, ty, pos, af, g⟩).run P w = .ok (.value (.pointer (some ⟨w.heap.size, 0, none⟩))) (w.alloc (.cells cs t)) := by
 simp only [execOp, ha.eval hx]
 simp [go_sem]
theorem run_partA {d : TypeDesc} {ls l : List Value} {o : Nat} (hu : P.underlying e = some d) (hd : d.isRow = true) (hs : (P.info? e).map (·.size) = some l.length) (hp : PartAt ls o l) (hl : o + l.length ≤ ls.length) : (part e ls.toArray o).run P w = .ok (.agg l.toArray) w := by
 have hagg : (isAgg e).run P w = .ok true w := by
  unfold isAgg
  rw [Sem.run_bind, run_underlying hu w]
  cases d <;> simp_all
 cases hq : P.info? e with
 | none => simp [hq] at hs
 | some i =>
  have hi : i.size = l.length := by simpa [hq] using hs
  have hx := hp.take_drop hl
  simp [part, Sem.run_bind, hagg, sizeOf, typeInfo, hq, hi, hx, Result.andThen]
theorem x_indexA {d : TypeDesc} {ls l : List Value} {k len z : Nat} (hx : evS σ x = some (.agg ls.toArray)) (hy : evS σ y = some (.int .i64 (k : Nat))) (hk : k < len) (hut : P.underlying t = some (.array len e)) (hu : P.underlying e = some d) (hd : d.isRow = true) (hs : (P.info? e).map (·.size) = some z) (hz : l.length = z) (hp : PartAt ls (k * z) l) (hl : (k + 1) * z ≤ ls.length) : Gives P n σ w ⟨dst, .index t x y, ty, pos, af, g⟩ (.agg l.toArray) := fun a ha => by
 subst hz;have k0 : (0 : Int) ≤ (k : Int) := Int.natCast_nonneg _;have k1 : (k : Int) < (len : Int) := by omega
 rw [Nat.add_mul, Nat.one_mul] at hl;have hpt := run_partA (P := P) (w := w) hu hd hs hp hl
 cases hq : P.info? e with
 | none => simp [hq] at hs
 | some i =>
  have hi : i.size = l.length := by simpa [hq] using hs
  have hr : (Instr.index t (.agg ls.toArray) (.int .i64 (k : Nat))).run P w = .ok (.agg l.toArray) w := by
   simp [Instr.index, asIntOf, Sem.run_bind, run_underlying hut, k0, k1, sizeOf, typeInfo, hq, hi, hpt, Result.andThen]
   intro h
   omega
  simp only [execOp, ha.eval hx, ha.eval hy, Sem.run_bind, hr, Result.andThen_ok]
  rfl
theorem resc2t {fn : Func} {c1 c2 s : Tmp} {t1 t2 : TypeId} {p1 p2 : Addr} {v1 v2 u : Value} (h : fn.results = #[.cell c1 t1, .cell c2 t2, .tmp s]) (hc1 : σ c1 = some (.pointer (some p1))) (hc2 : σ c2 = some (.pointer (some p2))) (hs : σ s = some u) (hl1 : (loadVar t1 p1).run P w = .ok v1 w) (hl2 : (loadVar t2 p2).run P w = .ok v2 w) (a : Act) (ha : Env n σ a) : (results fn a.tmps).run P w = .ok (.tuple #[v1, v2, u]) w := by
 have h1 : a.tmps.getD c1 undef = .pointer (some p1) := ha.eval (x := .tmp c1) hc1;have h2 : a.tmps.getD c2 undef = .pointer (some p2) := ha.eval (x := .tmp c2) hc2;have h3 : a.tmps.getD s undef = u := ha.eval (x := .tmp s) hs;rw [Array.getD_eq_getD_getElem?] at h1 h2 h3
 simp [results, h, h1, h2, h3, asAddr, hl1, hl2]
end
end Go.Proofs.Ytdkedhcbdbpccaa
namespace Go.Proofs.Ytdkedhcbdbpccaa
open Go Go.RowKit Go.Maps Go.ChangeMaps Go.MapKept Go.WideElems
def R0 : Value → Option (DataW Unit × List MemPlace) := fun _ => some (.lit (.bool true), [])
/-- block b is a map of at most n entries; l: its entries -/
def MapV (P : Program) (k : TypeId) (w : World) (b n : Nat) (l : List (Value × Value)) : Prop :=
 ∃ es clock, w.heap[b]? = some (.map es clock) ∧ Fit P k R0 es clock ∧ es.size ≤ n ∧ es.toList.map (fun e => (e.key, e.val)) = l
section
variable {P : Program} {k : TypeId} {w w' : World} {b n r c : Nat} {l d : List (Value × Value)}
theorem MapV.lt (h : MapV P k w b n l) : b < w.heap.size := by
 obtain ⟨es, clock, hb, _⟩ := h
 exact (Array.getElem?_eq_some_iff.1 hb).1
theorem MapV.map (h : MapV P k w b n l) : ∃ es clock, w.heap[b]? = some (.map es clock) := by
 obtain ⟨es, clock, hb, _⟩ := h
 exact ⟨es, clock, hb⟩
theorem MapV.kept {row : Option Nat} (h : MapV P k w b n l) (hg : w.grownBy w' row) (hne : some b ≠ row) : MapV P k w' b n l := by
 have hlt := h.lt;obtain ⟨es, clock, hb, r⟩ := h
 exact ⟨es, clock, (hg.block b hlt hne).trans hb, r⟩
theorem MapV.below (h : MapV P k w b n l) (hb : Below w.heap.size w w') : MapV P k w' b n l :=
 h.kept (row := none) ⟨hb.os, hb.tape, hb.output, hb.size, fun k hk _ => hb.block k hk⟩ (by simp)
theorem MapV.len (h : MapV P k w b n l) : l.length ≤ n := by
 obtain ⟨es, clock, _, _, hs, rfl⟩ := h
 simpa using hs
theorem MapV.mono {m : Nat} (h : MapV P k w b n l) (hm : n ≤ m) : MapV P k w b m l := by
 obtain ⟨es, clock, h1, h2, hs, h3⟩ := h
 exact ⟨es, clock, h1, h2, by omega, h3⟩
theorem MapV.keys (h : MapV P k w b n l) : l.Pairwise fun p q => p.1 ≠ q.1 := by
 obtain ⟨es, clock, _, F, _, rfl⟩ := h;rw [List.pairwise_map]
 exact ((stamped_iff es clock).1 F.stamped).2.2
theorem MapV.made (w : World) : MapV P k (w.alloc (.map #[] 0)) w.heap.size 0 [] :=
 ⟨#[], 0, (MapKept.heap_alloc w _).1, ⟨by simp, stamped_empty 0, by simp⟩, by simp, rfl⟩
theorem MapV.look {t e : TypeId} {z key : Value} {kl : Lit} (c : Bool) (h : MapV P k w b n l) (K : Keyed P k) (ht : P.underlying t = some (.map k e)) (hz : (zeroValue e).run P w = .ok z w) (hkey : keyOf P k key = some kl) :
  ((Instr.lookup t (.map (some b)) key c).run P w = .ok (if c then .tuple #[z, .bool false] else z) w ∧ ∀ x ∈ l, x.1 ≠ key) ∨
  ∃ v, (key, v) ∈ l ∧ (Instr.lookup t (.map (some b)) key c).run P w = .ok (if c then .tuple #[v, .bool true] else v) w := by
 obtain ⟨es, clock, hb, F, hs, rfl⟩ := h
 rcases fit_look c K ht hz hb F hkey with ⟨h1, h2, _⟩ | ⟨e0, y, h1, h2, h3, _⟩
 ·refine .inl ⟨h1, fun x hx => ?_⟩
  obtain ⟨e1, he1, rfl⟩ := List.mem_map.1 hx
  exact h2 e1 he1
 ·exact .inr ⟨e0.val, List.mem_map.2 ⟨e0, h1, by rw [h2]⟩, h3⟩
theorem MapV.store {t e : TypeId} {key val : Value} {kl : Lit} (h : MapV P k w b n l) (K : Keyed P k) (ht : P.underlying t = some (.map k e)) (hn : n < maxLen) (hkey : keyOf P k key = some kl) :
  ∃ w' l', (Instr.mapUpdate t (.map (some b)) key val).run P w = .ok () w' ∧ MapV P k w' b (n + 1) l' ∧ w.grownBy w' (some b) ∧ (key, val) ∈ l' ∧ (∀ x ∈ l', x = (key, val) ∨ (x ∈ l ∧ x.1 ≠ key)) ∧ ∀ x ∈ l, x ∈ l' ∨ x.1 = key := by
 obtain ⟨es, clock, hb, F, hs, rfl⟩ := h;have hgrow : ∀ o, w.grownBy (setBlock w b o) (some b) := fun o => ⟨rfl, rfl, rfl, by simp [setBlock], fun i _ hi => heap_setBlock_other hb _ (fun e => hi (by rw [e]))⟩
 obtain ⟨es', clock', hrun, F', _, _, _, _⟩ := fit_store (R' := R0) K ht hb F (Nat.lt_of_le_of_lt hs hn) (fun _ _ _ _ hz => hz) (val := val) hkey (yv := (.lit (.bool true), [])) rfl
 have huniq : ∀ es2 clock2, (Instr.mapUpdate t (.map (some b)) key val).run P w = .ok () (setBlock w b (.map es2 clock2)) → es' = es2 ∧ clock' = clock2 := fun es2 clock2 h2 => by
  rw [hrun] at h2
  injection h2 with _ e2
  have e3 := heap_setBlock_same hb (.map es' clock');rw [e2, heap_setBlock_same hb] at e3
  injection e3 with e3
  injection e3 with e4 e5
  exact ⟨e4.symm, e5.symm⟩
 rcases K.find w hkey es.toList F.keys with ⟨h1, h2⟩ | ⟨j, e0, h1, h2, h3⟩
 ·obtain ⟨rfl, rfl⟩ := huniq (es.push ⟨key, val, clock⟩) (clock + 1) (by simp [Instr.mapUpdate, run_underlying ht, MapKept.run_getObj_map hb, K.check w false hkey, h1, MapKept.run_setObj_map _ hb, Result.andThen, setBlock])
  refine ⟨_, _, hrun, ⟨_, _, heap_setBlock_same hb _, F', by simp; omega, rfl⟩, hgrow _, ?_, fun x hx => ?_, fun x hx => .inl ?_⟩
  ·simp
  ·simp only [Array.toList_push, List.map_append, List.map_cons, List.map_nil, List.mem_append, List.mem_singleton] at hx
   rcases hx with hx | hx
   ·refine .inr ⟨hx, ?_⟩
    obtain ⟨e1, he1, rfl⟩ := List.mem_map.1 hx
    exact h2 e1 he1
   ·exact .inl hx
  ·simp only [Array.toList_push, List.map_append, List.map_cons, List.map_nil, List.mem_append, List.mem_singleton]
   exact .inl hx
 ·have hj : es[j]? = some e0 := by simpa using h2
  obtain ⟨rfl, rfl⟩ := huniq (es.modify j (fun e' => { e' with key := key, val := val })) clock (by simp [Instr.mapUpdate, run_underlying ht, MapKept.run_getObj_map hb, K.check w false hkey, h1, hj, h3, K.stays w hkey, MapKept.run_setObj_map _ hb, Result.andThen, setBlock])
  have hlist : (es.modify j (fun e' => { e' with key := key, val := val })).toList = es.toList.set j { e0 with key := key, val := val } := by rw [Array.toList_modify, modify_eq_set _ _ _ _ h2]
  have hjl : j < es.toList.length := (List.getElem?_eq_some_iff.1 h2).1;refine ⟨_, _, hrun, ⟨_, _, heap_setBlock_same hb _, F', by simp; omega, rfl⟩, hgrow _, ?_, fun x hx => ?_, fun x hx => ?_⟩
  ·rw [hlist]
   exact List.mem_map.2 ⟨{ e0 with key := key, val := val }, List.mem_iff_getElem.2 ⟨j, by simpa using hjl, by simp⟩, rfl⟩
  ·rw [hlist] at hx
   obtain ⟨e1, he1, rfl⟩ := List.mem_map.1 hx;obtain ⟨i, hi, ex⟩ := List.getElem_of_mem he1;rw [List.getElem_set] at ex
   split at ex
   ·subst ex; exact .inl rfl
   ·rename_i hne
    have hi' : i < es.toList.length := by simpa using hi
    subst ex;refine .inr ⟨List.mem_map.2 ⟨_, List.getElem_mem hi', rfl⟩, ?_⟩;have h4 := other_key F h2 (List.getElem?_eq_getElem hi') (fun e1 => hne e1.symm)
    intro h5
    exact h4 (h5.trans h3.symm)
  ·rw [hlist]
   obtain ⟨e1, he1, rfl⟩ := List.mem_map.1 hx;obtain ⟨i, hi, ex⟩ := List.getElem_of_mem he1
   by_cases hij : i = j
   ·subst hij
    right
    rw [List.getElem?_eq_getElem hi, ex] at h2
    injection h2 with h2
    rw [h2]; exact h3
   ·left
    exact List.mem_map.2 ⟨e1, List.mem_iff_getElem.2 ⟨i, by simpa using hi, by rw [List.getElem_set, if_neg (fun e => hij e.symm)]; exact ex⟩, rfl⟩
/-- the map is ranged over by block r; d: what has come so far; c: how many are to come -/
def RangeV (P : Program) (k : TypeId) (w : World) (b r n : Nat) (l d : List (Value × Value)) (c : Nat) : Prop :=
 ∃ es clock since seen c0, w.heap[b]? = some (.map es clock) ∧ Fit P k R0 es clock ∧ es.size ≤ n ∧ es.toList.map (fun e => (e.key, e.val)) = l ∧
  w.heap[r]? = some (.mapIter (some b) since seen c0) ∧ (∀ x ∈ es.toList, x.born < since) ∧ (leftOf es seen).size = c ∧ since ≤ c0 ∧ since ≤ clock ∧
  (∀ x ∈ es.toList, seen.contains x.born = true → (x.key, x.val) ∈ d)
theorem RangeV.map (h : RangeV P k w b r n l d c) : MapV P k w b n l := by
 obtain ⟨es, clock, _, _, _, hb, F, hs, e, _⟩ := h
 exact ⟨es, clock, hb, F, hs, e⟩
theorem RangeV.lt (h : RangeV P k w b r n l d c) : r < w.heap.size := by
 obtain ⟨_, _, _, _, _, _, _, _, _, hr, _⟩ := h
 exact (Array.getElem?_eq_some_iff.1 hr).1
theorem RangeV.iter (h : RangeV P k w b r n l d c) : ∃ m s seen c, w.heap[r]? = some (.mapIter m s seen c) := by
 obtain ⟨_, _, _, _, _, _, _, _, _, hr, _⟩ := h
 exact ⟨_, _, _, _, hr⟩
theorem RangeV.kept {row : Option Nat} (h : RangeV P k w b r n l d c) (hg : w.grownBy w' row) (h1 : some b ≠ row) (h2 : some r ≠ row) : RangeV P k w' b r n l d c := by
 have k1 := h.map.lt;have k2 := h.lt;obtain ⟨es, clock, since, seen, c0, hb, F, hs, e, hr, rest⟩ := h
 exact ⟨es, clock, since, seen, c0, (hg.block b k1 h1).trans hb, F, hs, e, (hg.block r k2 h2).trans hr, rest⟩
theorem RangeV.below (h : RangeV P k w b r n l d c) (hb : Below w.heap.size w w') : RangeV P k w' b r n l d c :=
 h.kept (row := none) ⟨hb.os, hb.tape, hb.output, hb.size, fun k hk _ => hb.block k hk⟩ (by simp) (by simp)
theorem MapV.range {t e : TypeId} (h : MapV P k w b n l) (ht : P.underlying t = some (.map k e)) :
  ∃ w', (Instr.range t (.map (some b))).run P w = .ok (.pointer (some ⟨w.heap.size, 0, none⟩)) w' ∧ RangeV P k w' b w.heap.size n l [] l.length ∧ Below w.heap.size w w' := by
 have hlt := h.lt;obtain ⟨es, clock, hb, F, hs, rfl⟩ := h;refine ⟨_, run_range_map w t k e b es clock ht hb, ⟨es, clock, clock, #[], clock, ((MapKept.heap_alloc w _).2 b hlt).trans hb, F, hs, rfl, (MapKept.heap_alloc w _).1, F.stamped.1, ?_, Nat.le_refl _, Nat.le_refl _, ?_⟩, (Below.refl _ _).alloc (Nat.le_refl _) _⟩
 ·simp [leftOf]
 ·intro x _ hx
  simp at hx
theorem RangeV.next (h : RangeV P k w b r n l d c) (ty : TypeId) :
  (c = 0 ∧ (∀ x ∈ l, x ∈ d) ∧ (Instr.next (.pointer (some ⟨r, 0, none⟩)) false ty).run P w = .ok (.tuple #[.bool false]) w) ∨
  ∃ key v w' c', (key, v) ∈ l ∧ (Instr.next (.pointer (some ⟨r, 0, none⟩)) false ty).run P w = .ok (.tuple #[.bool true, key, v]) w' ∧
   RangeV P k w' b r n l (d ++ [(key, v)]) c' ∧ c' < c ∧ w.grownBy w' (some r) ∧ w'.heap.size = w.heap.size ∧ (Instr.entry (.pointer (some ⟨r, 0, none⟩))).run P w' = .ok (.tuple #[key, v]) w' := by
 have hne : r ≠ b := fun e => by
  obtain ⟨es, clock, since, seen, c0, hb, _, _, _, hr, _⟩ := h;rw [e, hb] at hr
  cases hr
 obtain ⟨es, clock, since, seen, c0, hb, F, hs, rfl, hr, hold, rfl, hsc, hsk, hd⟩ := h
 rcases run_next_at (P := P) w ty r b since c0 seen es clock hr hb hold hsc with ⟨h0, hrun⟩ | ⟨e, he, w1, hal, hrun⟩
 ·refine .inl ⟨h0, fun x hx => ?_, hrun⟩
  obtain ⟨e1, he1, rfl⟩ := List.mem_map.1 hx
  exact hd e1 he1 (all_seen es seen h0 e1 he1)
 ·obtain ⟨hem, hes⟩ := mem_left he
  have hr1 : w1.heap[r]? = some (.mapIter (some b) since seen c0) := by rcases hal with rfl | rfl <;> exact hr
  have hb1 : w1.heap[b]? = some (.map es clock) := by rcases hal with rfl | rfl <;> exact hb
  have hset := heap_set (o' := .mapIter (some b) since (seen.push e.born) clock) hr1;have hb' : (setBlock w1 r (.mapIter (some b) since (seen.push e.born) clock)).heap[b]? = some (.map es clock) := (hset.2 b (fun e1 => hne e1.symm)).trans hb1
  have hst := (stamped_iff es clock).1 F.stamped;refine .inr ⟨e.key, e.val, _, _, List.mem_map.2 ⟨e, hem, rfl⟩, hrun, ⟨es, clock, since, seen.push e.born, clock, hb', F, hs, rfl, hset.1, hold, rfl, hsk, hsk, fun x hx hxs => ?_⟩, ?_, ?_, ?_, ?_⟩
  ·rw [Array.contains_iff_mem, Array.mem_push] at hxs
   rcases hxs with hxs | hxs
   ·exact List.mem_append.2 (.inl (hd x hx (Array.contains_iff_mem.2 hxs)))
   ·rw [born_inj hst.2.1 hx hem hxs]
    exact List.mem_append.2 (.inr (List.mem_singleton.2 rfl))
  ·exact left_shrinks es seen e he
  ·rcases hal with rfl | rfl <;> exact ⟨rfl, rfl, rfl, by simp [setBlock], fun i _ hi => hset.2 i (fun e1 => hi (by rw [e1]))⟩
  ·rcases hal with rfl | rfl <;> simp [setBlock]
  ·exact run_entry_at _ r b since seen es clock e hset.1 hb' hem hst.2.1
end
end Go.Proofs.Ytdkedhcbdbpccaa
namespace Go.Proofs.Ytdkedhcbdbpccaa
open Go Go.RowKit
def trC (x : Tr) : List Value := [.int .i64 x.lo, .int .i64 x.hi, .bool x.carried, .int .i64 x.after]
def tkC (t : List Tr) : List Value := t.flatMap trC
def flC (f : List (List Tr)) : List Value := f.flatMap tkC
theorem trC_len (x : Tr) : (trC x).length = 4 := rfl
theorem tkC_len (t : List Tr) : (tkC t).length = t.length * 4 := flat_len trC_len t
theorem tkC_8 {t : List Tr} (h : t.length = 8) : (tkC t).length = 32 := by rw [tkC_len, h]
theorem flC_len : ∀ {f : List (List Tr)}, (∀ t ∈ f, t.length = 8) → (flC f).length = f.length * 32
 | [], _ => rfl
 | t :: f, h => by
  show (tkC t ++ flC f).length = _
  rw [List.length_append, tkC_8 (h t (List.mem_cons_self ..)), flC_len (fun u hu => h u (List.mem_cons_of_mem _ hu)), List.length_cons]
  omega
theorem trC_one (x : Tr) : allOne (trC x) = true := rfl
theorem allOne_app : ∀ {l m : List Value}, allOne l = true → allOne m = true → allOne (l ++ m) = true
 | [], _, _, h => h
 | v :: l, m, h, h2 => by
  unfold allOne at h
  rw [List.cons_append]
  unfold allOne
  cases e : v.oneCell' with
  | false => rw [e] at h; cases h
  | true => rw [e] at h; exact allOne_app h h2
theorem tkC_one : ∀ t : List Tr, allOne (tkC t) = true
 | [] => rfl
 | x :: t => allOne_app (trC_one x) (tkC_one t)
theorem flC_one : ∀ f : List (List Tr), allOne (flC f) = true
 | [] => rfl
 | x :: f => allOne_app (tkC_one x) (flC_one f)
theorem tr_at (t : List Tr) (k : Nat) (hk : k < t.length) : PartAt (tkC t) (k * 4) (trC (t.getD k tr0)) := part_flat trC_len t k hk
theorem tr_set (t : List Tr) (k : Nat) (hk : k < t.length) (y : Tr) : spl (tkC t) (k * 4) (trC y) = tkC (t.set k y) := spl_flat trC_len t k hk y
/-- a fleet: three tanks of eight traces -/
structure Fl (f : List (List Tr)) : Prop where
 n3 : f.length = 3
 n8 : ∀ t ∈ f, t.length = 8
theorem Fl.len {f : List (List Tr)} (h : Fl f) : (flC f).length = 96 := by rw [flC_len h.n8, h.n3]
theorem Fl.get {f : List (List Tr)} (h : Fl f) {k : Nat} (hk : k < 3) : (f.getD k []).length = 8 := by
 rw [getD_in (by rw [h.n3]; exact hk)]
 exact h.n8 _ (List.getElem_mem _)
theorem Fl.set {f : List (List Tr)} (h : Fl f) {k : Nat} {t : List Tr} (ht : t.length = 8) : Fl (f.set k t) := ⟨by rw [List.length_set]; exact h.n3, fun u hu => by
 rcases List.mem_or_eq_of_mem_set hu with hu | rfl
 ·exact h.n8 u hu
 ·exact ht⟩
theorem Fl.three {f : List (List Tr)} (h : Fl f) : ∃ a b c, f = [a, b, c] ∧ a.length = 8 ∧ b.length = 8 ∧ c.length = 8 := by
 obtain ⟨h3, h8⟩ := h
 match f, h3 with
 | [a, b, c], _ => exact ⟨a, b, c, rfl, h8 a (by simp), h8 b (by simp), h8 c (by simp)⟩
theorem tk_at {f : List (List Tr)} (h : Fl f) {k : Nat} (hk : k < 3) : PartAt (flC f) (k * 32) (tkC (f.getD k [])) := by
 obtain ⟨a, b, c, rfl, ha, hb, hc⟩ := h.three;have e : flC [a, b, c] = tkC a ++ (tkC b ++ (tkC c ++ [])) := rfl;rw [e]
 match k, hk with
 | 0, _ => exact PartAt.first
 | 1, _ => exact PartAt.mid (by rw [tkC_8 ha])
 | 2, _ =>
  have h1 : PartAt (tkC a ++ (tkC b ++ (tkC c ++ []))) 32 (tkC b ++ (tkC c ++ [])) := PartAt.last (tkC_8 ha)
  exact h1.sub (PartAt.mid (tkC_8 hb))
theorem spl_app_l : ∀ (a b c : List Value) (o : Nat), o + c.length ≤ a.length → spl (a ++ b) o c = spl a o c ++ b := fun a b c o h => by
 rw [spl_eq _ _ _ (by rw [List.length_append]; omega), spl_eq _ _ _ h, List.take_append_of_le_length (by omega), List.drop_append_of_le_length h]
 simp
theorem spl_app_r : ∀ (a b c : List Value) (o : Nat), o + c.length ≤ b.length → spl (a ++ b) (a.length + o) c = a ++ spl b o c := fun a b c o h => by
 rw [spl_eq _ _ _ (by rw [List.length_append]; omega), spl_eq _ _ _ h, List.take_length_add_append, Nat.add_assoc, List.drop_length_add_append]
 simp
theorem tk_set {f : List (List Tr)} (h : Fl f) {k : Nat} (hk : k < 3) {t : List Tr} (ht : t.length = 8) : spl (flC f) (k * 32) (tkC t) = flC (f.set k t) := by
 obtain ⟨a, b, c, rfl, ha, hb, hc⟩ := h.three;have la := tkC_8 ha;have lb := tkC_8 hb;have lc := tkC_8 hc;have lt := tkC_8 ht;have e : flC [a, b, c] = tkC a ++ (tkC b ++ tkC c) := by show tkC a ++ (tkC b ++ (tkC c ++ [])) = _; rw [List.append_nil]
 have spl0 : ∀ u v : List Value, u.length = 32 → v.length = 32 → spl u 0 v = v := fun u v hu hv => by
  rw [spl_eq _ _ _ (by omega)]
  simp [hu, hv]
 rw [e]
 match k, hk with
 | 0, _ =>
  rw [Nat.zero_mul, spl_app_l _ _ _ _ (by omega), spl0 _ _ la lt]
  show _ = tkC t ++ (tkC b ++ (tkC c ++ []))
  rw [List.append_nil]
 | 1, _ =>
  rw [show 1 * 32 = (tkC a).length + 0 by omega, spl_app_r _ _ _ _ (by rw [List.length_append]; omega), spl_app_l _ _ _ _ (by omega), spl0 _ _ lb lt]
  show _ = tkC a ++ (tkC t ++ (tkC c ++ []))
  rw [List.append_nil]
 | 2, _ =>
  rw [show 2 * 32 = (tkC a).length + ((tkC b).length + 0) by omega, spl_app_r _ _ _ _ (by rw [List.length_append]; omega), spl_app_r _ _ _ _ (by omega), spl0 _ _ lc lt]
  show _ = tkC a ++ (tkC b ++ (tkC t ++ []))
  rw [List.append_nil]
/-! ### What holds of all tanks -/
structure TrOk (x : Tr) : Prop where
 lo0 : 0 ≤ x.lo
 lo1 : x.lo ≤ 1000000
 hi0 : 0 ≤ x.hi
 hi1 : x.hi ≤ 1000000
 af0 : 0 ≤ x.after
 af1 : x.after ≤ 10
structure TkOk (t : List Tr) : Prop where
 n8 : t.length = 8
 ok : ∀ x ∈ t, TrOk x
theorem tr0_ok : TrOk tr0 := ⟨Int.le_refl _, by decide, Int.le_refl _, by decide, Int.le_refl _, by decide⟩
theorem tank0_ok : TkOk tank0 := ⟨rfl, fun x hx => by rw [List.eq_of_mem_replicate hx]; exact tr0_ok⟩
theorem TkOk.at_ {t : List Tr} (h : TkOk t) (k : Nat) : TrOk (t.getD k tr0) := by
 by_cases hk : k < t.length
 ·rw [getD_in hk]
  exact h.ok _ (List.getElem_mem _)
 ·rw [List.getD_eq_getElem?_getD, List.getElem?_eq_none (Nat.le_of_not_lt hk)]
  exact tr0_ok
theorem redT_ok {x : Tr} {b : Bd} (h : TrOk x) (hb : 0 ≤ b.lo ∧ b.lo ≤ b.hi ∧ b.hi ≤ 1000000) : TrOk (redT x b) := by
 obtain ⟨h1, h2, h3, h4, h5, h6⟩ := h
 exact ⟨by show 0 ≤ max 0 _; omega, by show max 0 _ ≤ _; omega, by show 0 ≤ max 0 _; omega, by show max 0 _ ≤ _; omega, h5, h6⟩
theorem fadeT_ok {r : Rules} {x : Tr} (h : TrOk x) (hr : RulesOk r) : TrOk (fadeT r x) := by
 obtain ⟨h1, h2, h3, h4, h5, h6⟩ := h;have := hr.fade
 exact ⟨by show 0 ≤ max 0 _; omega, by show max 0 _ ≤ _; omega, by show 0 ≤ max 0 _; omega, by show max 0 _ ≤ _; omega, by show 0 ≤ min (x.after + 1) 10; omega, by show min (x.after + 1) 10 ≤ 10; omega⟩
theorem kd_pow {r : Rules} (hr : RulesOk r) (k : Nat) : 0 ≤ (r.kinds.getD k kd0).power.lo ∧ (r.kinds.getD k kd0).power.lo ≤ (r.kinds.getD k kd0).power.hi ∧ (r.kinds.getD k kd0).power.hi ≤ 1000000 := by
 have h := hr.kd k
 unfold kdB at h
 rw [Bool.and_eq_true] at h
 exact bdB_iff.1 h.1
theorem washT_ok {r : Rules} {t : List Tr} (h : TkOk t) (hr : RulesOk r) (k : Nat) : TkOk (washT r t k) := ⟨by rw [washT_len]; exact h.n8, fun x hx => by
 obtain ⟨y, hy, rfl⟩ := List.mem_map.1 hx
 exact redT_ok (h.ok y hy) (kd_pow hr k)⟩
theorem loadT_ok {r : Rules} {t : List Tr} (h : TkOk t) (hr : RulesOk r) (c : Nat) : TkOk (loadT r t c) := ⟨by rw [loadT_len]; exact h.n8, fun x hx => by
 unfold loadT at hx
 rcases List.mem_or_eq_of_mem_set hx with hx | rfl
 ·obtain ⟨y, hy, rfl⟩ := List.mem_map.1 hx
  exact fadeT_ok (h.ok y hy) hr
 ·have := hr.lev c
  exact ⟨this.1, this.2, this.1, this.2, Int.le_refl _, by show (0 : Int) ≤ 10; decide⟩⟩
theorem stepT_ok {r : Rules} {t : List Tr} {x : Ev} (h : TkOk t) (hr : RulesOk r) : TkOk (stepT r t x) := by
 unfold stepT
 split
 ·exact washT_ok h hr _
 ·exact loadT_ok h hr _
theorem foldT_ok {r : Rules} (hr : RulesOk r) : ∀ (l : List Ev) {t : List Tr}, TkOk t → TkOk (l.foldl (stepT r) t)
 | [], _, h => h
 | x :: l, _, h => foldT_ok hr l (stepT_ok h hr)
structure FlOk (f : List (List Tr)) : Prop where
 fl : Fl f
 ok : ∀ t ∈ f, TkOk t
theorem FlOk.get {f : List (List Tr)} (h : FlOk f) {k : Nat} (hk : k < 3) : TkOk (f.getD k []) := by
 rw [getD_in (by rw [h.fl.n3]; exact hk)]
 exact h.ok _ (List.getElem_mem _)
theorem FlOk.set {f : List (List Tr)} (h : FlOk f) {k : Nat} {t : List Tr} (ht : TkOk t) : FlOk (f.set k t) := ⟨h.fl.set ht.n8, fun u hu => by
 rcases List.mem_or_eq_of_mem_set hu with hu | rfl
 ·exact h.ok u hu
 ·exact ht⟩
/-! ### Cells tell the tank -/
theorem trC_inj {x y : Tr} (h : trC x = trC y) : x = y := by
 obtain ⟨a, b, c, d⟩ := x;obtain ⟨a', b', c', d'⟩ := y
 simp [trC] at h
 obtain ⟨h1, h2, h3, h4⟩ := h;subst h1; subst h2; subst h3; subst h4
 rfl
theorem flat_inj {α : Type} {f : α → List Value} {z : Nat} (hz : ∀ x, (f x).length = z) (hz0 : 0 < z) (hf : ∀ x y, f x = f y → x = y) : ∀ {l m : List α}, l.flatMap f = m.flatMap f → l = m
 | [], [], _ => rfl
 | [], y :: m, h => by
  have := congrArg List.length h
  simp [hz] at this
  omega
 | x :: l, [], h => by
  have := congrArg List.length h
  simp [hz] at this
  omega
 | x :: l, y :: m, h => by
  rw [List.flatMap_cons, List.flatMap_cons] at h;obtain ⟨h1, h2⟩ := List.append_inj h (by rw [hz, hz])
  rw [hf x y h1, flat_inj hz hz0 hf h2]
theorem tkC_inj {t u : List Tr} (h : tkC t = tkC u) : t = u := flat_inj trC_len (by decide) (fun _ _ => trC_inj) h
theorem flC_inj {f g : List (List Tr)} (hf : Fl f) (hg : Fl g) (h : flC f = flC g) : f = g := by
 obtain ⟨a, b, c, rfl, ha, hb, hc⟩ := hf.three;obtain ⟨a', b', c', rfl, ha', hb', hc'⟩ := hg.three;have h : tkC a ++ (tkC b ++ (tkC c ++ [])) = tkC a' ++ (tkC b' ++ (tkC c' ++ [])) := h;obtain ⟨h1, h⟩ := List.append_inj h (by rw [tkC_8 ha, tkC_8 ha'])
 obtain ⟨h2, h⟩ := List.append_inj h (by rw [tkC_8 hb, tkC_8 hb'])
 rw [List.append_nil, List.append_nil] at h;rw [tkC_inj h1, tkC_inj h2, tkC_inj h]
/-! ### A fleet is a key -/
abbrev flV (f : List (List Tr)) : Value := .agg (flC f).toArray
theorem flV_inj {f g : List (List Tr)} (hf : Fl f) (hg : Fl g) (h : flV f = flV g) : f = g := by
 injection h with h
 exact flC_inj hf hg (by simpa using congrArg Array.toList h)
theorem wf_ok {n : Int} (h0 : 0 ≤ n) (h1 : n ≤ 1000000) : (Lit.int .i64 n).wf = true := WalkArith.wf_i64 (by omega)
theorem lits_tr (d : Nat) {x : Tr} (h : TrOk x) : Try.prog.keyLits (d + 3) 118 (trC x) = some [.int .i64 x.lo, .int .i64 x.hi, .bool x.carried, .int .i64 x.after] := by
 have w1 := wf_ok h.lo0 h.lo1;have w2 := wf_ok h.hi0 h.hi1;have w3 := wf_ok h.af0 (by have := h.af1; omega)
 have c1 : Try.prog.cellsOf 118 = 4 := by kernel_rfl
 have c2 : Try.prog.cellsOf 24 = 2 := by kernel_rfl
 have c3 : Try.prog.cellsOf 4 = 1 := by kernel_rfl
 have c4 : Try.prog.cellsOf 3 = 1 := by kernel_rfl
 have hi : ∀ (d : Nat) (n : Int), (Lit.int .i64 n).wf = true → Try.prog.keyLits (d + 1) 3 [.int .i64 n] = some [.int .i64 n] := fun d n h => by
  unfold Program.keyLits
  simp only [Try.underlying3]
  simp [h]
 have hbo : ∀ (d : Nat) (b : Bool), Try.prog.keyLits (d + 1) 4 [.bool b] = some [.bool b] := fun d b => by
  unfold Program.keyLits
  simp only [Try.underlying4]
 have hb : ∀ d, Try.prog.keyLits (d + 2) 24 [.int .i64 x.lo, .int .i64 x.hi] = some [.int .i64 x.lo, .int .i64 x.hi] := fun d => by
  unfold Program.keyLits
  simp only [Try.underlying24]
  rw [if_pos ⟨by rw [c2]; rfl, by decide +kernel⟩]
  simp [c4, hi, w1, w2]
 unfold Program.keyLits
 simp only [Try.underlying118]
 rw [if_pos ⟨by rw [c1]; rfl, by decide +kernel⟩]
 simp [hb, hi, hbo, trC, c2, c3, c4, w1, w2, w3]
theorem mapM_some {α β : Type} {f : α → Option β} : ∀ {l : List α}, (∀ x ∈ l, ∃ y, f x = some y) → ∃ ys, l.mapM f = some ys
 | [], _ => ⟨[], rfl⟩
 | x :: l, h => by
  obtain ⟨y, hy⟩ := h x (List.mem_cons_self ..);obtain ⟨ys, hys⟩ := mapM_some (l := l) fun z hz => h z (List.mem_cons_of_mem _ hz)
  exact ⟨y :: ys, by rw [List.mapM_cons, hy, hys]; rfl⟩
theorem lits_tk (d : Nat) {t : List Tr} (h : TkOk t) : ∃ l, Try.prog.keyLits (d + 4) 120 (tkC t) = some l := by
 have c1 : Try.prog.cellsOf 120 = 32 := by kernel_rfl
 have c2 : Try.prog.cellsOf 118 = 4 := by kernel_rfl
 unfold Program.keyLits
 simp only [Try.underlying120]
 rw [c1, c2, if_pos (tkC_8 h.n8)];obtain ⟨ys, hys⟩ := mapM_some (l := List.range 8) (f := fun i => Try.prog.keyLits (d + 3) 118 (((tkC t).drop (i * 4)).take 4)) fun i hi => by
  have hi8 : i < 8 := List.mem_range.1 hi;have hp := tr_at t i (by rw [h.n8]; exact hi8)
  have e := hp.take_drop (by rw [trC_len, tkC_8 h.n8]; omega)
  rw [trC_len] at e;rw [e]
  exact ⟨_, lits_tr d (h.at_ i)⟩
 exact ⟨ys.flatten, by rw [hys]; rfl⟩
theorem lits_fl (d : Nat) {f : List (List Tr)} (h : FlOk f) : ∃ l, Try.prog.keyLits (d + 5) 150 (flC f) = some l := by
 have c1 : Try.prog.cellsOf 150 = 96 := by kernel_rfl
 have c2 : Try.prog.cellsOf 120 = 32 := by kernel_rfl
 unfold Program.keyLits
 simp only [Try.underlying150]
 rw [c1, c2, if_pos h.fl.len];obtain ⟨ys, hys⟩ := mapM_some (l := List.range 3) (f := fun i => Try.prog.keyLits (d + 4) 120 (((flC f).drop (i * 32)).take 32)) fun i hi => by
  have hi3 : i < 3 := List.mem_range.1 hi;have hp := tk_at h.fl hi3;have e := hp.take_drop (by rw [tkC_8 (h.fl.get hi3), h.fl.len]; omega)
  rw [tkC_8 (h.fl.get hi3)] at e;rw [e]
  exact lits_tk d (h.get hi3)
 exact ⟨ys.flatten, by rw [hys]; rfl⟩
theorem fleet_key {f : List (List Tr)} (h : FlOk f) : ∃ l, keyOf Try.prog 150 (flV f) = some l := by
 have hk : Try.prog.keyType 150 = true := by kernel_rfl
 have hs : ∃ m, Try.prog.types.size + 1 = m + 5 := ⟨Try.prog.types.size - 4, by have : 4 ≤ Try.prog.types.size := of_decide_eq_true (by kernel_rfl); omega⟩
 have c1 : Try.prog.cellsOf 150 = 96 := by kernel_rfl
 obtain ⟨m, hm⟩ := hs;obtain ⟨l, hl⟩ := lits_fl m h
 unfold keyOf
 simp only [Try.underlying150]
 rw [if_pos (by simp [hk, Value.formed, Try.underlying150, c1, h.fl.len]), hm]
 exact ⟨_, by rw [show (flV f).cells.toList = flC f from by simp [Value.cells]]; rw [hl]; rfl⟩
theorem laidOut_prog : laidOutB Try.prog = true := by kernel_rfl
theorem fleet_keyed : Maps.Keyed Try.prog 150 := Maps.Keyed.of_law (deep_law_laid laidOut_prog (m := 5) (by omega) (of_decide_eq_true (by kernel_rfl)) (by kernel_rfl) (by kernel_rfl))
theorem spl_whole {l m : List Value} (h : m.length = l.length) : spl l 0 m = m := by
 rw [spl_eq _ _ _ (by omega)]
 simp [h]
section
variable {n : Nat} {σ : Sg} {w : World} {dst : Option Tmp} {ty : TypeId} {pos : String} {af : Array Edge} {g : Option (Nat × Bool)}
theorem al_tank (a : Act) (_ : Env n σ a) : (execOp a.eval ⟨dst, .alloc 120, ty, pos, af, g⟩).run Try.prog w = .ok (.value (.pointer (some ⟨w.heap.size, 0, none⟩))) (w.alloc (.cells (tkC tank0).toArray 120)) := by
 simp only [execOp]
 kernel_rfl
end
/-! ### Moments -/
def momC (x : Ev) (i : Nat) (t : List Tr) : List Value := evC x ++ ([.int .i64 (i : Nat)] ++ tkC t)
abbrev momV (x : Ev) (i : Nat) (t : List Tr) : Value := .agg (momC x i t).toArray
theorem momC_len {x : Ev} {i : Nat} {t : List Tr} (h : t.length = 8) : (momC x i t).length = 35 := by
 unfold momC
 rw [List.length_append, List.length_append, tkC_8 h, evC_len]
 rfl
theorem momC_one (x : Ev) (i : Nat) (t : List Tr) : allOne (momC x i t) = true := allOne_app (m := [.int .i64 (i : Nat)] ++ tkC t) rfl (allOne_app (m := tkC t) rfl (tkC_one t))
theorem mom_tk (x : Ev) (i : Nat) (t : List Tr) : PartAt (momC x i t) 3 (tkC t) := by
 have h : momC x i t = (evC x ++ [.int .i64 (i : Nat)]) ++ tkC t := by unfold momC; rw [List.append_assoc]
 rw [h]
 exact PartAt.last rfl
theorem eight {α : Type} {t : List α} (h : t.length = 8) : ∃ a b c d e f g k, t = [a, b, c, d, e, f, g, k] := by
 match t, h with
 | [a, b, c, d, e, f, g, k], _ => exact ⟨a, b, c, d, e, f, g, k, rfl⟩
section
variable {n : Nat} {σ : Sg} {w : World} {dst : Option Tmp} {ty : TypeId} {pos : String} {af : Array Edge} {g : Option (Nat × Bool)} {x0 x1 x2 : Operand}
theorem al_mom : ∀ a : Act, Env n σ a → (execOp a.eval ⟨dst, .alloc 126, ty, pos, af, g⟩).run Try.prog w = .ok (.value (.pointer (some ⟨w.heap.size, 0, none⟩))) (w.alloc (.cells (momC ev0 0 tank0).toArray 126)) := fun a _ => by
 simp only [execOp]
 kernel_rfl
theorem x_slarr {b h : Nat} {x y : Operand} (hx : evS σ x = some (.pointer (some ⟨b, 0, none⟩))) (hh : evS σ y = some (.int .i64 (h : Int))) (h8 : h ≤ 8) : Gives Try.prog n σ w ⟨dst, .slice 120 x none (some y) none, ty, pos, af, g⟩ (.slice (some ⟨b, 0, none⟩) h 8) := fun a ha => by
 have k1 : (0 : Int) ≤ (h : Int) := Int.natCast_nonneg _;have k3 : (h : Int) ≤ (8 : Int) := by omega
 simp only [execOp, Option.map_some, Option.map_none, ha.eval hx, ha.eval hh]
 simp [go_sem, k1, k3, h8]
theorem x_tank0 : Gives Try.prog n σ w ⟨dst, .build 120 #[], ty, pos, af, g⟩ (.agg (tkC tank0).toArray) := fun a _ => by
 simp only [execOp, List.map_toArray, List.map_nil]
 kernel_rfl
theorem x_mom {e : Ev} {i : Nat} {t : List Tr} (h0 : evS σ x0 = some (.agg #[.int .i64 e.kind, .int .i64 e.number])) (h1 : evS σ x1 = some (.int .i64 (i : Nat))) (h2 : evS σ x2 = some (.agg (tkC t).toArray)) (h8 : t.length = 8) :
  Gives Try.prog n σ w ⟨dst, .build 126 #[(0, x0), (1, x1), (2, x2)], ty, pos, af, g⟩ (momV e i t) := fun a ha => by
 obtain ⟨a0, a1, a2, a3, a4, a5, a6, a7, rfl⟩ := eight h8
 simp only [execOp, List.map_toArray, List.map_cons, List.map_nil, ha.eval h0, ha.eval h1, ha.eval h2]
 kernel_rfl
end
theorem sq_cells {w : World} {B n c : Nat} {A : Option Addr} {ll : List (List Int)} {us : List Value} (h : RdLL iC 1 w B (.slice A n c) ll us) {b k : Nat} (hb : b < ll.length) (hk : k < (ll.getD b []).length) : ∃ bo oo br orr cr, A = some ⟨bo, oo, none⟩ ∧ w.cell? ⟨bo, oo + b, none⟩ = some (.slice (some ⟨br, orr, none⟩) (ll.getD b []).length cr) ∧ w.cell? ⟨br, orr + k, none⟩ = some (.int .i64 ((ll.getD b []).getD k 0)) := by
 obtain ⟨A', c', e, _⟩ := h.rd.shape
 cases e
 obtain ⟨bo, oo, rfl, _, hc⟩ := vals_cells us b (by rw [h.len]; exact hb) w B _ _ _ h.rd
 have hr := h.row b hb;rw [← ints_flat] at hr;obtain ⟨Ar, cr, er, _⟩ := hr.shape;rw [er] at hc hr;obtain ⟨br, orr, rfl, _, h2⟩ := ints_cells _ k hk w B _ _ _ hr
 exact ⟨bo, oo, br, orr, cr, rfl, hc, h2⟩
/-! ### Reducing -/
theorem cut_at {l m : List Value} {o : Nat} (h : PartAt l o m) (hl : o + m.length ≤ l.length) : ∃ a c, l = a ++ (m ++ c) ∧ a.length = o := by
 refine ⟨l.take o, l.drop (o + m.length), ?_, by rw [List.length_take]; omega⟩
 have e := h.take_drop hl
 conv => lhs; rw [← List.take_append_drop o l, ← List.take_append_drop m.length (l.drop o), e, List.drop_drop]
theorem spl_red {l : List Value} {o : Nat} {x : Tr} (h : PartAt l o (trC x)) (hl : o + 4 ≤ l.length) (p q : Int) : spl (spl l o [.int .i64 p]) (o + 1) [.int .i64 q] = spl l o (trC ⟨p, q, x.carried, x.after⟩) := by
 obtain ⟨a, c, rfl, rfl⟩ := cut_at h hl;have e0 : a.length = a.length + 0 := rfl;rw [show spl (a ++ (trC x ++ c)) a.length [.int .i64 p] = a ++ spl (trC x ++ c) 0 [.int .i64 p] from spl_app_r _ _ _ 0 (by simp [trC])]
 rw [show spl (a ++ spl (trC x ++ c) 0 [.int .i64 p]) (a.length + 1) [.int .i64 q] = a ++ spl (spl (trC x ++ c) 0 [.int .i64 p]) 1 [.int .i64 q] from spl_app_r _ _ _ 1 (by cases c <;> simp [trC, spl, ovr])]
 rw [show spl (a ++ (trC x ++ c)) a.length (trC ⟨p, q, x.carried, x.after⟩) = a ++ spl (trC x ++ c) 0 (trC ⟨p, q, x.carried, x.after⟩) from spl_app_r _ _ _ 0 (by simp [trC])]
 cases c <;> rfl
theorem spl_aft {l : List Value} {o : Nat} {x : Tr} (h : PartAt l o (trC x)) (hl : o + 4 ≤ l.length) (p : Int) : spl l (o + 3) [.int .i64 p] = spl l o (trC ⟨x.lo, x.hi, x.carried, p⟩) := by
 obtain ⟨a, c, rfl, rfl⟩ := cut_at h hl;rw [show spl (a ++ (trC x ++ c)) (a.length + 3) [.int .i64 p] = a ++ spl (trC x ++ c) 3 [.int .i64 p] from spl_app_r _ _ _ 3 (by simp [trC])]
 rw [show spl (a ++ (trC x ++ c)) a.length (trC ⟨x.lo, x.hi, x.carried, p⟩) = a ++ spl (trC x ++ c) 0 (trC ⟨x.lo, x.hi, x.carried, p⟩) from spl_app_r _ _ _ 0 (by simp [trC])]
 rfl
/-- what is done to the first i of a list -/
def mapTo {α : Type} (f : α → α) (l : List α) (i : Nat) : List α := (l.take i).map f ++ l.drop i
section
variable {α : Type} {f : α → α} {l : List α} {i : Nat} {d : α}
theorem mapTo_zero : mapTo f l 0 = l := by simp [mapTo]
theorem mapTo_all (h : i = l.length) : mapTo f l i = l.map f := by subst h; simp [mapTo]
theorem mapTo_len : (mapTo f l i).length = l.length := by
 unfold mapTo
 rw [List.length_append, List.length_map, List.length_take, List.length_drop]
 omega
theorem mapTo_get (h : i < l.length) : (mapTo f l i).getD i d = l.getD i d := by
 unfold mapTo
 have e : ((l.take i).map f).length = i := by rw [List.length_map, List.length_take]; omega
 rw [List.getD_eq_getElem?_getD, List.getElem?_append_right (by omega), e, Nat.sub_self, List.getElem?_drop, Nat.add_zero, ← List.getD_eq_getElem?_getD]
theorem mapTo_set (h : i < l.length) : (mapTo f l i).set i (f (l.getD i d)) = mapTo f l (i + 1) := by
 unfold mapTo
 have e : ((l.take i).map f).length = i := by rw [List.length_map, List.length_take]; omega
 rw [List.set_append_right _ _ (by omega), e, Nat.sub_self, List.drop_eq_getElem_cons h, List.set_cons_zero, List.take_succ_eq_append_getElem h, List.map_append, List.append_assoc, getD_in h]
 rfl
end
section
variable {n : Nat} {σ : Sg} {w : World} {dst : Option Tmp} {ty : TypeId} {pos : String} {af : Array Edge} {g : Option (Nat × Bool)} {x y z : Operand} {at' : Array TypeId}
theorem sz_3 : (Try.prog.info? 3).map (·.size) = some 1 := by kernel_rfl
theorem fa_118_0 {b o : Nat} (hx : evS σ x = some (.pointer (some ⟨b, o, none⟩))) : Gives Try.prog n σ w ⟨dst, .fieldAddr 118 x 0, ty, pos, af, g⟩ (.pointer (some ⟨b, o, none⟩)) := fun a ha => by
 simp only [execOp, ha.eval hx]
 simp [go_sem]
theorem mm_max {p q r : Int} (hx : evS σ x = some (.int .i64 p)) (hy : evS σ y = some (.int .i64 q)) (hr : max p q = r) : Gives Try.prog n σ w ⟨dst, .call { callee := .builtin .max, args := #[x, y], argTypes := at' }, ty, pos, af, g⟩ (.int .i64 r) := fun a ha => by
 simp only [execOp, resolve, List.map_toArray, List.map_cons, List.map_nil, ha.eval hx, ha.eval hy]
 subst hr
 simp [go_sem, Int.max_def]
 split <;> split <;> omega
theorem sz_120 : (Try.prog.info? 120).map (·.size) = some 32 := by kernel_rfl
theorem bx_116 {v0 v1 v2 v3 v4 v5 : Value} (hx : evS σ x = some (.agg #[v0, v1, v2, v3, v4, v5])) (a : Act) (ha : Env n σ a) : (execOp a.eval ⟨dst, .box 116 x, ty, pos, af, g⟩).run Try.prog w = .ok (.value (.pointer (some ⟨w.heap.size, 0, none⟩))) (w.alloc (.cells #[v0, v1, v2, v3, v4, v5] 116)) := by
 simp only [execOp, ha.eval hx]
 simp [go_sem]
theorem ixa_120 {b o k : Nat} (hx : evS σ x = some (.pointer (some ⟨b, o, none⟩))) (hy : evS σ y = some (.int .i64 (k : Int))) (hk : k < 8) : Gives Try.prog n σ w ⟨dst, .indexAddr 120 x y, ty, pos, af, g⟩ (.pointer (some ⟨b, o + k * 4, none⟩)) := fun a ha => by
 have k0 : (0 : Int) ≤ (k : Int) := Int.natCast_nonneg _;have k1 : (k : Int) < 8 := by omega
 simp only [execOp, ha.eval hx, ha.eval hy]
 simp [go_sem, k0, k1]
theorem fa_116_0 {b o : Nat} (hx : evS σ x = some (.pointer (some ⟨b, o, none⟩))) : Gives Try.prog n σ w ⟨dst, .fieldAddr 116 x 0, ty, pos, af, g⟩ (.pointer (some ⟨b, o, none⟩)) := fun a ha => by
 simp only [execOp, ha.eval hx]
 simp [go_sem]
theorem cF90 : cF 90 := fun _ _ => by simp [go_sem]
theorem fa_118_2 {b o : Nat} (hx : evS σ x = some (.pointer (some ⟨b, o, none⟩))) : Gives Try.prog n σ w ⟨dst, .fieldAddr 118 x 2, ty, pos, af, g⟩ (.pointer (some ⟨b, o + 3, none⟩)) := fun a ha => by
 simp only [execOp, ha.eval hx]
 simp [go_sem]
theorem mm_min {p q r : Int} (hx : evS σ x = some (.int .i64 p)) (hy : evS σ y = some (.int .i64 q)) (hr : min p q = r) : Gives Try.prog n σ w ⟨dst, .call { callee := .builtin .min, args := #[x, y], argTypes := at' }, ty, pos, af, g⟩ (.int .i64 r) := fun a ha => by
 simp only [execOp, resolve, List.map_toArray, List.map_cons, List.map_nil, ha.eval hx, ha.eval hy]
 subst hr
 simp [go_sem, Int.min_def]
 split <;> split <;> omega
theorem bd_24_0_1 {x0 x1 : Operand} {z0 : Int} {z1 : Int} (h0 : evS σ x0 = some (.int .i64 z0)) (h1 : evS σ x1 = some (.int .i64 z1)) : Gives Try.prog n σ w ⟨dst, .build 24 #[(0, x0), (1, x1)], ty, pos, af, g⟩ (.agg #[.int .i64 z0, .int .i64 z1]) := fun a ha => by
 simp only [execOp, List.map_toArray, List.map_cons, List.map_nil, ha.eval h0, ha.eval h1]
 go_simp
theorem bd_118_0_1_2 {x0 x1 x2 : Operand} {v0_0 : Value} {v0_1 : Value} {b1 : Bool} {z2 : Int} (h0 : evS σ x0 = some (.agg #[v0_0, v0_1])) (h1 : evS σ x1 = some (.bool b1)) (h2 : evS σ x2 = some (.int .i64 z2)) : Gives Try.prog n σ w ⟨dst, .build 118 #[(0, x0), (1, x1), (2, x2)], ty, pos, af, g⟩ (.agg #[v0_0, v0_1, .bool b1, .int .i64 z2]) := fun a ha => by
 simp only [execOp, List.map_toArray, List.map_cons, List.map_nil, ha.eval h0, ha.eval h1, ha.eval h2]
 go_simp
theorem sz_118 : (Try.prog.info? 118).map (·.size) = some 4 := by kernel_rfl
end
theorem reduce_any {x : Tr} {y : Bd} {b o T : Nat} {l : List Value} {w : World} (hq : Blk w b T l.toArray) (hp : PartAt l o (trC x)) (hl : o + 4 ≤ l.length) (hx : TrOk x) (hy : 0 ≤ y.lo ∧ y.lo ≤ y.hi ∧ y.hi ≤ 1000000) :
  Calls Try.prog 90 #[.pointer (some ⟨b, o, none⟩), .agg #[.int .i64 y.lo, .int .i64 y.hi]] w fun e w' => e = .returned (.tuple #[]) ∧ Blk w' b T (spl l o (trC (redT x y))).toArray ∧ w.grownBy w' (some b) := by
 obtain ⟨x1, x2, x3, x4, x5, x6⟩ := hx;obtain ⟨y1, y2, y3⟩ := hy;refine EC.enter 30 Try.func90 rfl rfl rfl (EC.seq (EC.region (EL.newP (bx_24 rfl) rfl ?_)));intro g1 w1 q1 hb1 hg1 hl1;have hne := hq.na hg1;have hgw : w.grownBy w1 (some b) := grown_below ⟨rfl, rfl, rfl, Nat.le_refl _, fun _ _ _ => rfl⟩ hb1
 replace hq := hq.bl hb1;clear hb1 hg1 hl1;refine EL.nil (EX.seq ?_)
 skip
 refine EC.regionS [[], [], [], [2], [2, 3], [2, 3, 4], [2, 3, 4, 5], [], [7], [2, 3, 4, 5, 6, 7, 8], [2, 3, 4, 5, 6, 7, 8, 9], [], [11], [11, 12], [11, 12, 13], [11, 12, 13, 14], [], [16], [11, 12, 13, 14, 15, 16, 17], [11, 12, 13, 14, 15, 16, 17, 18], [0, 2, 3, 4, 5, 6, 7, 8, 9, 10, 11, 12, 13, 14, 15], [0, 2, 3, 4, 5, 6, 7, 8, 9, 10, 11, 12, 13, 14, 15, 20], [0, 2, 3, 4, 5, 6, 7, 8, 9, 10, 11, 12, 13, 14, 15, 20, 21], [0, 2, 3, 4, 5, 6, 7, 8, 9, 10, 11, 12, 13, 14, 15, 20, 21, 22], [0, 1, 2, 3, 4, 5, 6, 7, 8, 9, 10, 11, 12, 13, 14, 15, 16, 17, 18, 19, 20, 21, 22, 23], [0, 1, 2, 3, 4, 5, 6, 7, 8, 9, 10, 11, 12, 13, 14, 15, 16, 17, 18, 19, 20, 21, 22, 23, 24], [0, 1, 2, 3, 4, 5, 6, 7, 8, 9, 10, 11, 12, 13, 14, 15, 16, 17, 18, 19, 20, 21, 22, 23, 24, 25], [0, 1, 2, 3, 4, 5, 6, 7, 8, 9, 10, 11, 12, 13, 14, 15, 16, 17, 18, 19, 20, 21, 22, 23, 24, 25, 26]] 24 [] [23] (fun fl w_ => w1.grownBy w_ (some b) ∧ (fl 23 = false → Blk w_ b T l.toArray)) (phiS (fun i_ r => match i_ with | 0 => r 0 = .pointer (some ⟨b, o, none⟩) | 1 => r 1 = .pointer (some ⟨b, o, none⟩) | 2 => r 2 = .pointer (some ⟨b, o, none⟩) | 3 => r 3 = .pointer (some ⟨b, o, none⟩) | 4 => r 4 = .pointer (some ⟨b, o, none⟩) | 5 => r 5 = .pointer (some ⟨b, o, none⟩) | 6 => r 6 = .int .i64 x.lo | 7 => r 7 = .pointer (some ⟨g1, 1, none⟩) | 8 => r 8 = .int .i64 y.hi | 9 => r 9 = .int .i64 (x.lo - y.hi) | 10 => r 10 = .int .i64 (max 0 (x.lo - y.hi)) | 11 => r 11 = .pointer (some ⟨b, o, none⟩) | 12 => r 12 = .pointer (some ⟨b, o, none⟩) | 13 => r 13 = .pointer (some ⟨b, o, none⟩) | 14 => r 14 = .pointer (some ⟨b, o + 1, none⟩) | 15 => r 15 = .int .i64 x.hi | 16 => r 16 = .pointer (some ⟨g1, 0, none⟩) | 17 => r 17 = .int .i64 y.lo | 18 => r 18 = .int .i64 (x.hi - y.lo) | 19 => r 19 = .int .i64 (max 0 (x.hi - y.lo)) | 20 => r 20 = .pointer (some ⟨b, o, none⟩) | 21 => r 21 = .pointer (some ⟨b, o, none⟩) | 22 => r 22 = .pointer (some ⟨b, o, none⟩) | _ => True) [(23, fun _ r w_ => Blk w_ b T (spl l o [.int .i64 (max 0 (x.lo - y.hi))]).toArray)]) (by kernel_rfl) rfl rfl (by intro i hi; simp at hi; subst hi; exact ⟨by simp, by omega⟩) (base_own hq) (phiS_cons monoS_own phiS_nil) (fun i_ hi_ hs_ => ?_) (fun i_ hi_ => ?_) ?_
 ·match i_, hi_ with
  | 0, _ =>
   intro val fl w1 a hb ha hd hfl;obtain ⟨hgb, hg0⟩ := hb;have ha := ha.s0 (d := 0) rfl
   exact ss_val ha rfl rfl (x_move rfl) rfl rfl
  | 1, _ =>
   intro val fl w1 a hb ha hd hfl;obtain ⟨hgb, hg0⟩ := hb;have ha := ha.s0 (d := 0) rfl
   exact ss_val ha rfl rfl (x_move rfl) rfl rfl
  | 2, _ =>
   intro val fl w1 a hb ha hd hfl;obtain ⟨hgb, hg0⟩ := hb;have ha := ha.s0 (d := 0) rfl
   exact ss_val ha rfl rfl (x_move rfl) rfl rfl
  | 3, _ =>
   intro val fl w1 a hb ha hd hfl;obtain ⟨hgb, hg0⟩ := hb;have e2 : val 2 = _ := hd 2 (memB_mem.1 rfl);have ha := ha.s1 (d := 6) rfl e2
   exact ss_val ha rfl rfl (x_nilCheck rfl) rfl rfl
  | 4, _ =>
   intro val fl w1 a hb ha hd hfl;obtain ⟨hgb, hg0⟩ := hb;have e3 : val 3 = _ := hd 3 (memB_mem.1 rfl);have ha := ha.s1 (d := 7) rfl e3
   exact ss_val ha rfl rfl (fa_118_0 rfl) rfl rfl
  | 5, _ =>
   intro val fl w1 a hb ha hd hfl;obtain ⟨hgb, hg0⟩ := hb;have e4 : val 4 = _ := hd 4 (memB_mem.1 rfl);have ha := ha.s1 (d := 8) rfl e4
   exact ss_val ha rfl rfl (fa_24_0 rfl) rfl rfl
  | 6, _ =>
   intro val fl w1 a hb ha hd hfl;obtain ⟨hgb, hg0⟩ := hb;have e5 : val 5 = _ := hd 5 (memB_mem.1 rfl);have ha := ha.s1 (d := 9) rfl e5;have hq0 := hg0 (hfl 23 (by simp) (memB_mem.1 rfl))
   exact ss_val ha rfl rfl (ld_3 rfl (hq0.cellA (hp.at_ (j := 0) rfl))) rfl rfl
  | 7, _ =>
   intro val fl w1 a hb ha hd hfl;obtain ⟨hgb, hg0⟩ := hb;have ha := ha.s0 (d := 3) rfl
   exact ss_val ha rfl rfl (fa_24_1 rfl) rfl rfl
  | 8, _ =>
   intro val fl w1 a hb ha hd hfl;obtain ⟨hgb, hg0⟩ := hb;have e7 : val 7 = _ := hd 7 (memB_mem.1 rfl);have ha := ha.s1 (d := 11) rfl e7
   exact ss_val ha rfl rfl (ld_3 rfl ((q1.grown hgb (fun h => hne.symm (Option.some.inj h))).at (j := 1) rfl)) rfl rfl
  | 9, _ =>
   intro val fl w1 a hb ha hd hfl;obtain ⟨hgb, hg0⟩ := hb;have e6 : val 6 = _ := hd 6 (memB_mem.1 rfl);have e8 : val 8 = _ := hd 8 (memB_mem.1 rfl);have ha := ha.s2 (d := 12) (e := 10) rfl e8 rfl e6
   exact ss_val ha rfl rfl (x_sub rfl rfl (by first | assumption | exact IntWalk.i64_in _ ⟨by omega, by omega⟩)) rfl rfl
  | 10, _ =>
   intro val fl w1 a hb ha hd hfl;obtain ⟨hgb, hg0⟩ := hb;have e9 : val 9 = _ := hd 9 (memB_mem.1 rfl);have ha := ha.s1 (d := 13) rfl e9
   exact ss_val ha rfl rfl (mm_max rfl rfl rfl) rfl rfl
  | 11, _ =>
   intro val fl w1 a hb ha hd hfl;obtain ⟨hgb, hg0⟩ := hb;have ha := ha.s0 (d := 0) rfl
   exact ss_val ha rfl rfl (x_move rfl) rfl rfl
  | 12, _ =>
   intro val fl w1 a hb ha hd hfl;obtain ⟨hgb, hg0⟩ := hb;have e11 : val 11 = _ := hd 11 (memB_mem.1 rfl);have ha := ha.s1 (d := 15) rfl e11
   exact ss_val ha rfl rfl (x_nilCheck rfl) rfl rfl
  | 13, _ =>
   intro val fl w1 a hb ha hd hfl;obtain ⟨hgb, hg0⟩ := hb;have e12 : val 12 = _ := hd 12 (memB_mem.1 rfl);have ha := ha.s1 (d := 16) rfl e12
   exact ss_val ha rfl rfl (fa_118_0 rfl) rfl rfl
  | 14, _ =>
   intro val fl w1 a hb ha hd hfl;obtain ⟨hgb, hg0⟩ := hb;have e13 : val 13 = _ := hd 13 (memB_mem.1 rfl);have ha := ha.s1 (d := 17) rfl e13
   exact ss_val ha rfl rfl (fa_24_1 rfl) rfl rfl
  | 15, _ =>
   intro val fl w1 a hb ha hd hfl;obtain ⟨hgb, hg0⟩ := hb;have e14 : val 14 = _ := hd 14 (memB_mem.1 rfl);have ha := ha.s1 (d := 18) rfl e14;have hq0 := hg0 (hfl 23 (by simp) (memB_mem.1 rfl))
   exact ss_val ha rfl rfl (ld_3 rfl (hq0.cellA (hp.at_ (j := 1) rfl))) rfl rfl
  | 16, _ =>
   intro val fl w1 a hb ha hd hfl;obtain ⟨hgb, hg0⟩ := hb;have ha := ha.s0 (d := 3) rfl
   exact ss_val ha rfl rfl (fa_24_0 rfl) rfl rfl
  | 17, _ =>
   intro val fl w1 a hb ha hd hfl;obtain ⟨hgb, hg0⟩ := hb;have e16 : val 16 = _ := hd 16 (memB_mem.1 rfl);have ha := ha.s1 (d := 20) rfl e16
   exact ss_val ha rfl rfl (ld_3 rfl ((q1.grown hgb (fun h => hne.symm (Option.some.inj h))).at (j := 0) rfl)) rfl rfl
  | 18, _ =>
   intro val fl w1 a hb ha hd hfl;obtain ⟨hgb, hg0⟩ := hb;have e15 : val 15 = _ := hd 15 (memB_mem.1 rfl);have e17 : val 17 = _ := hd 17 (memB_mem.1 rfl);have ha := ha.s2 (d := 21) (e := 19) rfl e17 rfl e15
   exact ss_val ha rfl rfl (x_sub rfl rfl (by first | assumption | exact IntWalk.i64_in _ ⟨by omega, by omega⟩)) rfl rfl
  | 19, _ =>
   intro val fl w1 a hb ha hd hfl;obtain ⟨hgb, hg0⟩ := hb;have e18 : val 18 = _ := hd 18 (memB_mem.1 rfl);have ha := ha.s1 (d := 22) rfl e18
   exact ss_val ha rfl rfl (mm_max rfl rfl rfl) rfl rfl
  | 20, _ =>
   intro val fl w1 a hb ha hd hfl;obtain ⟨hgb, hg0⟩ := hb;have e0 : val 0 = _ := hd 0 (memB_mem.1 rfl);have ha := ha.s1 (d := 4) rfl e0
   exact ss_val ha rfl rfl (x_nilCheck rfl) rfl rfl
  | 21, _ =>
   intro val fl w1 a hb ha hd hfl;obtain ⟨hgb, hg0⟩ := hb;have e20 : val 20 = _ := hd 20 (memB_mem.1 rfl);have ha := ha.s1 (d := 24) rfl e20
   exact ss_val ha rfl rfl (fa_118_0 rfl) rfl rfl
  | 22, _ =>
   intro val fl w1 a hb ha hd hfl;obtain ⟨hgb, hg0⟩ := hb;have e21 : val 21 = _ := hd 21 (memB_mem.1 rfl);have ha := ha.s1 (d := 25) rfl e21
   exact ss_val ha rfl rfl (fa_24_0 rfl) rfl rfl
  | 23, _ =>
   exact absurd (by simp) hs_
  | k + 24, h => exact absurd h (by omega)
 ·simp only [List.mem_singleton] at hi_; subst hi_
  intro val fl w1 a hb hfi ha hd hfl;obtain ⟨hgb, hg0⟩ := hb;have e22 : val 22 = _ := hd 22 (memB_mem.1 rfl);have e10 : val 10 = _ := hd 10 (memB_mem.1 rfl);have ha := ha.s2 (d := 14) (e := 26) rfl e10 rfl e22;refine ts_store ha rfl rfl rfl (hg0 hfi) sz_3 rfl rfl (by rw [lenV_eq, Nat.ble_eq]; omega) rfl ?_
  intro w' hq2 hgr;refine ⟨undef, rfl, hgr.size, ⟨grown_three hgb hgr, fun h => by rw [fset_eq] at h; cases h⟩, hq2, fun j _ hj hn hA => ?_⟩
  exact phiS_cons_st (C := fun j => j ≠ 23 ∧ 23 ∉ clsAt [[], [], [], [2], [2, 3], [2, 3, 4], [2, 3, 4, 5], [], [7], [2, 3, 4, 5, 6, 7, 8], [2, 3, 4, 5, 6, 7, 8, 9], [], [11], [11, 12], [11, 12, 13], [11, 12, 13, 14], [], [16], [11, 12, 13, 14, 15, 16, 17], [11, 12, 13, 14, 15, 16, 17, 18], [0, 2, 3, 4, 5, 6, 7, 8, 9, 10, 11, 12, 13, 14, 15], [0, 2, 3, 4, 5, 6, 7, 8, 9, 10, 11, 12, 13, 14, 15, 20], [0, 2, 3, 4, 5, 6, 7, 8, 9, 10, 11, 12, 13, 14, 15, 20, 21], [0, 2, 3, 4, 5, 6, 7, 8, 9, 10, 11, 12, 13, 14, 15, 20, 21, 22], [0, 1, 2, 3, 4, 5, 6, 7, 8, 9, 10, 11, 12, 13, 14, 15, 16, 17, 18, 19, 20, 21, 22, 23], [0, 1, 2, 3, 4, 5, 6, 7, 8, 9, 10, 11, 12, 13, 14, 15, 16, 17, 18, 19, 20, 21, 22, 23, 24], [0, 1, 2, 3, 4, 5, 6, 7, 8, 9, 10, 11, 12, 13, 14, 15, 16, 17, 18, 19, 20, 21, 22, 23, 24, 25], [0, 1, 2, 3, 4, 5, 6, 7, 8, 9, 10, 11, 12, 13, 14, 15, 16, 17, 18, 19, 20, 21, 22, 23, 24, 25, 26]] j) (fun hc => absurd rfl hc.1) (fun _ _ h => h) j ⟨hj, hn⟩
 ·intro val fl wR1 hfl hb halc hd
  obtain ⟨hgb, _⟩ := hb;have hq2 : Blk wR1 b T (spl l o [.int .i64 (max 0 (x.lo - y.hi))]).toArray := hd 23 (by omega)
  have e0 : val 0 = _ := hd 0 (by omega)
  have e1 : val 1 = _ := hd 1 (by omega)
  have e2 : val 2 = _ := hd 2 (by omega)
  have e3 : val 3 = _ := hd 3 (by omega)
  have e4 : val 4 = _ := hd 4 (by omega)
  have e5 : val 5 = _ := hd 5 (by omega)
  have e6 : val 6 = _ := hd 6 (by omega)
  have e7 : val 7 = _ := hd 7 (by omega)
  have e8 : val 8 = _ := hd 8 (by omega)
  have e9 : val 9 = _ := hd 9 (by omega)
  have e10 : val 10 = _ := hd 10 (by omega)
  have e11 : val 11 = _ := hd 11 (by omega)
  have e12 : val 12 = _ := hd 12 (by omega)
  have e13 : val 13 = _ := hd 13 (by omega)
  have e14 : val 14 = _ := hd 14 (by omega)
  have e15 : val 15 = _ := hd 15 (by omega)
  have e16 : val 16 = _ := hd 16 (by omega)
  have e17 : val 17 = _ := hd 17 (by omega)
  have e18 : val 18 = _ := hd 18 (by omega)
  have e19 : val 19 = _ := hd 19 (by omega)
  have e20 : val 20 = _ := hd 20 (by omega)
  have e21 : val 21 = _ := hd 21 (by omega)
  have e22 : val 22 = _ := hd 22 (by omega)
  refine EL.ends (cs := [_, _, _, _, _, _, _, _, _, _, _, _, _, _, _, _, _, _, _, _, _, _, _, val 23]) ⟨e0, e1, e2, e3, e4, e5, e6, e7, e8, e9, e10, e11, e12, e13, e14, e15, e16, e17, e18, e19, e20, e21, e22, rfl, trivial⟩ rfl ?_;replace q1 := q1.gr hgb hne.symm;replace hgw := grown_three hgw hgb;clear hgb hq;have hq := hq2;clear hq2;refine EL.val (x_nilCheck rfl) rfl (EL.val (fa_118_0 rfl) rfl (EL.val (fa_24_1 rfl) rfl ?_));refine EL.store (l' := [.int .i64 (max 0 (x.hi - y.lo))]) rfl rfl hq sz_3 rfl rfl (by rw [lenV_eq, Nat.ble_eq, spl_len (by simp; omega)]; omega) rfl ?_
  intro w9 hq9 hg9;refine EL.nil ?_;rw [spl_red hp hl] at hq9
  exact EX.done' (res0 rfl) ⟨rfl, hq9, grown_three hgw hg9⟩
abbrev redK (ru : Rules) (k : Nat) : Tr → Tr := fun z => redT z (ru.kinds.getD k kd0).power
theorem part_map {f : Tr → Tr} {t : List Tr} {x : Nat} (h8 : t.length = 8) (hx : x < 8) : PartAt (tkC (mapTo f t x)) (x * 4) (trC (t.getD x tr0)) := by
 have h := tr_at (mapTo f t x) x (by rw [mapTo_len]; omega)
 rw [mapTo_get (by omega)] at h
 exact h
theorem map_8 {f : Tr → Tr} {t : List Tr} {x : Nat} (h8 : t.length = 8) : (tkC (mapTo f t x)).length = 32 := tkC_8 (by rw [mapTo_len]; exact h8)
theorem spl_map {f : Tr → Tr} {t : List Tr} {x : Nat} (y : Tr) (h8 : t.length = 8) (hx : x < 8) : spl (tkC (mapTo f t x)) (x * 4) (trC y) = tkC ((mapTo f t x).set x y) := tr_set _ _ (by rw [mapTo_len]; omega) _
theorem set_8 {t : List Tr} {x : Nat} {y : Tr} (h8 : t.length = 8) : (tkC (t.set x y)).length = 32 := tkC_8 (by rw [List.length_set]; exact h8)
set_option maxHeartbeats 1000000 in
theorem wash_any {ru : Rules} {t : List Tr} {ua up : List Value} {vl va vp vk : Value} {w : World} {B : Nat} (hr : RdRules w B vl va vp vk ru ua up) (hro : RulesOk ru) (ht : TkOk t) {k : Nat} (hk : k < ru.kinds.length) :
  Calls Try.prog 72 #[rulesV vl va vp vk ru, .agg (tkC t).toArray, .int .i64 (k : Nat)] w fun e w' => e = .returned (.agg (tkC (washT ru t k)).toArray) ∧ Below w.heap.size w w' := by
 obtain ⟨Al, cl, Aa, ca, Ap, cp, Ak, ck, rfl, rfl, rfl, rfl⟩ := hr.sh4;obtain ⟨bk, ok, rfl, _, hkd⟩ := kds_cells ru.kinds k hk w B _ _ _ hr.kinds;have hbw := Below.refl w.heap.size w
 unfold rulesV
 refine EC.enter 23 Try.func72 rfl rfl rfl (EC.seq (EC.region (EL.newP (bx_116 rfl) rfl ?_)));intro g1 w1 q1 hb1 hg1 hl1;have bhbw_1 := Nat.le_trans hbw.size hg1;replace hbw := bo_ hbw hb1;clear hb1 hg1 hl1;refine EL.newP (x_boxA rfl) rfl ?_;intro g2 w2 q2 hb2 hg2 hl2;have n1_2 := q1.na hg2;have bhbw_2 := Nat.le_trans hbw.size hg2;replace q1 := q1.bl hb2;replace hbw := bo_ hbw hb2;clear hb2 hg2 hl2;refine EL.newP al_tank rfl ?_;intro g3 w3 q3 hb3 hg3 hl3;have n1_3 := q1.na hg3;have n2_3 := q2.na hg3;have bhbw_3 := Nat.le_trans hbw.size hg3;replace q1 := q1.bl hb3;replace q2 := q2.bl hb3;replace hbw := bo_ hbw hb3;clear hb3 hg3 hl3;refine EL.nil (EX.seq (EC.seq (EC.seq (EC.region (EL.mv rfl rfl (EL.nil (EX.seq (EC.block ?_))))))));refine EC.loopD [7, 8, 9, 10, 11, 12, 13, 14, 15, 16, 17, 18, 19, 20, 21] (fun x : Nat => [(8, .int .i64 (x : Nat))]) (fun x W => x ≤ 8 ∧ Blk W g1 116 #[.slice Al ru.levels.length cl, .int .i64 ru.fade.lo, .int .i64 ru.fade.hi, .slice Aa ru.allow.length ca, .slice Ap ru.apart.length cp, .slice (some ⟨bk, ok, none⟩) ru.kinds.length ck] ∧ Blk W g2 120 (tkC (mapTo (redK ru k) t x)).toArray ∧ Blk W g3 120 (tkC tank0).toArray ∧ Below w.heap.size w W) (fun x => 8 - x) 0 ⟨Nat.zero_le _, q1, by rw [mapTo_zero]; exact q2, q3, hbw⟩ ⟨rfl, trivial⟩ ?_
 clear q1 q2 q3 hbw
 rintro x wx ⟨hx, q1, q2, q3, hbw⟩
 by_cases hlt : x < 8
 ·
  refine EC.seq (EC.region ?_);refine EL.val (x_lss rfl rfl (decide_eq_true (show ((x : Nat) : Int) < 8 by omega))) rfl ?_
  refine EL.nil (EX.seq (EC.seq (EC.yes rfl (EC.skip (EX.seq (EC.seq (EC.block (EC.seq (EC.region ?_)))))))));refine EL.mv rfl rfl (EL.as rfl rfl (EL.nil (EX.seq ?_)));have lt_1 := q1.lt;have lt_2 := q2.lt;have lt_3 := q3.lt;refine EC.regionP [[], [0], [], [2], [2, 3], [], [2, 3, 4, 5], [2, 3, 4, 5, 6], [2, 3, 4, 5, 6, 7], [0, 1, 2, 3, 4, 5, 6, 7, 8]] 9 [] (phi (fun i_ r => match i_ with | 0 => r 0 = .int .i64 (x : Nat) | 1 => r 1 = .pointer (some ⟨g2, 0 + x * 4, none⟩) | 2 => r 2 = .pointer (some ⟨g1, 0, none⟩) | 3 => r 3 = .pointer (some ⟨g1, 5, none⟩) | 4 => r 4 = .slice (some ⟨bk, ok, none⟩) ru.kinds.length ck | 5 => r 5 = .int .i64 (k : Nat) | 6 => r 6 = .pointer (some ⟨bk, ok + k * 5, none⟩) | 7 => r 7 = .pointer (some ⟨bk, ok + k * 5, none⟩) | 8 => r 8 = .agg #[.int .i64 (ru.kinds.getD k kd0).power.lo, .int .i64 (ru.kinds.getD k kd0).power.hi] | _ => True) []) (by kernel_rfl) rfl rfl (phi_nil) (fun i_ hi_ => ?_) ?_
  ·match i_, hi_ with
   | 0, _ =>
    intro val w1 a hb ha hd;have ha := ha.s0 (d := 7) rfl
    exact hs_val ha rfl rfl (x_move rfl) rfl rfl
   | 1, _ =>
    intro val w1 a hb ha hd;have e0 : val 0 = _ := hd 0 (memB_mem.1 rfl);have ha := ha.sub (Sub.ins (d := 11) (Sub.ins (d := 4) (Sub.nil _) rfl) (dep_get rfl e0))
    exact hs_val ha rfl rfl (ixa_120 rfl rfl hlt) rfl rfl
   | 2, _ =>
    intro val w1 a hb ha hd;have ha := ha.s0 (d := 3) rfl
    exact hs_val ha rfl rfl (fa_116_0 rfl) rfl rfl
   | 3, _ =>
    intro val w1 a hb ha hd;have e2 : val 2 = _ := hd 2 (memB_mem.1 rfl);have ha := ha.s1 (d := 13) rfl e2
    exact hs_val ha rfl rfl (fa_28_4 rfl) rfl rfl
   | 4, _ =>
    intro val w1 a hb ha hd;have e3 : val 3 = _ := hd 3 (memB_mem.1 rfl);have ha := ha.s1 (d := 14) rfl e3
    exact hs_val ha rfl rfl (ld_26 rfl ((q1.below hb q1.lt).at (j := 5) rfl)) rfl rfl
   | 5, _ =>
    intro val w1 a hb ha hd;have ha := ha.s0 (d := 2) rfl
    exact hs_val ha rfl rfl (x_move rfl) rfl rfl
   | 6, _ =>
    intro val w1 a hb ha hd;have e4 : val 4 = _ := hd 4 (memB_mem.1 rfl);have e5 : val 5 = _ := hd 5 (memB_mem.1 rfl);have ha := ha.s2 (d := 16) (e := 15) rfl e5 rfl e4
    exact hs_val ha rfl rfl (ix_26 rfl rfl hk) rfl rfl
   | 7, _ =>
    intro val w1 a hb ha hd;have e6 : val 6 = _ := hd 6 (memB_mem.1 rfl);have ha := ha.s1 (d := 17) rfl e6
    exact hs_val ha rfl rfl (fa_52_0 rfl) rfl rfl
   | 8, _ =>
    intro val w1 a hb ha hd;have e7 : val 7 = _ := hd 7 (memB_mem.1 rfl);have ha := ha.s1 (d := 18) rfl e7
    exact hs_val ha rfl rfl (ld_24 rfl (below_load hb (below_load hbw hkd.c0)) (below_load hb (below_load hbw hkd.c1))) rfl rfl
   | k + 9, h => exact absurd h (by omega)
  ·intro val wR4 hb halc hd
   have e0 : val 0 = _ := hd 0 (by omega)
   have e1 : val 1 = _ := hd 1 (by omega)
   have e2 : val 2 = _ := hd 2 (by omega)
   have e3 : val 3 = _ := hd 3 (by omega)
   have e4 : val 4 = _ := hd 4 (by omega)
   have e5 : val 5 = _ := hd 5 (by omega)
   have e6 : val 6 = _ := hd 6 (by omega)
   have e7 : val 7 = _ := hd 7 (by omega)
   have e8 : val 8 = _ := hd 8 (by omega)
   refine EL.ends (cs := [_, _, _, _, _, _, _, _, _]) ⟨e0, e1, e2, e3, e4, e5, e6, e7, e8, trivial⟩ rfl ?_;replace q1 := q1.bl hb;replace q2 := q2.bl hb;replace q3 := q3.bl hb;replace hbw := bo_ hbw hb;clear hb;refine EL.call (cA2 cF90 rfl rfl) rfl (reduce_any q2 (by rw [Nat.zero_add]; exact part_map ht.n8 hlt) (by rw [map_8 ht.n8]; omega) (ht.at_ x) (kd_pow hro k)) ?_
   rintro e w4 ⟨rfl, hq4, hg4⟩
   refine ⟨_, rfl, ?_⟩;rw [Nat.zero_add, spl_map _ ht.n8 hlt] at hq4;have hs4 : (mapTo (redK ru k) t x).set x (redT (t.getD x tr0) (ru.kinds.getD k kd0).power) = mapTo (redK ru k) t (x + 1) := mapTo_set (by rw [ht.n8]; exact hlt)
   rw [hs4] at hq4;replace q1 := q1.gr hg4 n1_2;replace q3 := q3.gr hg4 n2_3.symm;replace hbw := below_store hbw hg4 bhbw_2;replace q2 := hq4;clear hg4 hq4;refine EL.nil (EX.blk (EX.seq (EC.region ?_)));refine EL.val (x_add rfl rfl (c := ((x + 1 : Nat) : Int)) ((IntWalk.i64_in _ ⟨by first | omega | (simp only; omega), by first | omega | (simp only; omega)⟩).trans (by first | omega | (simp only; omega)))) rfl ?_
   refine EL.mv rfl rfl (EL.nil ?_);refine EX.roundD (x + 1) ⟨rfl, trivial⟩ (by repeat first | with_reducible exact .refl _ | refine sp_ rfl ?_ | exact .refl _ | refine sd_ rfl ?_ | refine sn_ ?_) ⟨hlt, q1, q2, q3, hbw⟩ (by omega)
 ·
  have hx8 : x = 8 := by omega
  subst hx8;rw [mapTo_all ht.n8.symm] at q2;refine EC.seq (EC.region ?_);refine EL.val (x_lss rfl rfl (decide_eq_false (show ¬(((8 : Nat) : Int) < 8) by omega))) rfl ?_
  refine EL.nil (EX.seq (EC.seq (EC.no rfl (EC.exit (EX.seq_exit (EX.seq_exit (EX.blk_here (EX.seq (EC.seq ?_)))))))));refine EC.region ?_;refine EL.val (x_loadA rfl (q2.range (PartAt.whole _)) Try.underlying120 rfl (sz_120.trans (congrArg some (tkC_8 (by rw [List.length_map]; exact ht.n8)).symm))) rfl ?_
  refine EL.store (l' := (tkC (t.map (redK ru k)))) rfl rfl q3 sz_120 rfl ((lenV_eq _).trans (tkC_8 (by rw [List.length_map]; exact ht.n8))) (by rw [lenV_eq, Nat.ble_eq]; exact Nat.le_of_eq ((tkC_8 tank0_ok.n8).symm)) (tkC_one _) ?_
  intro w5 hq5 hg5;rw [spl_whole ((tkC_8 (by rw [List.length_map]; exact ht.n8)).trans (tkC_8 tank0_ok.n8).symm)] at hq5
  replace q1 := q1.gr hg5 n1_3;replace q2 := q2.gr hg5 n2_3;replace hbw := below_store hbw hg5 bhbw_3;replace q3 := hq5;clear hg5 hq5;refine EL.nil (EX.seq (EC.ret ?_))
  exact EX.done (resc1 rfl rfl (run_loadVar_mid _ _ 0 120 _ _ (q3.range (PartAt.whole _)) Try.underlying120 rfl (sz_120.trans (congrArg some (tkC_8 (by rw [List.length_map]; exact ht.n8)).symm)))) ⟨rfl, hbw⟩
set_option maxHeartbeats 1000000 in
theorem load_any {ru : Rules} {t : List Tr} {ua up : List Value} {vl va vp vk : Value} {w : World} {B : Nat} (hr : RdRules w B vl va vp vk ru ua up) (hro : RulesOk ru) (ht : TkOk t) {k : Nat} (hk : k < ru.levels.length) :
  Calls Try.prog 73 #[rulesV vl va vp vk ru, .agg (tkC t).toArray, .int .i64 (k : Nat)] w fun e w' => e = .returned (.agg (tkC (loadT ru t k)).toArray) ∧ Below w.heap.size w w' := by
 obtain ⟨Al, cl, Aa, ca, Ap, cp, Ak, ck, rfl, rfl, rfl, rfl⟩ := hr.sh4;obtain ⟨bl, ol, rfl, _, hlev⟩ := ints_cells ru.levels k hk w B _ _ _ hr.levels;have hbw := Below.refl w.heap.size w
 unfold rulesV
 refine EC.enter 44 Try.func73 rfl rfl rfl (EC.seq (EC.region (EL.newP (bx_116 rfl) rfl ?_)));intro g1 w1 q1 hb1 hg1 hl1;have bhbw_1 := Nat.le_trans hbw.size hg1;replace hbw := bo_ hbw hb1;clear hb1 hg1 hl1;refine EL.newP (x_boxA rfl) rfl ?_;intro g2 w2 q2 hb2 hg2 hl2;have n1_2 := q1.na hg2;have bhbw_2 := Nat.le_trans hbw.size hg2;replace q1 := q1.bl hb2;replace hbw := bo_ hbw hb2;clear hb2 hg2 hl2;refine EL.newP al_tank rfl ?_;intro g3 w3 q3 hb3 hg3 hl3;have n1_3 := q1.na hg3;have n2_3 := q2.na hg3;have bhbw_3 := Nat.le_trans hbw.size hg3;replace q1 := q1.bl hb3;replace q2 := q2.bl hb3;replace hbw := bo_ hbw hb3;clear hb3 hg3 hl3;refine EL.nil (EX.seq (EC.seq (EC.seq (EC.region (EL.mv rfl rfl (EL.nil (EX.seq (EC.block ?_))))))));refine EC.loopD [7, 8, 9, 10, 11, 12, 13, 14, 15, 16, 17, 18, 19, 20, 21, 22, 23, 24, 25, 26] (fun x : Nat => [(8, .int .i64 (x : Nat))]) (fun x W => x ≤ 8 ∧ Blk W g1 116 #[.slice (some ⟨bl, ol, none⟩) ru.levels.length cl, .int .i64 ru.fade.lo, .int .i64 ru.fade.hi, .slice Aa ru.allow.length ca, .slice Ap ru.apart.length cp, .slice Ak ru.kinds.length ck] ∧ Blk W g2 120 (tkC (mapTo (fadeT ru) t x)).toArray ∧ Blk W g3 120 (tkC tank0).toArray ∧ Below w.heap.size w W) (fun x => 8 - x) 0 ⟨Nat.zero_le _, q1, by rw [mapTo_zero]; exact q2, q3, hbw⟩ ⟨rfl, trivial⟩ ?_
 clear q1 q2 q3 hbw
 rintro x wx ⟨hx, q1, q2, q3, hbw⟩
 by_cases hlt : x < 8
 ·
  refine EC.seq (EC.region ?_);refine EL.val (x_lss rfl rfl (decide_eq_true (show ((x : Nat) : Int) < 8 by omega))) rfl ?_
  refine EL.nil (EX.seq (EC.seq (EC.yes rfl (EC.skip (EX.seq (EC.seq (EC.block (EC.seq (EC.region ?_)))))))));refine EL.mv rfl rfl (EL.as rfl rfl (EL.nil (EX.seq (EC.seq ?_))));have lt_1 := q1.lt;have lt_2 := q2.lt;have lt_3 := q3.lt;refine EC.regionP [[], [0], [], [2], [2, 3], [0, 1, 2, 3, 4]] 5 [] (phi (fun i_ r => match i_ with | 0 => r 0 = .int .i64 (x : Nat) | 1 => r 1 = .pointer (some ⟨g2, 0 + x * 4, none⟩) | 2 => r 2 = .pointer (some ⟨g1, 0, none⟩) | 3 => r 3 = .pointer (some ⟨g1, 1, none⟩) | 4 => r 4 = .agg #[.int .i64 ru.fade.lo, .int .i64 ru.fade.hi] | _ => True) []) (by kernel_rfl) rfl rfl (phi_nil) (fun i_ hi_ => ?_) ?_
  ·match i_, hi_ with
   | 0, _ =>
    intro val w1 a hb ha hd;have ha := ha.s0 (d := 7) rfl
    exact hs_val ha rfl rfl (x_move rfl) rfl rfl
   | 1, _ =>
    intro val w1 a hb ha hd;have e0 : val 0 = _ := hd 0 (memB_mem.1 rfl);have ha := ha.sub (Sub.ins (d := 11) (Sub.ins (d := 4) (Sub.nil _) rfl) (dep_get rfl e0))
    exact hs_val ha rfl rfl (ixa_120 rfl rfl hlt) rfl rfl
   | 2, _ =>
    intro val w1 a hb ha hd;have ha := ha.s0 (d := 3) rfl
    exact hs_val ha rfl rfl (fa_116_0 rfl) rfl rfl
   | 3, _ =>
    intro val w1 a hb ha hd;have e2 : val 2 = _ := hd 2 (memB_mem.1 rfl);have ha := ha.s1 (d := 13) rfl e2
    exact hs_val ha rfl rfl (fa_28_1 rfl) rfl rfl
   | 4, _ =>
    intro val w1 a hb ha hd;have e3 : val 3 = _ := hd 3 (memB_mem.1 rfl);have ha := ha.s1 (d := 14) rfl e3
    exact hs_val ha rfl rfl (ld_24 rfl ((q1.below hb q1.lt).at (j := 1) rfl) ((q1.below hb q1.lt).at (j := 2) rfl)) rfl rfl
   | k + 5, h => exact absurd h (by omega)
  ·intro val wR4 hb halc hd
   have e0 : val 0 = _ := hd 0 (by omega)
   have e1 : val 1 = _ := hd 1 (by omega)
   have e2 : val 2 = _ := hd 2 (by omega)
   have e3 : val 3 = _ := hd 3 (by omega)
   have e4 : val 4 = _ := hd 4 (by omega)
   refine EL.ends (cs := [_, _, _, _, _]) ⟨e0, e1, e2, e3, e4, trivial⟩ rfl ?_;replace q1 := q1.bl hb;replace q2 := q2.bl hb;replace q3 := q3.bl hb;replace hbw := bo_ hbw hb;clear hb;refine EL.call (cA2 cF90 rfl rfl) rfl (reduce_any q2 (by rw [Nat.zero_add]; exact part_map ht.n8 hlt) (by rw [map_8 ht.n8]; omega) (ht.at_ x) hro.fade) ?_
   rintro e w4 ⟨rfl, hq4, hg4⟩
   refine ⟨_, rfl, ?_⟩;rw [Nat.zero_add, spl_map _ ht.n8 hlt] at hq4;replace q1 := q1.gr hg4 n1_2;replace q3 := q3.gr hg4 n2_3.symm;replace hbw := below_store hbw hg4 bhbw_2;replace q2 := hq4;clear hg4 hq4;refine EL.nil (EX.seq (EC.region (EL.mv rfl rfl (EL.mv rfl rfl (EL.val (ixa_120 rfl rfl hlt) rfl (EL.val (fa_118_2 rfl) rfl ?_))))));have hp2 := tr_at ((mapTo (fadeT ru) t x).set x (redT (t.getD x tr0) ru.fade)) x (by rw [List.length_set, mapTo_len, ht.n8]; exact hlt)
   rw [getD_setR (by rw [mapTo_len, ht.n8]; exact hlt), if_pos rfl] at hp2
   obtain ⟨_, _, _, _, af0, af1⟩ := ht.at_ x;refine EL.val (ld_3 rfl (q2.cellA (by rw [Nat.zero_add]; exact hp2.at_ (j := 3) rfl))) rfl ?_
   refine EL.val (x_add rfl rfl (c := (t.getD x tr0).after + 1) (IntWalk.i64_in _ ⟨by show _ ≤ (t.getD x tr0).after + 1; omega, by show (t.getD x tr0).after + 1 ≤ _; omega⟩)) rfl ?_
   refine EL.val (mm_min rfl rfl rfl) rfl (EL.val (ixa_120 rfl rfl hlt) rfl (EL.val (fa_118_2 rfl) rfl ?_));refine EL.store (l' := [.int .i64 (min ((t.getD x tr0).after + 1) 10)]) rfl rfl q2 sz_3 rfl rfl (by rw [lenV_eq, Nat.ble_eq, set_8 (by rw [mapTo_len]; exact ht.n8)]; omega) rfl ?_
   intro w5 hq5 hg5;rw [Nat.zero_add, spl_aft hp2 (by rw [set_8 (by rw [mapTo_len]; exact ht.n8)]; omega), tr_set _ _ (by rw [List.length_set, mapTo_len, ht.n8]; exact hlt), List.set_set] at hq5
   have hs5 : (mapTo (fadeT ru) t x).set x ⟨(redT (t.getD x tr0) ru.fade).lo, (redT (t.getD x tr0) ru.fade).hi, (redT (t.getD x tr0) ru.fade).carried, (min ((t.getD x tr0).after + 1) 10)⟩ = mapTo (fadeT ru) t (x + 1) := mapTo_set (f := fadeT ru) (d := tr0) (by rw [ht.n8]; exact hlt)
   rw [hs5] at hq5;replace q1 := q1.gr hg5 n1_2;replace q3 := q3.gr hg5 n2_3.symm;replace hbw := below_store hbw hg5 bhbw_2;replace q2 := hq5;clear hg5 hq5;refine EL.nil (EX.blk (EX.seq (EC.region ?_)));refine EL.val (x_add rfl rfl (c := ((x + 1 : Nat) : Int)) ((IntWalk.i64_in _ ⟨by first | omega | (simp only; omega), by first | omega | (simp only; omega)⟩).trans (by first | omega | (simp only; omega)))) rfl ?_
   refine EL.mv rfl rfl (EL.nil ?_);refine EX.roundD (x + 1) ⟨rfl, trivial⟩ (by repeat first | with_reducible exact .refl _ | refine sp_ rfl ?_ | exact .refl _ | refine sd_ rfl ?_ | refine sn_ ?_) ⟨hlt, q1, q2, q3, hbw⟩ (by omega)
 ·
  have hx8 : x = 8 := by omega
  subst hx8;rw [mapTo_all ht.n8.symm] at q2;refine EC.seq (EC.region ?_);refine EL.val (x_lss rfl rfl (decide_eq_false (show ¬(((8 : Nat) : Int) < 8) by omega))) rfl ?_
  refine EL.nil (EX.seq (EC.seq (EC.no rfl (EC.exit (EX.seq_exit (EX.seq_exit (EX.blk_here (EX.seq (EC.seq ?_)))))))));have lt_1 := q1.lt;have lt_2 := q2.lt;have lt_3 := q3.lt;refine EC.regionP [[], [], [1], [1, 2], [], [1, 2, 3, 4], [1, 2, 3, 4, 5], [], [7], [7, 8], [], [7, 8, 9, 10], [7, 8, 9, 10, 11], [1, 2, 3, 4, 5, 6, 7, 8, 9, 10, 11, 12], [1, 2, 3, 4, 5, 6, 7, 8, 9, 10, 11, 12, 13], [0, 1, 2, 3, 4, 5, 6, 7, 8, 9, 10, 11, 12, 13, 14], [0, 1, 2, 3, 4, 5, 6, 7, 8, 9, 10, 11, 12, 13, 14, 15]] 15 [] (phi (fun i_ r => match i_ with | 0 => r 0 = .int .i64 (k : Nat) | 1 => r 1 = .pointer (some ⟨g1, 0, none⟩) | 2 => r 2 = .pointer (some ⟨g1, 0, none⟩) | 3 => r 3 = .slice (some ⟨bl, ol, none⟩) ru.levels.length cl | 4 => r 4 = .int .i64 (k : Nat) | 5 => r 5 = .pointer (some ⟨bl, ol + k, none⟩) | 6 => r 6 = .int .i64 (ru.levels.getD k 0) | 7 => r 7 = .pointer (some ⟨g1, 0, none⟩) | 8 => r 8 = .pointer (some ⟨g1, 0, none⟩) | 9 => r 9 = .slice (some ⟨bl, ol, none⟩) ru.levels.length cl | 10 => r 10 = .int .i64 (k : Nat) | 11 => r 11 = .pointer (some ⟨bl, ol + k, none⟩) | 12 => r 12 = .int .i64 (ru.levels.getD k 0) | 13 => r 13 = .agg #[.int .i64 (ru.levels.getD k 0), .int .i64 (ru.levels.getD k 0)] | 14 => r 14 = .agg #[.int .i64 (ru.levels.getD k 0), .int .i64 (ru.levels.getD k 0), .bool true, .int .i64 0] | _ => True) []) (by kernel_rfl) rfl rfl (phi_nil) (fun i_ hi_ => ?_) ?_
  ·match i_, hi_ with
   | 0, _ =>
    intro val w1 a hb ha hd;have ha := ha.s0 (d := 2) rfl
    exact hs_val ha rfl rfl (x_move rfl) rfl rfl
   | 1, _ =>
    intro val w1 a hb ha hd;have ha := ha.s0 (d := 3) rfl
    exact hs_val ha rfl rfl (fa_116_0 rfl) rfl rfl
   | 2, _ =>
    intro val w1 a hb ha hd;have e1 : val 1 = _ := hd 1 (memB_mem.1 rfl);have ha := ha.s1 (d := 28) rfl e1
    exact hs_val ha rfl rfl (fa_28_0 rfl) rfl rfl
   | 3, _ =>
    intro val w1 a hb ha hd;have e2 : val 2 = _ := hd 2 (memB_mem.1 rfl);have ha := ha.s1 (d := 29) rfl e2
    exact hs_val ha rfl rfl (ld_22 rfl ((q1.below hb q1.lt).at (j := 0) rfl)) rfl rfl
   | 4, _ =>
    intro val w1 a hb ha hd;have ha := ha.s0 (d := 2) rfl
    exact hs_val ha rfl rfl (x_move rfl) rfl rfl
   | 5, _ =>
    intro val w1 a hb ha hd;have e3 : val 3 = _ := hd 3 (memB_mem.1 rfl);have e4 : val 4 = _ := hd 4 (memB_mem.1 rfl);have ha := ha.s2 (d := 31) (e := 30) rfl e4 rfl e3
    exact hs_val ha rfl rfl (ix_22 rfl rfl hk) rfl rfl
   | 6, _ =>
    intro val w1 a hb ha hd;have e5 : val 5 = _ := hd 5 (memB_mem.1 rfl);have ha := ha.s1 (d := 32) rfl e5
    exact hs_val ha rfl rfl (ld_3 rfl (below_load hb (below_load hbw hlev))) rfl rfl
   | 7, _ =>
    intro val w1 a hb ha hd;have ha := ha.s0 (d := 3) rfl
    exact hs_val ha rfl rfl (fa_116_0 rfl) rfl rfl
   | 8, _ =>
    intro val w1 a hb ha hd;have e7 : val 7 = _ := hd 7 (memB_mem.1 rfl);have ha := ha.s1 (d := 34) rfl e7
    exact hs_val ha rfl rfl (fa_28_0 rfl) rfl rfl
   | 9, _ =>
    intro val w1 a hb ha hd;have e8 : val 8 = _ := hd 8 (memB_mem.1 rfl);have ha := ha.s1 (d := 35) rfl e8
    exact hs_val ha rfl rfl (ld_22 rfl ((q1.below hb q1.lt).at (j := 0) rfl)) rfl rfl
   | 10, _ =>
    intro val w1 a hb ha hd;have ha := ha.s0 (d := 2) rfl
    exact hs_val ha rfl rfl (x_move rfl) rfl rfl
   | 11, _ =>
    intro val w1 a hb ha hd;have e9 : val 9 = _ := hd 9 (memB_mem.1 rfl);have e10 : val 10 = _ := hd 10 (memB_mem.1 rfl);have ha := ha.s2 (d := 37) (e := 36) rfl e10 rfl e9
    exact hs_val ha rfl rfl (ix_22 rfl rfl hk) rfl rfl
   | 12, _ =>
    intro val w1 a hb ha hd;have e11 : val 11 = _ := hd 11 (memB_mem.1 rfl);have ha := ha.s1 (d := 38) rfl e11
    exact hs_val ha rfl rfl (ld_3 rfl (below_load hb (below_load hbw hlev))) rfl rfl
   | 13, _ =>
    intro val w1 a hb ha hd;have e6 : val 6 = _ := hd 6 (memB_mem.1 rfl);have e12 : val 12 = _ := hd 12 (memB_mem.1 rfl);have ha := ha.s2 (d := 39) (e := 33) rfl e12 rfl e6
    exact hs_val ha rfl rfl (bd_24_0_1 rfl rfl) rfl rfl
   | 14, _ =>
    intro val w1 a hb ha hd;have e13 : val 13 = _ := hd 13 (memB_mem.1 rfl);have ha := ha.s1 (d := 40) rfl e13
    exact hs_val ha rfl rfl (bd_118_0_1_2 rfl rfl rfl) rfl rfl
   | k + 15, h => exact absurd h (by omega)
  ·intro val wR7 hb halc hd
   have e0 : val 0 = _ := hd 0 (by omega)
   have e1 : val 1 = _ := hd 1 (by omega)
   have e2 : val 2 = _ := hd 2 (by omega)
   have e3 : val 3 = _ := hd 3 (by omega)
   have e4 : val 4 = _ := hd 4 (by omega)
   have e5 : val 5 = _ := hd 5 (by omega)
   have e6 : val 6 = _ := hd 6 (by omega)
   have e7 : val 7 = _ := hd 7 (by omega)
   have e8 : val 8 = _ := hd 8 (by omega)
   have e9 : val 9 = _ := hd 9 (by omega)
   have e10 : val 10 = _ := hd 10 (by omega)
   have e11 : val 11 = _ := hd 11 (by omega)
   have e12 : val 12 = _ := hd 12 (by omega)
   have e13 : val 13 = _ := hd 13 (by omega)
   have e14 : val 14 = _ := hd 14 (by omega)
   refine EL.ends (cs := [_, _, _, _, _, _, _, _, _, _, _, _, _, _, _]) ⟨e0, e1, e2, e3, e4, e5, e6, e7, e8, e9, e10, e11, e12, e13, e14, trivial⟩ rfl ?_;replace q1 := q1.bl hb;replace q2 := q2.bl hb;replace q3 := q3.bl hb;replace hbw := bo_ hbw hb;clear hb;refine EL.val (ixa_120 rfl rfl (Nat.lt_of_lt_of_le hk hro.n8)) rfl ?_;refine EL.store (l' := trC ⟨ru.levels.getD k 0, ru.levels.getD k 0, true, 0⟩) rfl rfl q2 sz_118 rfl rfl (by rw [lenV_eq, Nat.ble_eq, tkC_8 (by rw [List.length_map]; exact ht.n8)]; have := hro.n8; omega) rfl ?_
   intro w6 hq6 hg6;rw [Nat.zero_add, tr_set _ _ (by rw [List.length_map, ht.n8]; exact Nat.lt_of_lt_of_le hk hro.n8)] at hq6
   change Blk w6 g2 120 (tkC (loadT ru t k)).toArray at hq6;replace q1 := q1.gr hg6 n1_2;replace q3 := q3.gr hg6 n2_3.symm;replace hbw := below_store hbw hg6 bhbw_2;replace q2 := hq6;clear hg6 hq6;refine EL.nil (EX.seq (EC.seq (EC.region (EL.val (x_loadA rfl (q2.range (PartAt.whole _)) Try.underlying120 rfl (sz_120.trans (congrArg some (tkC_8 (loadT_len.trans ht.n8)).symm))) rfl ?_))));refine EL.store (l' := (tkC (loadT ru t k))) rfl rfl q3 sz_120 rfl ((lenV_eq _).trans (tkC_8 (loadT_len.trans ht.n8))) (by rw [lenV_eq, Nat.ble_eq]; exact Nat.le_of_eq ((tkC_8 tank0_ok.n8).symm)) (tkC_one _) ?_
   intro w7 hq7 hg7;rw [spl_whole ((tkC_8 (loadT_len.trans ht.n8)).trans (tkC_8 tank0_ok.n8).symm)] at hq7;replace q1 := q1.gr hg7 n1_3;replace q2 := q2.gr hg7 n2_3;replace hbw := below_store hbw hg7 bhbw_3;replace q3 := hq7;clear hg7 hq7;refine EL.nil (EX.seq (EC.ret ?_))
   exact EX.done (resc1 rfl rfl (run_loadVar_mid _ _ 0 120 _ _ (q3.range (PartAt.whole _)) Try.underlying120 rfl (sz_120.trans (congrArg some (tkC_8 (loadT_len.trans ht.n8)).symm)))) ⟨rfl, hbw⟩
section
variable {n : Nat} {σ : Sg} {w : World} {dst : Option Tmp} {ty : TypeId} {pos : String} {af : Array Edge} {g : Option (Nat × Bool)} {x y z : Operand} {at' : Array TypeId}
theorem al_116 (a : Act) (_ : Env n σ a) : (execOp a.eval ⟨dst, .alloc 116, ty, pos, af, g⟩).run Try.prog w = .ok (.value (.pointer (some ⟨w.heap.size, 0, none⟩))) (w.alloc (.cells #[.slice none 0 0, .int .i64 0, .int .i64 0, .slice none 0 0, .slice none 0 0, .slice none 0 0] 116)) := by
 simp only [execOp]
 simp [go_sem]
theorem ld_28 {b o : Nat} {v0 v1 v2 v3 v4 v5 : Value} (hx : evS σ x = some (.pointer (some ⟨b, o, none⟩))) (c0 : w.cell? ⟨b, o, none⟩ = some v0) (c1 : w.cell? ⟨b, o + 1, none⟩ = some v1) (c2 : w.cell? ⟨b, o + 2, none⟩ = some v2) (c3 : w.cell? ⟨b, o + 3, none⟩ = some v3) (c4 : w.cell? ⟨b, o + 4, none⟩ = some v4) (c5 : w.cell? ⟨b, o + 5, none⟩ = some v5) : Gives Try.prog n σ w ⟨dst, .load 28 x, ty, pos, af, g⟩ (.agg #[v0, v1, v2, v3, v4, v5]) := fun a ha => by
 simp only [execOp, ha.eval hx]
 simp [go_sem, c0, c1, c2, c3, c4, c5]
theorem bd_116_0 {x0 : Operand} {v0_0 : Value} {v0_1 : Value} {v0_2 : Value} {v0_3 : Value} {v0_4 : Value} {v0_5 : Value} (h0 : evS σ x0 = some (.agg #[v0_0, v0_1, v0_2, v0_3, v0_4, v0_5])) : Gives Try.prog n σ w ⟨dst, .build 116 #[(0, x0)], ty, pos, af, g⟩ (.agg #[v0_0, v0_1, v0_2, v0_3, v0_4, v0_5]) := fun a ha => by
 simp only [execOp, List.map_toArray, List.map_cons, List.map_nil, ha.eval h0]
 go_simp
theorem cF32 : cF 32 := fun _ _ => by simp [go_sem]
theorem sz_116 : (Try.prog.info? 116).map (·.size) = some 6 := by kernel_rfl
theorem lv_116 {b o : Nat} {v0 v1 v2 v3 v4 v5 : Value} (c0 : w.cell? ⟨b, o, none⟩ = some v0) (c1 : w.cell? ⟨b, o + 1, none⟩ = some v1) (c2 : w.cell? ⟨b, o + 2, none⟩ = some v2) (c3 : w.cell? ⟨b, o + 3, none⟩ = some v3) (c4 : w.cell? ⟨b, o + 4, none⟩ = some v4) (c5 : w.cell? ⟨b, o + 5, none⟩ = some v5) : (loadVar 116 ⟨b, o, none⟩).run Try.prog w = .ok (.agg #[v0, v1, v2, v3, v4, v5]) w := by
 simp [go_sem, loadVar, c0, c1, c2, c3, c4, c5]
theorem bx_50 {v0 v1 : Value} (hx : evS σ x = some (.agg #[v0, v1])) (a : Act) (ha : Env n σ a) : (execOp a.eval ⟨dst, .box 50 x, ty, pos, af, g⟩).run Try.prog w = .ok (.value (.pointer (some ⟨w.heap.size, 0, none⟩))) (w.alloc (.cells #[v0, v1] 50)) := by
 simp only [execOp, ha.eval hx]
 simp [go_sem]
theorem fa_50_0 {b o : Nat} (hx : evS σ x = some (.pointer (some ⟨b, o, none⟩))) : Gives Try.prog n σ w ⟨dst, .fieldAddr 50 x 0, ty, pos, af, g⟩ (.pointer (some ⟨b, o, none⟩)) := fun a ha => by
 simp only [execOp, ha.eval hx]
 simp [go_sem]
theorem ld_48 {b o : Nat} {v0 : Value} (hx : evS σ x = some (.pointer (some ⟨b, o, none⟩))) (c0 : w.cell? ⟨b, o, none⟩ = some v0) : Gives Try.prog n σ w ⟨dst, .load 48 x, ty, pos, af, g⟩ (v0) := fun a ha => by
 simp only [execOp, ha.eval hx]
 simp [go_sem, c0]
theorem fa_50_1 {b o : Nat} (hx : evS σ x = some (.pointer (some ⟨b, o, none⟩))) : Gives Try.prog n σ w ⟨dst, .fieldAddr 50 x 1, ty, pos, af, g⟩ (.pointer (some ⟨b, o + 1, none⟩)) := fun a ha => by
 simp only [execOp, ha.eval hx]
 simp [go_sem]
theorem ld_116 {b o : Nat} {v0 v1 v2 v3 v4 v5 : Value} (hx : evS σ x = some (.pointer (some ⟨b, o, none⟩))) (c0 : w.cell? ⟨b, o, none⟩ = some v0) (c1 : w.cell? ⟨b, o + 1, none⟩ = some v1) (c2 : w.cell? ⟨b, o + 2, none⟩ = some v2) (c3 : w.cell? ⟨b, o + 3, none⟩ = some v3) (c4 : w.cell? ⟨b, o + 4, none⟩ = some v4) (c5 : w.cell? ⟨b, o + 5, none⟩ = some v5) : Gives Try.prog n σ w ⟨dst, .load 116 x, ty, pos, af, g⟩ (.agg #[v0, v1, v2, v3, v4, v5]) := fun a ha => by
 simp only [execOp, ha.eval hx]
 simp [go_sem, c0, c1, c2, c3, c4, c5]
theorem ld_50 {b o : Nat} {v0 v1 : Value} (hx : evS σ x = some (.pointer (some ⟨b, o, none⟩))) (c0 : w.cell? ⟨b, o, none⟩ = some v0) (c1 : w.cell? ⟨b, o + 1, none⟩ = some v1) : Gives Try.prog n σ w ⟨dst, .load 50 x, ty, pos, af, g⟩ (.agg #[v0, v1]) := fun a ha => by
 simp only [execOp, ha.eval hx]
 simp [go_sem, c0, c1]
theorem cF93 : cF 93 := fun _ _ => by simp [go_sem]
theorem ln_29 {A : Option Addr} {m c : Nat} (hx : evS σ x = some (.slice A m c)) : Gives Try.prog n σ w ⟨dst, .call { callee := .builtin .len, args := #[x], argTypes := #[29] }, ty, pos, af, g⟩ (.int .i64 (m : Int)) := fun a ha => by
 simp only [execOp, resolve, List.map_toArray, List.map_cons, List.map_nil, ha.eval hx]
 simp [go_sem]
theorem ix_29 {b o m c k : Nat} (hx : evS σ x = some (.slice (some ⟨b, o, none⟩) m c)) (hy : evS σ y = some (.int .i64 (k : Int))) (hk : k < m) : Gives Try.prog n σ w ⟨dst, .indexAddr 29 x y, ty, pos, af, g⟩ (.pointer (some ⟨b, o + k * 2, none⟩)) := fun a ha => by
 have k0 : (0 : Int) ≤ (k : Int) := Int.natCast_nonneg _;have k1 : (k : Int) < (m : Int) := by omega
 simp only [execOp, ha.eval hx, ha.eval hy]
 simp [go_sem, k0, k1]
theorem clv_92_0_1_1 {xf x0 : Operand} {v0 p0 : Value} (hf : evS σ xf = some (.func (.func 92) #[] #[p0])) (h0 : evS σ x0 = some v0) (a : Act) (ha : Env n σ a) : (execOp a.eval ⟨dst, .call { callee := .value xf, args := #[x0], argTypes := at' }, ty, pos, af, g⟩).run Try.prog w = .ok (.enter 92 #[v0, p0]) w := by
 simp only [execOp, resolve, List.map_toArray, List.map_cons, List.map_nil, ha.eval hf, ha.eval h0]
 simp [go_sem, Deferred.ofValue]
theorem cF100 : cF 100 := fun _ _ => by simp [go_sem]
theorem mf_92_0_1 {x0 : Operand} {v0 : Value} (h0 : evS σ x0 = some v0) : Gives Try.prog n σ w ⟨dst, .makeFunc (.func 92) #[] #[x0], ty, pos, af, g⟩ (.func (.func 92) #[] #[v0]) := fun a ha => by
 simp only [execOp, List.map_toArray, List.map_cons, List.map_nil, ha.eval h0]
 simp [go_sem]
theorem cF91 : cF 91 := fun _ _ => by simp [go_sem]
end
theorem open_any {ru : Rules} {ua up : List Value} {vl va vp vk : Value} {w : World} {B : Nat} (hr : RdRules w B vl va vp vk ru ua up) (hB : B ≤ w.heap.size) (hs : Short ru) :
  Calls Try.prog 74 #[rulesV vl va vp vk ru] w fun e w' => e = .returned (.tuple #[rulesV vl va vp vk ru, .int .i64 (if rulesB ru = true then 0 else 2)]) ∧ Below w.heap.size w w' := by
 have hs_ := hs;obtain ⟨Al, cl, Aa, ca, Ap, cp, Ak, ck, rfl, rfl, rfl, rfl⟩ := hr.sh4;have hbw := Below.refl w.heap.size w
 unfold rulesV
 refine EC.enter 8 Try.func74 rfl rfl rfl (EC.seq (EC.region (EL.newP (bx_28 rfl) rfl ?_)));intro g1 w1 q1 hb1 hg1 hl1;have bhbw_1 := Nat.le_trans hbw.size hg1;replace hbw := bo_ hbw hb1;clear hb1 hg1 hl1;refine EL.newP al_116 rfl ?_;intro g2 w2 q2 hb2 hg2 hl2;have n1_2 := q1.na hg2;have bhbw_2 := Nat.le_trans hbw.size hg2;replace q1 := q1.bl hb2;replace hbw := bo_ hbw hb2;clear hb2 hg2 hl2;refine EL.as rfl rfl (EL.nil (EX.seq (EC.seq ?_)));have lt_1 := q1.lt;have lt_2 := q2.lt;refine EC.regionP [[], [0], [], [2], [0, 1, 2, 3], [0, 1, 2, 3, 4]] 4 [] (phi (fun i_ r => match i_ with | 0 => r 0 = .agg #[.slice Al ru.levels.length cl, .int .i64 ru.fade.lo, .int .i64 ru.fade.hi, .slice Aa ru.allow.length ca, .slice Ap ru.apart.length cp, .slice Ak ru.kinds.length ck] | 1 => r 1 = .agg #[.slice Al ru.levels.length cl, .int .i64 ru.fade.lo, .int .i64 ru.fade.hi, .slice Aa ru.allow.length ca, .slice Ap ru.apart.length cp, .slice Ak ru.kinds.length ck] | 2 => r 2 = .agg #[.slice Al ru.levels.length cl, .int .i64 ru.fade.lo, .int .i64 ru.fade.hi, .slice Aa ru.allow.length ca, .slice Ap ru.apart.length cp, .slice Ak ru.kinds.length ck] | 3 => r 3 = .int .i64 (if rulesB ru = true then 0 else 2) | _ => True) []) (by kernel_rfl) rfl rfl (phi_nil) (fun i_ hi_ => ?_) ?_
 ·match i_, hi_ with
  | 0, _ =>
   intro val w1 a hb ha hd;have ha := ha.s0 (d := 1) rfl
   exact hs_val ha rfl rfl (ld_28 rfl ((q1.below hb q1.lt).at (j := 0) rfl) ((q1.below hb q1.lt).at (j := 1) rfl) ((q1.below hb q1.lt).at (j := 2) rfl) ((q1.below hb q1.lt).at (j := 3) rfl) ((q1.below hb q1.lt).at (j := 4) rfl) ((q1.below hb q1.lt).at (j := 5) rfl)) rfl rfl
  | 1, _ =>
   intro val w1 a hb ha hd;have e0 : val 0 = _ := hd 0 (memB_mem.1 rfl);have ha := ha.s1 (d := 4) rfl e0
   exact hs_val ha rfl rfl (bd_116_0 rfl) rfl rfl
  | 2, _ =>
   intro val w1 a hb ha hd;have ha := ha.s0 (d := 1) rfl
   exact hs_val ha rfl rfl (ld_28 rfl ((q1.below hb q1.lt).at (j := 0) rfl) ((q1.below hb q1.lt).at (j := 1) rfl) ((q1.below hb q1.lt).at (j := 2) rfl) ((q1.below hb q1.lt).at (j := 3) rfl) ((q1.below hb q1.lt).at (j := 4) rfl) ((q1.below hb q1.lt).at (j := 5) rfl)) rfl rfl
  | 3, _ =>
   intro val w1 a hb ha hd;have e2 : val 2 = _ := hd 2 (memB_mem.1 rfl);have ha := ha.s1 (d := 6) rfl e2;refine hs_call ha rfl rfl (cA1 cF32 rfl) (check_any ru ua up _ _ _ _ w1 B ((hr.below (hbw.mono hB)).below (hb.mono (Nat.le_trans hB hbw.size))) (Nat.le_trans (Nat.le_trans hB hbw.size) hb.size) hs) rfl ?_
   rintro e w' ⟨rfl, hb'⟩
   exact ⟨_, rfl, hb', rfl⟩
  | k + 4, h => exact absurd h (by omega)
 ·intro val wR1 hb halc hd
  have e0 : val 0 = _ := hd 0 (by omega)
  have e1 : val 1 = _ := hd 1 (by omega)
  have e2 : val 2 = _ := hd 2 (by omega)
  have e3 : val 3 = _ := hd 3 (by omega)
  refine EL.ends (cs := [_, _, _, _]) ⟨e0, e1, e2, e3, trivial⟩ rfl ?_;replace q1 := q1.bl hb;replace q2 := q2.bl hb;replace hbw := bo_ hbw hb;clear hb;refine EL.store rfl rfl q2 sz_116 rfl rfl rfl rfl ?_;intro w3 hq3 hg3;replace q1 := q1.gr hg3 n1_2;replace hbw := below_store hbw hg3 bhbw_2;replace q2 := hq3;clear hg3 hq3;refine EL.as rfl rfl (EL.nil (EX.seq (EC.ret ?_)))
  exact EX.done (resct rfl rfl rfl (lv_116 (q2.at (j := 0) rfl) (q2.at (j := 1) rfl) (q2.at (j := 2) rfl) (q2.at (j := 3) rfl) (q2.at (j := 4) rfl) (q2.at (j := 5) rfl))) ⟨rfl, hbw⟩
def evV (x : Ev) : Value := .agg #[.int .i64 x.kind, .int .i64 x.number]
theorem isEvent_any {ru : Rules} {ua up : List Value} {vl va vp vk : Value} {w : World} {B : Nat} (hr : RdRules w B vl va vp vk ru ua up) (hB : B ≤ w.heap.size) (hs : Short ru) (x : Ev) :
  Calls Try.prog 93 #[rulesV vl va vp vk ru, evV x] w fun e w' => e = .returned (.bool (evB ru x)) ∧ Below w.heap.size w w' := by
 obtain ⟨z1, z2, z3, z4⟩ := hs;obtain ⟨Al, cl, Aa, ca, Ap, cp, Ak, ck, rfl, rfl, rfl, rfl⟩ := hr.sh4;have hbw := Below.refl w.heap.size w
 unfold rulesV evV
 refine EC.enter 29 Try.func93 rfl rfl rfl (EC.seq (EC.region (EL.newP (bx_116 rfl) rfl ?_)));intro g1 w1 q1 hb1 hg1 hl1;have bhbw_1 := Nat.le_trans hbw.size hg1;replace hbw := bo_ hbw hb1;clear hb1 hg1 hl1;refine EL.newP (bx_50 rfl) rfl ?_;intro g2 w2 q2 hb2 hg2 hl2;have n1_2 := q1.na hg2;have bhbw_2 := Nat.le_trans hbw.size hg2;replace q1 := q1.bl hb2;replace hbw := bo_ hbw hb2;clear hb2 hg2 hl2;refine EL.as rfl rfl (EL.nil (EX.seq (EC.seq (EC.seq (EC.region (EL.val (fa_50_0 rfl) rfl (EL.val (ld_48 rfl (q2.at (j := 0) rfl)) rfl (EL.nil (EX.seq ?_)))))))));refine EC.block (EC.seq (EC.region ?_))
 by_cases h1 : x.kind = 1
 ·
  refine EL.val (x_eql rfl rfl (by first | assumption | exact decide_eq_true (by omega))) rfl ?_
  refine EL.as rfl rfl (EL.nil (EX.seq (EC.yes rfl (EC.seq (EC.region (EL.val (fa_116_0 rfl) rfl (EL.val (fa_28_0 rfl) rfl (EL.val (ld_22 rfl (q1.at (j := 0) rfl)) rfl (EL.val (ln_22 rfl) rfl ?_)))))))));refine EL.val (x_sub rfl rfl (by first | assumption | exact IntWalk.i64_in _ ⟨by omega, by omega⟩)) rfl ?_
  refine EL.val (fa_50_1 rfl) rfl (EL.val (ld_3 rfl (q2.at (j := 1) rfl)) rfl (EL.newS (bs_22_1 rfl) rfl ?_));intro g3 w3 q3 hb3 hg3 hl3;have n1_3 := q1.na hg3;have n2_3 := q2.na hg3;have bhbw_3 := Nat.le_trans hbw.size hg3;replace q1 := q1.bl hb3;replace q2 := q2.bl hb3;replace hbw := bo_ hbw hb3;clear hb3 hg3 hl3
  cases h3 : (inB 0 ((ru.levels.length : Nat) - 1 : Int) x.number)
  ·
   refine EL.call (cA3 cF63 rfl rfl rfl) rfl (within_1 q3 h3) ?_
   rintro e w4 ⟨rfl, hc4⟩
   refine ⟨_, rfl, ?_⟩;replace q1 := q1.bl hc4;replace q2 := q2.bl hc4;replace q3 := q3.bl hc4;replace hbw := bo_ hbw hc4;clear hc4;refine EL.as rfl rfl (EL.nil (EX.seq (EC.ret (EX.blk_ret (EX.seq_ret ?_)))))
   exact EX.done (res1 rfl rfl) ⟨by congr 2; simp [evB, *], hbw⟩
  ·
   refine EL.call (cA3 cF63 rfl rfl rfl) rfl (within_1 q3 h3) ?_
   rintro e w5 ⟨rfl, hc5⟩
   refine ⟨_, rfl, ?_⟩;replace q1 := q1.bl hc5;replace q2 := q2.bl hc5;replace q3 := q3.bl hc5;replace hbw := bo_ hbw hc5;clear hc5;refine EL.as rfl rfl (EL.nil (EX.seq (EC.ret (EX.blk_ret (EX.seq_ret ?_)))))
   exact EX.done (res1 rfl rfl) ⟨by congr 2; simp [evB, *], hbw⟩
 ·
  refine EL.val (x_eql rfl rfl (by first | assumption | exact decide_eq_false (by omega))) rfl ?_
  refine EL.as rfl rfl (EL.nil (EX.seq (EC.no rfl (EC.seq (EC.region ?_)))))
  by_cases h2 : x.kind = 2
  ·
   refine EL.val (x_eql rfl rfl (by first | assumption | exact decide_eq_true (by omega))) rfl ?_
   refine EL.as rfl rfl (EL.nil (EX.seq (EC.yes rfl (EC.seq (EC.region (EL.val (fa_116_0 rfl) rfl (EL.val (fa_28_4 rfl) rfl (EL.val (ld_26 rfl (q1.at (j := 5) rfl)) rfl (EL.val (ln_26 rfl) rfl ?_)))))))));refine EL.val (x_sub rfl rfl (by first | assumption | exact IntWalk.i64_in _ ⟨by omega, by omega⟩)) rfl ?_
   refine EL.val (fa_50_1 rfl) rfl (EL.val (ld_3 rfl (q2.at (j := 1) rfl)) rfl (EL.newS (bs_22_1 rfl) rfl ?_));intro g6 w6 q6 hb6 hg6 hl6;have n1_6 := q1.na hg6;have n2_6 := q2.na hg6;have bhbw_6 := Nat.le_trans hbw.size hg6;replace q1 := q1.bl hb6;replace q2 := q2.bl hb6;replace hbw := bo_ hbw hb6;clear hb6 hg6 hl6
   cases h4 : (inB 0 ((ru.kinds.length : Nat) - 1 : Int) x.number)
   ·
    refine EL.call (cA3 cF63 rfl rfl rfl) rfl (within_1 q6 h4) ?_
    rintro e w7 ⟨rfl, hc7⟩
    refine ⟨_, rfl, ?_⟩;replace q1 := q1.bl hc7;replace q2 := q2.bl hc7;replace q6 := q6.bl hc7;replace hbw := bo_ hbw hc7;clear hc7;refine EL.as rfl rfl (EL.nil (EX.seq (EC.ret (EX.blk_ret (EX.seq_ret ?_)))))
    exact EX.done (res1 rfl rfl) ⟨by congr 2; simp [evB, *], hbw⟩
   ·
    refine EL.call (cA3 cF63 rfl rfl rfl) rfl (within_1 q6 h4) ?_
    rintro e w8 ⟨rfl, hc8⟩
    refine ⟨_, rfl, ?_⟩;replace q1 := q1.bl hc8;replace q2 := q2.bl hc8;replace q6 := q6.bl hc8;replace hbw := bo_ hbw hc8;clear hc8;refine EL.as rfl rfl (EL.nil (EX.seq (EC.ret (EX.blk_ret (EX.seq_ret ?_)))))
    exact EX.done (res1 rfl rfl) ⟨by congr 2; simp [evB, *], hbw⟩
  ·
   refine EL.val (x_eql rfl rfl (by first | assumption | exact decide_eq_false (by omega))) rfl ?_
   refine EL.as rfl rfl (EL.nil (EX.seq (EC.no rfl (EC.skip (EX.blk (EX.seq (EC.seq (EC.region (EL.as rfl rfl ?_)))))))));refine EL.nil (EX.seq (EC.ret ?_))
   exact EX.done (res1 rfl rfl) ⟨by congr 2; simp [evB, *], hbw⟩
theorem event1 {ru : Rules} {ua up : List Value} {vl va vp vk : Value} {w : World} {B : Nat} (hr : RdRules w B vl va vp vk ru ua up) (hB : B ≤ w.heap.size) (hs : Short ru) (x : Ev) {b1 : Nat} (hq : Blk w b1 116 #[vl, .int .i64 ru.fade.lo, .int .i64 ru.fade.hi, va, vp, vk]) :
  Calls Try.prog 92 #[evV x, .pointer (some ⟨b1, 0, none⟩)] w fun e w' => e = .returned (.bool (!evB ru x)) ∧ Below w.heap.size w w' := by
 have hbw := Below.refl w.heap.size w
 unfold evV
 refine EC.enter 8 Try.func92 rfl rfl rfl (EC.seq (EC.region (EL.newP (bx_50 rfl) rfl ?_)));intro g1 w1 q1 hb1 hg1 hl1;have bhbw_1 := Nat.le_trans hbw.size hg1;replace hbw := bo_ hbw hb1;clear hb1 hg1 hl1;refine EL.as rfl rfl (EL.nil (EX.seq (EC.seq (EC.region (EL.val (ld_116 rfl (below_load hbw (hq.at (j := 0) rfl)) (below_load hbw (hq.at (j := 1) rfl)) (below_load hbw (hq.at (j := 2) rfl)) (below_load hbw (hq.at (j := 3) rfl)) (below_load hbw (hq.at (j := 4) rfl)) (below_load hbw (hq.at (j := 5) rfl))) rfl (EL.val (ld_50 rfl (q1.at (j := 0) rfl) (q1.at (j := 1) rfl)) rfl (EL.call (cA2 cF93 rfl rfl) rfl (isEvent_any (hr.below (hbw.mono hB)) (Nat.le_trans hB hbw.size) hs x) ?_)))))))
 rintro e w2 ⟨rfl, hc2⟩
 refine ⟨_, rfl, ?_⟩;replace q1 := q1.bl hc2;replace hbw := bo_ hbw hc2;clear hc2;refine EL.val (x_not rfl) rfl (EL.as rfl rfl (EL.nil (EX.seq (EC.ret ?_))))
 exact EX.done (res1 rfl rfl) ⟨rfl, hbw⟩
set_option maxRecDepth 100000 in
theorem index_ev (l : List Ev) (pred : Ev → Bool) (p0 : Value) (v : Value) (w : World) (B : Nat) (hr : Rd w B 2 v l.length (evsC l)) (hB : B ≤ w.heap.size) (hn : l.length ≤ 9223372036854775806) (hf : ∀ x ∈ l, ∀ W, Below w.heap.size w W → Calls Try.prog 92 #[.agg #[.int .i64 x.kind, .int .i64 x.number], p0] W fun e w' => e = .returned (.bool (pred x)) ∧ Below W.heap.size W w') :
  Calls Try.prog 100 #[v, .func (.func 92) #[] #[p0]] w fun e w' => (∃ r : Int, e = .returned (.int .i64 r) ∧ decide (0 ≤ r) = l.any pred) ∧ Below w.heap.size w w' := by
 obtain ⟨A, c, rfl, _⟩ := hr.shape;have hbw := Below.refl w.heap.size w;refine EC.enter 19 Try.func100 rfl rfl rfl (EC.seq (EC.region (EL.as rfl rfl (EL.nil (EX.seq (EC.seq (EC.seq (EC.region (EL.mv rfl rfl ?_)))))))));refine EL.val (ln_29 rfl) rfl (EL.mv rfl rfl (EL.nil (EX.seq (EC.block ?_))));refine EC.loopD [4, 5, 8, 9, 10, 11, 12, 13, 14, 15, 16, 17, 18] (fun x : Nat => [(8, .int .i64 (x : Nat))]) (fun x W => x ≤ l.length ∧ (l.take x).any pred = false ∧ Below w.heap.size w W) (fun x => l.length - x) 0 ⟨Nat.zero_le _, rfl, hbw⟩ ⟨rfl, trivial⟩ ?_
 clear hbw
 rintro k wk ⟨hk, hno, hbw⟩
 by_cases hlt : k < l.length
 ·
  obtain ⟨b, o, rfl, _, c0, c1⟩ := evs_cells l k hlt w w.heap.size _ _ _ (hr.more hB);have hat := any_take (d := ev0) (p := pred) hlt;have hmem : l.getD k ev0 ∈ l := by rw [getD_in hlt]; exact List.getElem_mem hlt
  obtain ⟨x, ex⟩ : ∃ z, z = l.getD k ev0 := ⟨_, rfl⟩;rw [← ex] at hat hmem c0 c1;have hc := hf x hmem wk hbw;refine EC.seq (EC.region ?_);refine EL.val (x_lss rfl rfl (by first | assumption | exact decide_eq_true (by omega))) rfl ?_
  refine EL.nil (EX.seq (EC.seq (EC.yes rfl (EC.skip (EX.seq (EC.seq (EC.block (EC.seq (EC.region ?_)))))))));refine EL.mv rfl rfl (EL.as rfl rfl (EL.nil (EX.seq (EC.seq (EC.region (EL.mv rfl rfl (EL.mv rfl rfl (EL.mv rfl rfl (EL.val (ix_29 rfl rfl hlt) rfl ?_)))))))));refine EL.val (ld_50 rfl (below_load hbw c0) (below_load hbw c1)) rfl (EL.call (clv_92_0_1_1 rfl rfl) rfl hc ?_)
  rintro e w2 ⟨rfl, hc2⟩
  refine ⟨_, rfl, ?_⟩;replace hbw := bo_ hbw hc2;clear hc2;refine EL.nil (EX.seq ?_)
  cases hp : pred x
  ·
   refine EC.no rfl (EC.skip (EX.blk (EX.seq (EC.region ?_))));refine EL.val (x_add rfl rfl (by first | assumption | exact IntWalk.i64_in _ ⟨by omega, by omega⟩)) rfl ?_
   refine EL.mv rfl rfl (EL.nil ?_);refine EX.roundD (k + 1) ⟨rfl, trivial⟩ (by repeat first | with_reducible exact .refl _ | refine sp_ rfl ?_ | exact .refl _ | refine sd_ rfl ?_ | refine sn_ ?_) ⟨hlt, by rw [hat, hno, hp]; rfl, hbw⟩ (by omega)
  ·
   refine EC.yes rfl (EC.seq (EC.region (EL.mv rfl rfl (EL.as rfl rfl (EL.nil (EX.seq (EC.ret (EX.blk_ret (EX.seq_ret ?_)))))))));refine EX.seq_ret (EX.blk_ret (EX.seq_ret ?_))
   exact EX.done (res1 rfl rfl) ⟨⟨_, rfl, by rw [any_at hlt (ex ▸ hp)]; exact decide_eq_true (by omega)⟩, hbw⟩
 ·
  obtain rfl : k = l.length := by omega
  rw [List.take_length] at hno;refine EC.seq (EC.region ?_);refine EL.val (x_lss rfl rfl (by first | assumption | exact decide_eq_false (by omega))) rfl ?_
  refine EL.nil (EX.seq (EC.seq (EC.no rfl (EC.exit (EX.seq_exit (EX.seq_exit (EX.blk_here (EX.seq (EC.seq ?_)))))))));refine EC.region (EL.as rfl rfl (EL.nil (EX.seq (EC.ret ?_))))
  exact EX.done (res1 rfl rfl) ⟨⟨_, rfl, by rw [hno]; rfl⟩, hbw⟩
theorem contains_ev (l : List Ev) (pred : Ev → Bool) (p0 : Value) (v : Value) (w : World) (B : Nat) (hr : Rd w B 2 v l.length (evsC l)) (hB : B ≤ w.heap.size) (hn : l.length ≤ 9223372036854775806) (hf : ∀ x ∈ l, ∀ W, Below w.heap.size w W → Calls Try.prog 92 #[.agg #[.int .i64 x.kind, .int .i64 x.number], p0] W fun e w' => e = .returned (.bool (pred x)) ∧ Below W.heap.size W w') :
  Calls Try.prog 91 #[v, .func (.func 92) #[] #[p0]] w fun e w' => e = .returned (.bool (l.any pred)) ∧ Below w.heap.size w w' := by
 have hbw := Below.refl w.heap.size w;refine EC.enter 9 Try.func91 rfl rfl rfl (EC.seq (EC.region (EL.as rfl rfl (EL.nil (EX.seq (EC.seq (EC.region (EL.mv rfl rfl (EL.mv rfl rfl ?_)))))))));refine EL.call (cA2 cF100 rfl rfl) rfl (index_ev l pred p0 _ w B hr hB hn hf) ?_
 rintro e w2 ⟨⟨r, rfl, hres⟩, hc2⟩
 refine ⟨_, rfl, ?_⟩;replace hbw := bo_ hbw hc2;refine EL.val (x_geq rfl rfl hres) rfl (EL.as rfl rfl (EL.nil (EX.seq (EC.ret ?_))))
 exact EX.done (res1 rfl rfl) ⟨rfl, hbw⟩
theorem contains_ev_to {l : List Ev} {pred : Ev → Bool} {b : Bool} (h : l.any pred = b) {p0 v : Value} {w : World} {B : Nat} (hr : Rd w B 2 v l.length (evsC l)) (hB : B ≤ w.heap.size) (hn : l.length ≤ 9223372036854775806) (hf : ∀ x ∈ l, ∀ W, Below w.heap.size w W → Calls Try.prog 92 #[evV x, p0] W fun e w' => e = .returned (.bool (pred x)) ∧ Below W.heap.size W w') :
  Calls Try.prog 91 #[v, .func (.func 92) #[] #[p0]] w fun e w' => e = .returned (.bool b) ∧ Below w.heap.size w w' := h ▸ contains_ev l pred p0 v w B hr hB hn hf
theorem check_hist {ru : Rules} {ua up : List Value} {vl va vp vk : Value} {w : World} {B : Nat} (hr : RdRules w B vl va vp vk ru ua up) (hB : B ≤ w.heap.size) (hs : Short ru) (l : List Ev) {v : Value} (hl : Rd w B 2 v l.length (evsC l)) (hn : l.length ≤ 9223372036854775806) :
  Calls Try.prog 75 #[rulesV vl va vp vk ru, v] w fun e w' => e = .returned (.int .i64 (histE ru l)) ∧ Below w.heap.size w w' := by
 have hs_ := hs;obtain ⟨Al, cl, Aa, ca, Ap, cp, Ak, ck, rfl, rfl, rfl, rfl⟩ := hr.sh4;obtain ⟨Ae, ce, rfl, _⟩ := hl.shape;have hbw := Below.refl w.heap.size w
 unfold rulesV
 refine EC.enter 13 Try.func75 rfl rfl rfl (EC.seq (EC.region (EL.newP (bx_116 rfl) rfl ?_)));intro g1 w1 q1 hb1 hg1 hl1;have bhbw_1 := Nat.le_trans hbw.size hg1;replace hbw := bo_ hbw hb1;clear hb1 hg1 hl1;refine EL.as rfl rfl (EL.nil (EX.seq (EC.seq (EC.block (EC.seq (EC.region (EL.mv rfl rfl (EL.val (ln_29 rfl) rfl ?_))))))))
 by_cases h1 : 100 < l.length
 ·
  refine EL.val (x_gtr rfl rfl (by first | assumption | exact decide_eq_true (by omega))) rfl ?_
  refine EL.as rfl rfl (EL.nil (EX.seq (EC.yes rfl (EC.seq (EC.region (EL.as rfl rfl (EL.nil (EX.seq (EC.ret ?_)))))))));refine EX.blk_ret (EX.seq_ret ?_)
  exact EX.done (res1 rfl rfl) ⟨by congr 2; simp [histE, *], hbw⟩
 ·
  refine EL.val (x_gtr rfl rfl (by first | assumption | exact decide_eq_false (by omega))) rfl ?_
  refine EL.as rfl rfl (EL.nil (EX.seq (EC.no rfl (EC.seq (EC.region (EL.mv rfl rfl (EL.val (mf_92_0_1 rfl) rfl ?_)))))))
  cases h2 : l.all (evB ru)
  ·
   refine EL.call (cA2 cF91 rfl rfl) rfl (contains_ev_to (b := true) (pred := fun x => !evB ru x) (by rw [← all_nn, h2]; rfl) (hl.below (hbw.mono hB)) (Nat.le_trans hB hbw.size) (by omega) (fun x hx W hb => event1 ((hr.below (hbw.mono hB)).below (hb.mono (Nat.le_trans hB hbw.size))) (Nat.le_trans (Nat.le_trans hB hbw.size) hb.size) hs x (q1.below hb q1.lt))) ?_
   rintro e w2 ⟨rfl, hc2⟩
   refine ⟨_, rfl, ?_⟩;replace q1 := q1.bl hc2;replace hbw := bo_ hbw hc2;clear hc2;refine EL.as rfl rfl (EL.nil (EX.seq (EC.yes rfl (EC.seq (EC.region (EL.as rfl rfl (EL.nil (EX.seq (EC.ret ?_)))))))));refine EX.blk_ret (EX.seq_ret ?_)
   exact EX.done (res1 rfl rfl) ⟨by congr 2; simp [histE, *], hbw⟩
  ·
   refine EL.call (cA2 cF91 rfl rfl) rfl (contains_ev_to (b := false) (pred := fun x => !evB ru x) (by rw [← all_nn, h2]; rfl) (hl.below (hbw.mono hB)) (Nat.le_trans hB hbw.size) (by omega) (fun x hx W hb => event1 ((hr.below (hbw.mono hB)).below (hb.mono (Nat.le_trans hB hbw.size))) (Nat.le_trans (Nat.le_trans hB hbw.size) hb.size) hs x (q1.below hb q1.lt))) ?_
   rintro e w3 ⟨rfl, hc3⟩
   refine ⟨_, rfl, ?_⟩;replace q1 := q1.bl hc3;replace hbw := bo_ hbw hc3;clear hc3;refine EL.as rfl rfl (EL.nil (EX.seq (EC.no rfl (EC.skip (EX.blk (EX.seq (EC.seq (EC.region (EL.as rfl rfl ?_)))))))));refine EL.nil (EX.seq (EC.ret ?_))
   exact EX.done (res1 rfl rfl) ⟨by congr 2; simp [histE, *], hbw⟩
abbrev FR (ro : Option Nat) : Fence := { Fence.wide with round := ro }
theorem fr_depth (ro : Option Nat) (n : Nat) : (FR ro).depth.isSome = true → 1 ≤ n := fun h => by cases h
theorem callsIn_fr {ro : Option Nat} {n : Nat} {P : Program} {f : FuncId} {args : Array Value} {w : World} {R : Ending → World → Prop} (h : Calls P f args w R) : CallsIn (FR ro) n P f args w R :=
 (callsIn_wide (n := n)).2 h
theorem roundIn_fr {ro : Option Nat} {m n l : Nat} {P : Program} {f : FuncId} {tmps : Array Value} {assign body : Code} {w : World} {R : Ending → World → Prop} (h : RoundIn Fence.wide m P l f tmps assign body w R) : RoundIn (FR ro) n P l f tmps assign body w R :=
 ⟨h.1, fun c cs _ => h.2 c cs (room_wide _)⟩
/-- a frame with deferred calls ds -/
structure EnvG (n : Nat) (ds : List Deferred) (σ : Sg) (a : Act) : Prop where
 env : Env n σ ⟨a.tmps, []⟩
 ds : a.defers = ds
section
variable {n : Nat} {ds : List Deferred} {σ τ : Sg} {a : Act}
theorem Env.g (h : Env n σ a) : EnvG n [] σ a := ⟨⟨h.size, rfl, h.get⟩, h.defers⟩
theorem EnvG.e (h : EnvG n [] σ a) : Env n σ a := ⟨h.env.size, h.ds, h.env.get⟩
theorem eval_tmps (a : Act) : (⟨a.tmps, []⟩ : Act).eval = a.eval := by
 funext x
 cases x <;> rfl
theorem EnvG.eval (h : EnvG n ds σ a) {x : Operand} {v : Value} (hx : evS σ x = some v) : a.eval x = v := by
 rw [← eval_tmps]
 exact h.env.eval hx
theorem EnvG.put (h : EnvG n ds σ a) {d : Nat} (hd : Nat.blt d n = true) (v : Value) : EnvG n ds (ins σ d v) (a.put (some d) v) :=
 ⟨h.env.put hd v, h.ds⟩
theorem EnvG.sub (h : EnvG n ds σ a) (hs : Sub τ σ) : EnvG n ds τ a := ⟨h.env.sub hs, h.ds⟩
end
def ELI (ro : Option Nat) (k : Nat) (P : Program) (n : Nat) (ds : List Deferred) (L : List Oper) (Q : Exit → Act → World → Prop) (rest : List Oper) (σ : Sg) (w : World) : Prop := ∀ a, EnvG n ds σ a → wpListIn (FR ro) k P L.toArray Q rest a w
def ECI (ro : Option Nat) (k : Nat) (P : Program) (n : Nat) (ds : List Deferred) (c : Code) (Q : Exit → Act → World → Prop) (σ : Sg) (w : World) : Prop := ∀ a, EnvG n ds σ a → c.wpIn (FR ro) k P Q a w
def EXI (n : Nat) (ds : List Deferred) (Q : Exit → Act → World → Prop) (e : Exit) (σ : Sg) (w : World) : Prop := ∀ a, EnvG n ds σ a → Q e a w
section
variable {ro : Option Nat} {k : Nat} {P : Program} {n : Nat} {ds : List Deferred} {σ τ : Sg} {w : World} {Q : Exit → Act → World → Prop} {L : List Oper} {rest : List Oper}
theorem semAt_fr {o : Oper} (h : ∀ c, o.op ≠ .defer c) (ρ : Operand → Value) : o.semAt (FR ro).round ρ = execOp ρ o := Oper.semAt_eq _ _ _ h
/-- an operation that yields a value is no defer -/
theorem nodefer {o : Oper} {ρ : Operand → Value} {w' : World} {r : Next} (hr : (execOp ρ o).run P w = .ok r w') (hn : ∀ d, r ≠ .defer d) : ∀ c, o.op ≠ .defer c := fun c h => by
 unfold execOp at hr
 simp only [h, Sem.run_bind] at hr
 cases he : (resolve ρ c o.type).run P w with
 | ok d w2 =>
  rw [he] at hr
  simp only [Result.andThen_ok, Sem.run_pure] at hr
  injection hr with h1 _
  exact hn d h1.symm
 | halt x w2 => rw [he] at hr; cases hr
theorem wpLI_run {o : Oper} {a : Act} (hg : Region.wanted o (yielded L.toArray a.tmps) = true) {v : Value} {w' : World} (hr : (execOp a.eval o).run P w = .ok (.value v) w') (hk : wpListIn (FR ro) k P L.toArray Q rest (a.put o.dst v) w') : wpListIn (FR ro) k P L.toArray Q (o :: rest) a w := by
 unfold wpListIn
 rw [if_pos hg];refine ⟨fun _ _ => trivial, ?_⟩
 rw [semAt_fr (nodefer hr (fun d h => by cases h)), hr]
 exact hk
theorem wpLI_skip0 {o : Oper} {a : Act} (hg : Region.wanted o (yielded L.toArray a.tmps) = true) {w' : World} (hr : (execOp a.eval o).run P w = .ok .skip w') (hk : wpListIn (FR ro) k P L.toArray Q rest (a.put o.dst undef) w') : wpListIn (FR ro) k P L.toArray Q (o :: rest) a w := by
 unfold wpListIn
 rw [if_pos hg];refine ⟨fun _ _ => trivial, ?_⟩
 rw [semAt_fr (nodefer hr (fun d h => by cases h)), hr]
 exact hk
theorem yield_ofG {a : Act} (ha : EnvG n ds σ a) {j : Nat} {t : Tmp} {v : Value} (hj : dstOf L j = some t) (ht : σ t = some v) : yielded L.toArray a.tmps j = match v with | .bool b => some b | _ => none :=
 yield_of ha.env hj ht
theorem ELI.nil (h : EXI n ds Q .normal σ w) : ELI ro k P n ds L Q [] σ w := fun a ha => wpListIn_nil (h a ha)
theorem ELI.val {d ty : Nat} {op : Op} {pos : String} {af : Array Edge} {v : Value} (h : Gives P n σ w ⟨some d, op, ty, pos, af, none⟩ v) (hd : Nat.blt d n = true) (next : ELI ro k P n ds L Q rest (ins σ d v) w) : ELI ro k P n ds L Q (⟨some d, op, ty, pos, af, none⟩ :: rest) σ w :=
 fun a ha => wpLI_run (wanted_none rfl _) (by rw [← eval_tmps]; exact h _ ha.env) (next _ (ha.put hd v))
theorem ELI.valg {d ty j t : Nat} {b : Bool} {op : Op} {pos : String} {af : Array Edge} {v : Value} (hj : dstOf L j = some t) (ht : σ t = some (.bool b)) (h : Gives P n σ w ⟨some d, op, ty, pos, af, some (j, b)⟩ v) (hd : Nat.blt d n = true) (next : ELI ro k P n ds L Q rest (ins σ d v) w) : ELI ro k P n ds L Q (⟨some d, op, ty, pos, af, some (j, b)⟩ :: rest) σ w :=
 fun a ha => wpLI_run (by simp [Region.wanted, yield_ofG ha hj ht]) (by rw [← eval_tmps]; exact h _ ha.env) (next _ (ha.put hd v))
theorem ELI.turn {d ty : Nat} {op : Op} {pos : String} {af : Array Edge} (v : Value) (w' : World) (h : ∀ a, Env n σ a → (execOp a.eval ⟨some d, op, ty, pos, af, none⟩).run P w = .ok (.value v) w') (hd : Nat.blt d n = true) (next : ELI ro k P n ds L Q rest (ins σ d v) w') : ELI ro k P n ds L Q (⟨some d, op, ty, pos, af, none⟩ :: rest) σ w :=
 fun a ha => wpLI_run (wanted_none rfl _) (by rw [← eval_tmps]; exact h _ ha.env) (next _ (ha.put hd v))
theorem ELI.call {d ty : Nat} {op : Op} {pos : String} {af : Array Edge} {f : FuncId} {args : Array Value} {R : Ending → World → Prop} (hr : ∀ a, Env n σ a → (execOp a.eval ⟨some d, op, ty, pos, af, none⟩).run P w = .ok (.enter f args) w) (hd : Nat.blt d n = true) (hc : Calls P f args w R)
  (next : ∀ e w', R e w' → ∃ v, e = .returned v ∧ ELI ro k P n ds L Q rest (ins σ d v) w') : ELI ro k P n ds L Q (⟨some d, op, ty, pos, af, none⟩ :: rest) σ w := fun a ha => by
 have hr' := hr _ ha.env;rw [eval_tmps] at hr'
 unfold wpListIn
 rw [if_pos (wanted_none rfl _)];refine ⟨fun _ _ => trivial, ?_⟩
 rw [semAt_fr (nodefer hr' (fun d h => by cases h)), hr']
 refine ⟨fr_depth _ _, CallsIn.mono (callsIn_fr hc) fun e w' he => ?_⟩
 obtain ⟨v, rfl, hv⟩ := next e w' he
 exact hv _ (ha.put hd v)
/-- a call of yield: a round -/
theorem ELI.yield {d ty l : Nat} {x y : Operand} {at' : Array TypeId} {pos : String} {af : Array Edge} {v : Value} {R : Ending → World → Prop} {fn : FuncId} {tmps : Array Value} {assign body : Code} (hx : evS σ x = some (.func (.yield l) #[] #[])) (hy : evS σ y = some v) (hd : Nat.blt d n = true) (hi : (Instr.yield l #[v]).run P w = .ok (.round l fn tmps assign body) w) (hR : RoundIn Fence.wide 0 P l fn tmps assign body w R)
  (next : ∀ e w', R e w' → ∃ v, e = .returned v ∧ ELI ro k P n ds L Q rest (ins σ d v) w') : ELI ro k P n ds L Q (⟨some d, .call { callee := .value x, args := #[y], argTypes := at' }, ty, pos, af, none⟩ :: rest) σ w := fun a ha => by
 have hr' : (execOp a.eval ⟨some d, .call { callee := .value x, args := #[y], argTypes := at' }, ty, pos, af, none⟩).run P w = .ok (.round l fn tmps assign body) w := by
  simp only [execOp, resolve, List.map_toArray, List.map_cons, List.map_nil, ha.eval hx, ha.eval hy]
  simp [go_sem, Deferred.ofValue, hi]
 unfold wpListIn
 rw [if_pos (wanted_none rfl _)];refine ⟨fun _ _ => trivial, ?_⟩
 rw [semAt_fr (nodefer hr' (fun d h => by cases h)), hr']
 refine ⟨fr_depth _ _, RoundIn.mono (roundIn_fr hR) fun e w' he => ?_⟩
 obtain ⟨v, rfl, hv⟩ := next e w' he
 exact hv _ (ha.put hd v)
theorem ELI.newP {d ty : Nat} {op : Op} {pos : String} {af : Array Edge} {cs : Array Value} {T : TypeId} (h : ∀ a, Env n σ a → (execOp a.eval ⟨some d, op, ty, pos, af, none⟩).run P w = .ok (.value (.pointer (some ⟨w.heap.size, 0, none⟩))) (w.alloc (.cells cs T))) (hd : Nat.blt d n = true)
  (next : ∀ g w', Blk w' g T cs → Below w.heap.size w w' → w.heap.size ≤ g → w.heap.size < w'.heap.size → ELI ro k P n ds L Q rest (ins σ d (.pointer (some ⟨g, 0, none⟩))) w') : ELI ro k P n ds L Q (⟨some d, op, ty, pos, af, none⟩ :: rest) σ w :=
 ELI.turn _ _ h hd (next _ _ (Blk.new w T cs) ((Below.refl _ _).alloc (Nat.le_refl _) _) (Nat.le_refl _) (by simp))
theorem ELI.newS {d ty m c : Nat} {op : Op} {pos : String} {af : Array Edge} {cs : Array Value} {T : TypeId} (h : ∀ a, Env n σ a → (execOp a.eval ⟨some d, op, ty, pos, af, none⟩).run P w = .ok (.value (.slice (some ⟨w.heap.size, 0, none⟩) m c)) (w.alloc (.cells cs T))) (hd : Nat.blt d n = true)
  (next : ∀ g w', Blk w' g T cs → Below w.heap.size w w' → w.heap.size ≤ g → w.heap.size < w'.heap.size → ELI ro k P n ds L Q rest (ins σ d (.slice (some ⟨g, 0, none⟩) m c)) w') : ELI ro k P n ds L Q (⟨some d, op, ty, pos, af, none⟩ :: rest) σ w :=
 ELI.turn _ _ h hd (next _ _ (Blk.new w T cs) ((Below.refl _ _).alloc (Nat.le_refl _) _) (Nat.le_refl _) (by simp))
theorem ELI.store {ty t T g o z : Nat} {x y : Operand} {pos : String} {af : Array Edge} {l l' : List Value} {v : Value} (hx : evS σ x = some (.pointer (some ⟨g, o, none⟩))) (hy : evS σ y = some v) (hb : Blk w g T l.toArray) (hs : (P.info? t).map (·.size) = some z) (hv : v.cells.toList = l') (hk : lenV l' = z) (ho : Nat.ble (o + z) (lenV l) = true) (h1 : allOne l' = true)
  (next : ∀ w', Blk w' g T (spl l o l').toArray → w.grownBy w' (some g) → KeepsOthers w w' → ELI ro k P n ds L Q rest σ w') : ELI ro k P n ds L Q (⟨none, .store t x y, ty, pos, af, none⟩ :: rest) σ w := fun a ha => by
 have hr : (execOp a.eval ⟨none, .store t x y, ty, pos, af, none⟩).run P w = .ok .skip (w.setRow g (spl l o l').toArray) := by
  simp only [execOp, ha.eval hx, ha.eval hy, Sem.run_bind, run_storeAt hs hb hv hk ho h1, Result.andThen_ok]
  rfl
 refine wpLI_skip0 (wanted_none rfl _) hr (next _ (setRow_blk hb) (setRow_grown _ _ _) ⟨(setRow_grown w g _).size, fun j ob hj hc => ?_⟩ a ha)
 by_cases e : j = g
 ·subst e
  unfold Blk at hb
  rw [hb] at hj
  injection hj with hj
  subst hj
  cases hc
 ·exact ((setRow_grown w g (spl l o l').toArray).block j (Array.getElem?_eq_some_iff.1 hj).1 (fun h => e (Option.some.inj h))).trans hj
theorem keeps_below {A B : World} (h : Below A.heap.size A B) : KeepsOthers A B := ⟨h.size, fun k _ hk _ => (h.block k (Array.getElem?_eq_some_iff.1 hk).1).trans hk⟩
theorem keeps_own {w w' : World} {base e size n : Nat} {v : Value} {xs : List Value} (h : w.ownsRow base e size v n xs) (hg : w.grownBy w' v.ownBlock) : KeepsOthers w w' := ⟨hg.size, fun j o hj hc => by
 refine (hg.block j (Array.getElem?_eq_some_iff.1 hj).1 fun e1 => ?_).trans hj
 obtain ⟨_, ⟨rfl, _⟩ | ⟨g, cap, cur, rfl, _, hk, _⟩⟩ := h
 ·cases e1
 ·have e2 : j = g := by simpa [Value.ownBlock] using e1
  subst e2;rw [hk] at hj
  injection hj with hj
  subst hj
  cases hc⟩
theorem ELI.push {d ty t e size bytes base B m c : Nat} {s x : Operand} {pos : String} {af : Array Edge} (E : Elem P t e size bytes) {v src : Value} {xs news : List Value} (hs : evS σ s = some v) (hx : evS σ x = some src) (hown : w.ownsRow base e size v c xs) (hr : Rd w B size src m news) (h1 : ∀ u ∈ news, u.oneCell' = true) (hm : c + m ≤ 1048576) (hby : Nat.ble bytes 1048576 = true) (hbase : base ≤ w.heap.size) (hd : Nat.blt d n = true)
  (next : ∀ v' w', w'.ownsRow base e size v' (c + m) (xs ++ news) → w.grownBy w' v.ownBlock → Below base w w' → KeepsOthers w w' → ELI ro k P n ds L Q rest (ins σ d v') w') : ELI ro k P n ds L Q (⟨some d, .call { callee := .builtin .append, args := #[s, x], argTypes := #[t, t] }, ty, pos, af, none⟩ :: rest) σ w := fun a ha => by
 obtain ⟨v', w', h2, h3, h4, h5, h6⟩ := run_push (P := P) (ty := ty) E hown hr h1 hm (by simpa [Nat.ble_eq] using hby) hbase
 exact wpLI_run (wanted_none rfl _) (run_append_call rfl (ha.eval hs) (ha.eval hx) h2) (next v' w' h3 h4 h5 (keeps_own hown h4) _ (ha.put hd v'))
/-! ### Code -/
theorem ECI.sub {c : Code} (h : ECI ro k P n ds c Q τ w) (hs : Sub τ σ) : ECI ro k P n ds c Q σ w := fun a ha => h a (ha.sub hs)
theorem ECI.seq {x y : Code} (h : ECI ro k P n ds x (Exit.then (y.wpIn (FR ro) k P Q) Q) σ w) : ECI ro k P n ds (.seq x y) Q σ w := fun a ha => wpIn_seq (h a ha)
theorem ECI.region {id : Nat} {l : List Oper} (h : ELI ro k P n ds l Q l σ w) : ECI ro k P n ds (.region id l.toArray false) Q σ w := fun a ha => wpIn_region_lit (h a ha)
theorem ECI.block {id : Nat} {c : Code} (h : ECI ro k P n ds c (Exit.inBlock id Q) σ w) : ECI ro k P n ds (.block id c) Q σ w := fun a ha => wpIn_block (h a ha)
theorem ECI.skip (h : EXI n ds Q .normal σ w) : ECI ro k P n ds .skip Q σ w := fun a ha => wpIn_skip (h a ha)
theorem ECI.exit {id : Nat} (h : EXI n ds Q (.exit id) σ w) : ECI ro k P n ds (.exit id) Q σ w := fun a ha => wpIn_exit (h a ha)
theorem ECI.ret (h : EXI n ds Q .ret σ w) : ECI ro k P n ds .ret Q σ w := fun a ha => wpIn_ret (h a ha)
theorem ECI.yes {c : Operand} {x y : Code} (hc : evS σ c = some (.bool true)) (h : ECI ro k P n ds x Q σ w) : ECI ro k P n ds (.cond c x y) Q σ w := fun a ha => wpIn_cond_true (ha.eval hc) (h a ha)
theorem ECI.no {c : Operand} {x y : Code} (hc : evS σ c = some (.bool false)) (h : ECI ro k P n ds y Q σ w) : ECI ro k P n ds (.cond c x y) Q σ w := fun a ha => wpIn_cond_false (ha.eval hc) (h a ha)
/-- code of a function is code of a round of none -/
theorem EC.inn {c : Code} (h : ECI none k P n [] c Q σ w) : EC P n c Q σ w := fun a ha => wpIn_wide.1 (h a ha.g)
theorem ECI.out {c : Code} (h : EC P n c Q σ w) : ECI none k P n [] c Q σ w := fun a ha => wpIn_wide.2 (h a ha.e)
/-! ### Exits -/
theorem EXI.seq {y : Code} (h : ECI ro k P n ds y Q σ w) : EXI n ds (Exit.then (y.wpIn (FR ro) k P Q) Q) .normal σ w := h
theorem EXI.seq_exit {K : Act → World → Prop} {i : Nat} (h : EXI n ds Q (.exit i) σ w) : EXI n ds (Exit.then K Q) (.exit i) σ w := h
theorem EXI.seq_ret {K : Act → World → Prop} (h : EXI n ds Q .ret σ w) : EXI n ds (Exit.then K Q) .ret σ w := h
theorem EXI.blk {id : Nat} (h : EXI n ds Q .normal σ w) : EXI n ds (Exit.inBlock id Q) .normal σ w := h
theorem EXI.blk_ret {id : Nat} (h : EXI n ds Q .ret σ w) : EXI n ds (Exit.inBlock id Q) .ret σ w := h
theorem EXI.blk_here {id : Nat} (h : EXI n ds Q .normal σ w) : EXI n ds (Exit.inBlock id Q) (.exit id) σ w := fun a ha => by
 simp only [Exit.inBlock, if_true]
 exact h a ha
theorem EXI.blk_other {id i : Nat} (hi : Nat.beq i id = false) (h : EXI n ds Q (.exit i) σ w) : EXI n ds (Exit.inBlock id Q) (.exit i) σ w := fun a ha => by
 simp only [Exit.inBlock, if_neg (Nat.ne_of_beq_eq_false hi)]
 exact h a ha
end
/-! ### What a body leaves as it was -/
structure Kp (n0 : Nat) (S : List Nat) (W W' : World) : Prop where
 os : W'.os = W.os
 tape : W'.tape = W.tape
 output : W'.output = W.output
 size : W.heap.size ≤ W'.heap.size
 low : ∀ k, k < n0 → W'.heap[k]? = W.heap[k]?
 blk : ∀ g T cs, Blk W g T cs → memB S T = false → Blk W' g T cs
section
variable {n0 : Nat} {S : List Nat} {A B C : World}
theorem Kp.refl (n0 : Nat) (S : List Nat) (W : World) : Kp n0 S W W := ⟨rfl, rfl, rfl, Nat.le_refl _, fun _ _ => rfl, fun _ _ _ h _ => h⟩
theorem Kp.trans (h : Kp n0 S A B) (k : Kp n0 S B C) : Kp n0 S A C := ⟨k.os.trans h.os, k.tape.trans h.tape, k.output.trans h.output, Nat.le_trans h.size k.size, fun i hi => (k.low i hi).trans (h.low i hi), fun g T cs hg hT => k.blk g T cs (h.blk g T cs hg hT) hT⟩
theorem Kp.of_below (h : Below A.heap.size A B) (hn : n0 ≤ A.heap.size) : Kp n0 S A B := ⟨h.os, h.tape, h.output, h.size, fun k hk => h.block k (by omega), fun g T cs hg _ => hg.below h hg.lt⟩
theorem Kp.below (h : Kp n0 S A B) : Below n0 A B := ⟨h.os, h.tape, h.output, h.size, h.low⟩
theorem Kp.alloc (W : World) (hn : n0 ≤ W.heap.size) (o : Obj) : Kp n0 S W (W.alloc o) := Kp.of_below ((Below.refl _ _).alloc (Nat.le_refl _) _) hn
theorem Kp.putObj {W : World} {l : Nat} {o : Obj} (o' : Obj) (hl : n0 ≤ l) (ho : W.heap[l]? = some o) (hc : o.isCells = false) : Kp n0 S W (W.putObj l o') :=
 ⟨rfl, rfl, rfl, by simp, fun k hk => World.putObj_heap_other (by omega), fun g T cs hg _ => by
  unfold Blk at hg ⊢
  by_cases e : g = l
  ·subst e
   rw [ho] at hg
   injection hg with hg
   subst hg
   cases hc
  ·exact (World.putObj_heap_other e).trans hg⟩
/-- a store to a block of one of the kinds -/
theorem Kp.grown {w w' : World} {g T : Nat} {cs : Array Value} (hq : Blk w g T cs) (hT : memB S T = true) (hn : n0 ≤ g) (hg : w.grownBy w' (some g)) : Kp n0 S w w' :=
 ⟨hg.os, hg.tape, hg.output, hg.size, fun k hk => by
  by_cases e : k < w.heap.size
  ·exact hg.block k e (fun h => by injection h; omega)
  ·have := hq.lt; omega, fun k T' cs' hk hT' => by
  refine (hg.block k hk.lt fun h => ?_).trans hk
  injection h with h
  subst h
  unfold Blk at hk hq
  rw [hq] at hk
  injection hk with hk
  injection hk with _ h2
  subst h2;rw [hT] at hT'
  cases hT'⟩
theorem Kp.own {w w' : World} {base e size n : Nat} {v : Value} {xs : List Value} (h : w.ownsRow base e size v n xs) (hT : memB S e = true) (hn : n0 ≤ base) (hn2 : n0 ≤ w.heap.size) (hg : w.grownBy w' v.ownBlock) : Kp n0 S w w' := by
 obtain ⟨_, ⟨rfl, _⟩ | ⟨g, cap, cur, rfl, hb, hk, _⟩⟩ := h
 ·exact Kp.of_below ⟨hg.os, hg.tape, hg.output, hg.size, fun k hk => hg.block k hk (by simp [Value.ownBlock])⟩ hn2
 ·exact Kp.grown (cs := cur) hk hT (by omega) hg
theorem Kp.row {w w' : World} {base e size n : Nat} {v : Value} {xs : List Value} (h : Kp n0 S w w') (ho : w.ownsRow base e size v n xs) (hT : memB S e = false) : w'.ownsRow base e size v n xs := by
 obtain ⟨hl, h0 | ⟨g, cap, cur, hv, hb, hk, h1⟩⟩ := ho
 ·exact ⟨hl, .inl h0⟩
 ·exact ⟨hl, .inr ⟨g, cap, cur, hv, hb, h.blk g e cur hk hT, h1⟩⟩
end
/-! ### An iterator that hands lists of integers -/
abbrev It := List Int × Value
def YieldW (P : Program) (l : Nat) (args : Array Value) (W : World) (R : Ending → World → Prop) : Prop :=
 ∃ fn tmps assign body, (Instr.yield l args).run P W = .ok (.round l fn tmps assign body) W ∧ RoundIn Fence.wide 0 P l fn tmps assign body W R
section
variable {P : Program} {n : Nat} {ds : List Deferred} {σ : Sg} {w : World} {Q : Exit → Act → World → Prop}
theorem env_arg {d : Nat} {a : Act} {v : Value} (h : EnvG n ds σ a) (hd : Nat.blt d n = true) : EnvG n [] (ins σ d v) ⟨(#[d].zip #[v]).foldl (fun t (p, v) => t.setIfInBounds p v) a.tmps, []⟩ := by
 have h1 := (Env.put (a := ⟨a.tmps, []⟩) h.env hd v).g
 simpa [Act.put] using h1
/-! ### Leaving with marks -/
def Marks (n0 : Nat) (ds : List Deferred) (W : World) : Prop := ∀ d ∈ ds, ∃ D, n0 ≤ D ∧ d = { target := .collected D, args := #[] } ∧ W.heap[D]? = some (.deferred (some []))
/-- what taking the marks does -/
structure Took (n0 : Nat) (w w' : World) : Prop where
 below : Below n0 w w'
 size : w'.heap.size = w.heap.size
 blk : ∀ g T cs, Blk w g T cs → Blk w' g T cs
theorem leaves_marks {fn : Func} {tmps : Array Value} {R : Ending → World → Prop} {n0 k : Nat} : ∀ (ds : List Deferred) (w : World), Marks n0 ds w → ds.Nodup → (∀ w', Took n0 w w' → ∃ v, (results fn tmps).run P w' = .ok v w' ∧ R (.returned v) w') → LeavesInM Fence.wide k P fn tmps R ds .returning w
 | [], w, _, _, h => h w ⟨Below.refl _ _, rfl, fun _ _ _ h => h⟩
 | d :: ds, w, hm, hd, h => by
  obtain ⟨D, hD, rfl, hw⟩ := hm d (List.mem_cons_self ..);have ho : ∀ j, j ≠ D → (w.putObj D (.deferred none)).heap[j]? = w.heap[j]? := fun j hj => World.putObj_heap_other hj
  refine ⟨by simp, .inl ⟨D, _, rfl, run_takeDeferred hw, leaves_marks (n0 := n0) ds _ (fun d' hd' => ?_) (List.nodup_cons.1 hd).2 fun w' ht => h w' ?_⟩⟩
  ·obtain ⟨D', h1, rfl, h3⟩ := hm d' (List.mem_cons_of_mem _ hd')
   refine ⟨D', h1, rfl, (ho D' fun e => ?_).trans h3⟩
   subst e
   exact (List.nodup_cons.1 hd).1 hd'
  ·have hk : Kp n0 [] w (w.putObj D (.deferred none)) := Kp.putObj _ hD hw rfl
   exact ⟨hk.below.trans ht.below, ht.size.trans (by simp), fun g T cs hg => ht.blk g T cs (hk.blk g T cs hg rfl)⟩
theorem EC.marks {fn : Func} {f : FuncId} {c : Code} {args : List Value} {R : Ending → World → Prop} (n : Nat) (hf : P.funcs[f]? = some fn) (hb : fn.body = some c) (hn : fn.ntmps = n) (hl : Nat.ble args.length n = true) (h : ECI none 0 P n [] c (bodyPostM Fence.wide 0 P fn R) (argsS args 0) w) : Calls P f args.toArray w R := by
 subst hn;refine (callsIn_wide (n := 0)).1 (callsIn_of_wp_marks hf hb trivial ?_);have := h _ (env_args (l := args) (by simpa [Nat.ble_eq] using hl)).g
 simp only [List.size_toArray] at this ⊢
 exact this
theorem EXI.done {fn : Func} {R : Ending → World → Prop} {n0 : Nat} {v : Value} (hm : Marks n0 ds w) (hd : ds.Nodup) (hr : ∀ w', Took n0 w w' → ∀ a, Env n σ a → (results fn a.tmps).run P w' = .ok v w') (h : ∀ w', Took n0 w w' → R (.returned v) w') : EXI n ds (bodyPostM Fence.wide 0 P fn R) .ret σ w := fun a ha => by
 show LeavesInM Fence.wide 0 P fn a.tmps R a.defers .returning w
 rw [ha.ds]
 exact leaves_marks ds w hm hd fun w' ht => ⟨v, hr w' ht ⟨a.tmps, []⟩ ha.env, h w' ht⟩
end
/-! ### An append to a slice that is full, and only read -/
section
variable {P : Program} {w : World}
theorem run_grow {t e : TypeId} {size bytes base B B' m k ty : Nat} {A : Option Addr} (E : Elem P t e size bytes) {src : Value} {xs news : List Value} (hold : Rd w B' size (.slice A k k) k xs) (hr : Rd w B size src m news) (hm0 : 0 < m) (hm : k + m ≤ 1048576) (hby : bytes ≤ 1048576) (hbase : base ≤ w.heap.size) :
  ∃ v' w', (Builtin.append_ #[t, t] ty #[.slice A k k, src]).run P w = .ok v' w' ∧ w'.ownsRow base e size v' (k + m) (xs ++ news) ∧ Below w.heap.size w w' ∧ v'.ownBlock = some w.heap.size := by
 obtain ⟨i, z, hi, hz, hsize, hb, hzs⟩ := E.hi;subst hsize;obtain ⟨hl, X, c, rfl, hnc, hr⟩ := hr;obtain ⟨b, off, rfl, _, hc⟩ := hr hm0;obtain ⟨hlo, A', c', h8, _, hrd⟩ := hold
 injection h8 with h8 _ _
 subst h8;have hkm : (k + m) * i.bytes ≤ 1048576 * i.bytes := Nat.mul_le_mul_right _ (by omega)
 have hmm : m * i.bytes ≤ 1048576 * i.bytes := Nat.mul_le_mul_right _ (by omega)
 have hlen : (xs ++ news).length = (k + m) * i.size := by rw [List.length_append, hlo, hl, Nat.add_mul]
 have hal : ∀ o, Below w.heap.size w (w.drew.alloc o) := fun o => ⟨rfl, rfl, rfl, by simp, fun j hj => by
  simp only [World.alloc, World.drew]
  rw [Array.getElem?_push_lt hj, Array.getElem?_eq_getElem hj]⟩
 have grown : ∀ old : Nat, (w.drew.alloc (.cells (xs.toArray ++ news.toArray ++ Builtin.zeroCells z.cells (grownCap w (k + m) old e - (k + m))) e)).ownsRow base e i.size (.slice (some ⟨w.heap.size, 0, none⟩) (k + m) (grownCap w (k + m) old e)) (k + m) (xs ++ news) := fun old => by
  have hge := grownCap_ge w (k + m) old e;have hcm : grownCap w (k + m) old e ≤ maxLen := grownCap_le_maxLen w (k + m) old e (by simp only [maxLen]; omega)
  refine ⟨hlen, .inr ⟨w.heap.size, _, _, rfl, hbase, heap_alloc_new w.drew _, hge, hcm, ?_, ?_⟩⟩
  ·simp only [Array.size_append, List.size_toArray, size_zeroCells, hzs, hlo, hl, ← Nat.add_mul]
   congr 1
   omega
  ·simp only [Array.toList_append, List.append_assoc]
   rw [← List.append_assoc, ← hlen]
   exact List.take_left
 rcases A with _ | ad
 ·have hk0 : k = 0 := by
   rcases Nat.eq_zero_or_pos k with h | h
   ·exact h
   ·obtain ⟨_, _, h9, _⟩ := hrd h; cases h9
  subst hk0;have hx : xs = [] := List.eq_nil_of_length_eq_zero (by simpa using hlo)
  subst hx;have h7 := run_append_nil (P := P) w t ty e i z E.ht hi hz ⟨b, off, none⟩ m c news hl (fun j u hu => by rw [Addr.add_lit]; exact hc j u hu) hm0 (by omega) (by omega)
  have hg := grown 0
  simp only [Nat.zero_add, List.nil_append, Array.empty_append] at hg ⊢
  exact ⟨_, _, h7, hg, hal _, rfl⟩
 ·have holds : ∀ j u, xs[j]? = some u → w.cell? (ad.add j) = some u := fun j u hu => by
   rcases Nat.eq_zero_or_pos k with h | h
   ·subst h
    have hx : xs = [] := List.eq_nil_of_length_eq_zero (by simpa using hlo)
    subst hx
    simp at hu
   ·obtain ⟨b', off', h9, _, h10⟩ := hrd h
    injection h9 with h9
    subst h9;rw [Addr.add_lit]
    exact h10 j u hu
  have h7 := run_append_grow (P := P) w t ty e i z E.ht hi hz ad k k xs hlo holds ⟨b, off, none⟩ m c news hl (fun j u hu => by rw [Addr.add_lit]; exact hc j u hu) (by omega) (by omega) (growslice_fits (by omega) (by omega))
  exact ⟨_, _, h7, grown k, hal _, rfl⟩
end
theorem rd_clip {w : World} {B size n c : Nat} {A : Option Addr} {xs : List Value} (h : Rd w B size (.slice A n c) n xs) : Rd w B size (.slice A n n) n xs := by
 obtain ⟨hl, A', c', h8, _, hrd⟩ := h
 injection h8 with h8 _ _
 subst h8
 exact ⟨hl, A, n, rfl, Nat.le_refl _, hrd⟩
section
variable {P : Program} {n : Nat} {σ : Sg} {L : List Oper} {cls : List (List Nat)} {alc : List Nat} {val : Nat → Value} {a : Act} {w1 : World} {i : Nat} {Q : Exit → Act → World → Prop}
theorem hs_grow {Φ : Nat → (Nat → Value) → World → Prop} {d ty t e size bytes base B B' mm k : Nat} {s x : Operand} {pos : String} {af : Array Edge} {A : Option Addr} (E : Elem P t e size bytes) {src : Value} {xs news : List Value} (ha : Env n σ a) (ho : nthO L i = some ⟨some d, .call { callee := .builtin .append, args := #[s, x], argTypes := #[t, t] }, ty, pos, af, none⟩) (hs : evS σ s = some (.slice A k k)) (hx : evS σ x = some src)
  (hold : Rd w1 B' size (.slice A k k) k xs) (hr : Rd w1 B size src mm news) (hm0 : 0 < mm) (hm : k + mm ≤ 1048576) (hby : Nat.ble bytes 1048576 = true) (hbase : base ≤ w1.heap.size) (halc : memB alc i = false)
  (hΦ : ∀ v' w', w'.ownsRow base e size v' (k + mm) (xs ++ news) → v'.ownBlock = some w1.heap.size → Φ i (res (upd val i v') i (clsAt cls i)) w') : wpOp P L.toArray Q i (HK L cls alc Φ i val a w1) a w1 := by
 obtain ⟨v', w', h2, h3, h4, h5⟩ := run_grow (P := P) (ty := ty) (base := base) E hold hr hm0 hm (by simpa [Nat.ble_eq] using hby) hbase
 exact hs_run ho rfl (run_append_call rfl (ha.eval hs) (ha.eval hx) h2) h4 (hΦ v' w' h3 h5) fun h => by rw [memB_mem.2 h] at halc; cases halc
end
/-- a run that ends as code does -/
theorem EXI.of {n : Nat} {Q : Exit → Act → World → Prop} {e : Exit} {σ : Sg} {w : World} (h : EX n Q e σ w) : EXI n [] Q e σ w := fun a ha => h a ha.e
theorem mono_cp {k e size n : Nat} {xs : List Value} {base : Nat} {f : Option Addr → Nat → Value} {N : Nat} : Mono fun r w => ∃ A c, r k = f A c ∧ w.ownsRow base e size (.slice A N c) n xs := fun _ _ _ hb ⟨A, c, h1, h2⟩ => ⟨A, c, h1, own_below h2 hb (Nat.le_refl _)⟩
section
variable {P : Program} {n : Nat} {σ : Sg} {w : World} {dst : Option Tmp} {ty t t' : TypeId} {pos : String} {af : Array Edge} {g : Option (Nat × Bool)} {x y : Operand}
end
section
variable {ro : Option Nat} {k : Nat} {P : Program} {n : Nat} {ds : List Deferred} {σ τ : Sg} {w : World} {Q : Exit → Act → World → Prop} {L : List Oper} {rest : List Oper}
theorem ECI.loopD {c : Code} {ι : Type} (dl : List Nat) (vs : ι → List (Nat × Value)) (D : ι → List Deferred) (I : ι → World → Prop) (μ : ι → Nat) (i0 : ι) (h0 : I i0 w) (hs : AgreeS σ (vs i0)) (hd : ds = D i0)
  (round : ∀ i w, I i w → ECI ro k P n (D i) c (Exit.then (fun a' w' => ∃ i', EnvG n (D i') (insL (del σ dl) (vs i')) a' ∧ I i' w' ∧ μ i' < μ i) Q) (insL (del σ dl) (vs i)) w) : ECI ro k P n ds (.loop c) Q σ w := by
 intro a ha;subst hd;refine wpIn_loop_ghost (fun m a w => ∃ i, EnvG n (D i) (insL (del σ dl) (vs i)) a ∧ I i w ∧ μ i = m) (μ i0) ⟨i0, ha.sub (sub_insL ((Sub.refl σ).del dl) hs), h0, rfl⟩ fun m a w hI => ?_
 obtain ⟨i, h1, h2, rfl⟩ := hI;refine wpIn_mono (round i w h2 a h1) fun e a' w' hq => ?_
 cases e with
 | normal =>
  obtain ⟨i', h4, h5, h6⟩ := hq
  exact ⟨μ i', h6, i', h4, h5, rfl⟩
 | _ => exact hq
theorem EXI.roundD {ι : Type} {σ0 : Sg} {dl : List Nat} {vs : ι → List (Nat × Value)} {D : ι → List Deferred} {I : ι → World → Prop} {μ : ι → Nat} {i : ι} (i' : ι) (hv : AgreeS σ (vs i')) (hs : Sub (del σ0 dl) σ) (hd : ds = D i') (hI : I i' w) (hm : μ i' < μ i) : EXI n ds (Exit.then (fun a' w' => ∃ i', EnvG n (D i') (insL (del σ0 dl) (vs i')) a' ∧ I i' w' ∧ μ i' < μ i) Q) .normal σ w :=
 fun _ ha => ⟨i', by subst hd; exact ha.sub (sub_insL hs hv), hI, hm⟩
end
/-! ### Appends and copies of any length that fits an address space -/
section
variable {P : Program} {w : World}
variable {n : Nat} {σ : Sg} {L : List Oper} {Q : Exit → Act → World → Prop} {rest : List Oper}
end
/-- what is no row, from block b on, is as it was -/
def KeepsFrom (b : Nat) (W W' : World) : Prop := ∀ (j : Nat) (o : Obj), b ≤ j → W.heap[j]? = some o → o.isCells = false → W'.heap[j]? = some o
theorem KeepsFrom.of {b : Nat} {W W' : World} (h : KeepsOthers W W') : KeepsFrom b W W' := fun j o _ hj hc => h.same j o hj hc
theorem KeepsFrom.trans {b : Nat} {A B C : World} (h : KeepsFrom b A B) (k : KeepsFrom b B C) : KeepsFrom b A C := fun j o hb hj hc => k j o hb (h j o hb hj hc) hc
theorem KeepsFrom.mono {b c : Nat} {A B : World} (h : KeepsFrom b A B) (hc : b ≤ c) : KeepsFrom c A B := fun j o hb hj h2 => h j o (Nat.le_trans hc hb) hj h2
theorem KeepsFrom.refl (b : Nat) (A : World) : KeepsFrom b A A := fun _ _ _ h _ => h
theorem KeepsFrom.below {b : Nat} {A B : World} (h : Below A.heap.size A B) : KeepsFrom b A B := .of (keeps_below h)
/-- abides what is new, and what turns in blocks of the types U from block b on -/
def Turns (b : Nat) (U : List Nat) (A B : World) : Prop := ∃ row, A.grownBy B row ∧ ∀ g, row = some g → b ≤ g ∧ ∃ T cs, memB U T = true ∧ Blk A g T cs
def StaysU (b : Nat) (U : List Nat) (J : List It → World → Prop) : Prop := ∀ s A B, J s A → Turns b U A B → J s B
section
variable {b : Nat} {U : List Nat} {A B : World}
theorem Turns.of_below (h : Below A.heap.size A B) : Turns b U A B := ⟨none, ⟨h.os, h.tape, h.output, h.size, fun k hk _ => h.block k hk⟩, fun _ h => by cases h⟩
theorem Turns.of_box {g T : Nat} {cs : Array Value} (hq : Blk A g T cs) (hT : memB U T = true) (hb : b ≤ g) (hg : A.grownBy B (some g)) : Turns b U A B := ⟨some g, hg, fun k hk => by injection hk with hk; subst hk; exact ⟨hb, T, cs, hT, hq⟩⟩
theorem Turns.blk {g T : Nat} {cs : Array Value} (h : Turns b U A B) (hq : Blk A g T cs) (hT : memB U T = false) : Blk B g T cs := by
 obtain ⟨row, hg, hr⟩ := h;refine hq.grown hg fun e => ?_
 obtain ⟨_, T', cs', h1, h2⟩ := hr g e.symm
 unfold Blk at hq h2
 rw [hq] at h2
 injection h2 with h2
 injection h2 with _ h3
 rw [← h3, hT] at h1
 cases h1
theorem Turns.row {base e size n : Nat} {v : Value} {xs : List Value} (h : Turns b U A B) (ho : A.ownsRow base e size v n xs) (hT : memB U e = false) : B.ownsRow base e size v n xs := by
 obtain ⟨hl, h0 | ⟨g, cap, cur, hv, hb, hk, h1⟩⟩ := ho
 ·exact ⟨hl, .inl h0⟩
 ·exact ⟨hl, .inr ⟨g, cap, cur, hv, hb, h.blk (cs := cur) hk hT, h1⟩⟩
theorem Turns.other {k : Nat} {o : Obj} (h : Turns b U A B) (hk : A.heap[k]? = some o) (hc : o.isCells = false) : B.heap[k]? = some o := by
 obtain ⟨row, hg, hr⟩ := h;refine (hg.block k (Array.getElem?_eq_some_iff.1 hk).1 fun e => ?_).trans hk
 obtain ⟨_, T', cs', h1, h2⟩ := hr k e.symm
 unfold Blk at h2
 rw [hk] at h2
 injection h2 with h2
 subst h2
 cases hc
theorem Turns.size (h : Turns b U A B) : A.heap.size ≤ B.heap.size := by
 obtain ⟨row, hg, _⟩ := h
 exact hg.size
theorem Turns.below {w0 : World} (h : Turns b U A B) (hb : Below b w0 A) (hs : b ≤ A.heap.size) : Below b w0 B := by
 obtain ⟨row, hg, hr⟩ := h
 exact hb.grown hg hs fun g hgr => (hr g hgr).1
theorem Kp.turn {n0 : Nat} {S : List Nat} {w0 : World} {g : Nat} (h : Kp n0 S w0 A) (hg : A.grownBy B (some g)) (h1 : w0.heap.size ≤ g) (h2 : n0 ≤ w0.heap.size) : Kp n0 S w0 B :=
 ⟨hg.os.trans h.os, hg.tape.trans h.tape, hg.output.trans h.output, Nat.le_trans h.size hg.size, fun k hk => (hg.block k (by have := h.size; omega) (fun e => by injection e; omega)).trans (h.low k hk),
  fun k T cs hq hT => (h.blk k T cs hq hT).grown hg fun e => by injection e with e; have := hq.lt; omega⟩
end
/-- abides what is new, what turns in blocks of the types U from block b on, and what is no row from block m on -/
def Soft (b m : Nat) (U : List Nat) (A B : World) : Prop := ∃ row, A.grownBy B row ∧ ∀ g, row = some g → (b ≤ g ∧ ∃ T cs, memB U T = true ∧ Blk A g T cs) ∨ (m ≤ g ∧ ∃ o : Obj, A.heap[g]? = some o ∧ o.isCells = false)
def SoftI (b m : Nat) (U : List Nat) (J : List It → World → Prop) : Prop := ∀ s A B, J s A → Soft b m U A B → J s B
section
variable {b m : Nat} {U : List Nat} {A B : World}
theorem Soft.of_turns (h : Turns b U A B) : Soft b m U A B := let ⟨row, hg, hr⟩ := h; ⟨row, hg, fun g e => .inl (hr g e)⟩
theorem Soft.of_below (h : Below A.heap.size A B) : Soft b m U A B := .of_turns (.of_below h)
theorem Soft.mono {m' : Nat} (h : Soft b m U A B) (hm : m' ≤ m) : Soft b m' U A B := let ⟨row, hg, hr⟩ := h; ⟨row, hg, fun g e => by
 rcases hr g e with h1 | ⟨h1, h2⟩
 ·exact .inl h1
 ·exact .inr ⟨Nat.le_trans hm h1, h2⟩⟩
theorem Soft.blk {g T : Nat} {cs : Array Value} (h : Soft b m U A B) (hq : Blk A g T cs) (hT : memB U T = false) : Blk B g T cs := by
 obtain ⟨row, hg, hr⟩ := h;refine hq.grown hg fun e => ?_
 rcases hr g e.symm with ⟨_, T', cs', h1, h2⟩ | ⟨_, o, h1, h2⟩
 ·unfold Blk at hq h2
  rw [hq] at h2
  injection h2 with h2
  injection h2 with _ h3
  rw [← h3, hT] at h1
  cases h1
 ·unfold Blk at hq
  rw [hq] at h1
  injection h1 with h1
  subst h1
  cases h2
theorem Soft.row {base e size n : Nat} {v : Value} {xs : List Value} (h : Soft b m U A B) (ho : A.ownsRow base e size v n xs) (hT : memB U e = false) : B.ownsRow base e size v n xs := by
 obtain ⟨hl, h0 | ⟨g, cap, cur, hv, hb, hk, h1⟩⟩ := ho
 ·exact ⟨hl, .inl h0⟩
 ·exact ⟨hl, .inr ⟨g, cap, cur, hv, hb, h.blk (cs := cur) hk hT, h1⟩⟩
theorem Soft.below {w0 : World} (h : Soft b m U A B) (hb : Below b w0 A) (hs : b ≤ A.heap.size) (hm : b ≤ m) : Below b w0 B := by
 obtain ⟨row, hg, hr⟩ := h
 exact hb.grown hg hs fun g hgr => by rcases hr g hgr with h1 | h1 <;> omega
theorem Soft.other {k : Nat} {o : Obj} (h : Soft b m U A B) (hk : A.heap[k]? = some o) (hc : o.isCells = false) (hkm : k < m) : B.heap[k]? = some o := by
 obtain ⟨row, hg, hr⟩ := h;refine (hg.block k (Array.getElem?_eq_some_iff.1 hk).1 fun e => ?_).trans hk
 rcases hr k e.symm with ⟨_, T', cs', h1, h2⟩ | ⟨h1, _⟩
 ·unfold Blk at h2
  rw [hk] at h2
  injection h2 with h2
  subst h2
  cases hc
 ·omega
theorem Soft.size (h : Soft b m U A B) : A.heap.size ≤ B.heap.size := by
 obtain ⟨row, hg, _⟩ := h
 exact hg.size
theorem SoftI.own {J : List It → World → Prop} (h : SoftI b m U J) : OwnFrom m J := fun s W W' row hs hg hr => h s W W' hs ⟨row, hg, fun g e => .inr (hr g e)⟩
theorem SoftI.stays {J : List It → World → Prop} (h : SoftI b m U J) : StaysU b U J := fun s A B hs ht => h s A B hs (.of_turns ht)
theorem soft_false : SoftI b m U fun _ _ => False := fun _ _ _ h _ => h
end
def RoundAnsK (n0 : Nat) (S : List Nat) (l : Nat) (J Jx : List It → World → Prop) (pre : List It) (W : World) (e : Ending) (W' : World) : Prop :=
 Kp n0 S W W' ∧ KeepsFrom (l + 1) W W' ∧ ((e = .returned (.bool true) ∧ J pre W') ∨ (e = .returned (.bool false) ∧ Jx pre W'))
def IterAtK (U : List Nat) (P : Program) (gf : Nat) (caps : Array Value) (ok : It → World → Prop) (n0 : Nat) (S : List Nat) (all : List (List Int)) (w : World) : Prop :=
 ∀ (l : Nat) (J Jx : List It → World → Prop) (W : World), Kp n0 S w W → l < W.heap.size → SoftI n0 (l + 1) U J → SoftI n0 (l + 1) U Jx →
  (∀ pre x W1, ok x W1 → J pre W1 → (pre ++ [x]).map (·.1) <+: all → YieldW P l #[x.2] W1 (RoundAnsK n0 S l J Jx (pre ++ [x]) W1)) →
  J [] W → Calls P gf (#[.func (.yield l) #[] #[]] ++ caps) W fun e W' => (∃ v, e = .returned v) ∧ Kp n0 S W W' ∧ ((∃ xs : List It, xs.map (·.1) = all ∧ J xs W') ∨ (∃ pre : List It, pre ≠ [] ∧ pre.map (·.1) <+: all ∧ Jx pre W'))
section
variable {P : Program} {n : Nat} {ds : List Deferred} {σ : Sg} {w : World} {Q : Exit → Act → World → Prop}
theorem ECI.loopB {ro : Option Nat} {k : Nat} {c : Code} {ι : Type} (dl : List Nat) (vs : ι → List (Nat × Value)) (I : ι → World → Prop) (μ : ι → Nat) (i0 : ι) (h0 : I i0 w) (hs : AgreeS σ (vs i0))
  (round : ∀ i w, I i w → ECI ro k P n ds c (Exit.then (fun a' w' => ∃ i', EnvG n ds (insL (del σ dl) (vs i')) a' ∧ I i' w' ∧ μ i' < μ i) Q) (insL (del σ dl) (vs i)) w) : ECI ro k P n ds (.loop c) Q σ w :=
 ECI.loopD dl vs (fun _ => ds) I μ i0 h0 hs rfl round
theorem EXI.roundB {ι : Type} {σ0 : Sg} {dl : List Nat} {vs : ι → List (Nat × Value)} {I : ι → World → Prop} {μ : ι → Nat} {i : ι} (i' : ι) (hv : AgreeS σ (vs i')) (hs : Sub (del σ0 dl) σ) (hI : I i' w) (hm : μ i' < μ i) : EXI n ds (Exit.then (fun a' w' => ∃ i', EnvG n ds (insL (del σ0 dl) (vs i')) a' ∧ I i' w' ∧ μ i' < μ i) Q) .normal σ w :=
 EXI.roundD (D := fun _ => ds) i' hv hs rfl hI hm
/-- .. whose variable is a box: the assign code makes it -/
theorem rangeFB {MT : TypeId} {cs : It → Array Value} {U : List Nat} {k : Nat} {g : Operand} {d : Nat} {assign body : Code} {gf : Nat} {caps : Array Value} (hg : evS σ g = some (.func (.func gf) #[] caps)) (eg : ∀ args w, (callFunc gf args).run P w = .ok (.enter gf args) w) (hd : Nat.blt d n = true)
  {ok : It → World → Prop} {n0 : Nat} {S : List Nat} {all : List (List Int)} (hit : IterAtK U P gf caps ok n0 S all w) (hn0 : n0 ≤ w.heap.size)
  (I Ix : List It → World → Prop) (hIS : SoftI n0 w.heap.size U I) (hIxS : SoftI n0 w.heap.size U Ix) (h0 : I [] w) (hok : OwnFrom w.heap.size ok) (hokB : ∀ x A B, ok x A → Below A.heap.size A B → ok x B) (σ1 : It → Nat → Sg)
  (hassign : ∀ l x W K, ok x W → (∀ g a' W', EnvG n [] (σ1 x g) a' → Blk W' g MT (cs x) → Below W.heap.size W W' → W.heap.size ≤ g → K a' W') → ECI (some l) 0 P n [] assign (Exit.then K (fun _ _ _ => False)) (ins σ d x.2) W)
  (hbody : ∀ l pre x g W, (pre ++ [x]).map (·.1) <+: all → ok x W → I pre W → Blk W g MT (cs x) → w.heap.size ≤ g → w.heap.size ≤ W.heap.size → ECI (some l) 0 P n [] body (fun e _ W' => KeepsFrom w.heap.size W W' ∧ Kp n0 S W W' ∧ ((e = .normal ∧ I (pre ++ [x]) W') ∨ (e = .ret ∧ Ix (pre ++ [x]) W'))) (σ1 x g) W)
  (hdone : ∀ D xs W, w.heap.size ≤ D → xs.map (·.1) = all → I xs W → Kp n0 S w W → W.heap[D]? = some (.deferred (some [])) → EXI n ({ target := .collected D, args := #[] } :: ds) Q .normal σ W)
  (hstop : ∀ D pre W, w.heap.size ≤ D → pre ≠ [] → pre.map (·.1) <+: all → Ix pre W → Kp n0 S w W → W.heap[D]? = some (.deferred (some [])) → EXI n ({ target := .collected D, args := #[] } :: ds) Q .ret σ W) :
  ECI none k P n ds (.rangeFunc g #[d] assign body) Q σ w := fun a ha => by
 have hI := hIS.own;have hIx := hIxS.own;refine wpIn_rangeFunc fun fn hfn => ?_
 obtain ⟨rec, hrec⟩ : ∃ rec : LoopState → Option Code → Loop, rec = fun st pe => { state := st, pending := pe, fn, tmps := a.tmps, params := #[d], assign, body, defers := w.heap.size } := ⟨_, rfl⟩
 obtain ⟨W1, eW1⟩ : ∃ W1, W1 = (w.alloc (.deferred (some []))).alloc (.loop (rec .ready none)) := ⟨_, rfl⟩;have hL := World.alloc_heap_new (w.alloc (.deferred (some []))) (.loop (rec .ready none));rw [World.size_alloc, ← eW1] at hL;have hD : W1.heap[w.heap.size]? = some (.deferred (some [])) := by rw [eW1]; exact (Below.heap_alloc _ _ _ (by simp)).trans (World.alloc_heap_new w _)
 have hs1 : W1.heap.size = w.heap.size + 2 := by rw [eW1]; simp
 have hI1 : I [] W1 := by rw [eW1]; exact hI.alloc _ (hI.alloc _ h0)
 have hK1 : Kp n0 S w W1 := by rw [eW1]; exact (Kp.alloc w hn0 _).trans (Kp.alloc _ (by simp; omega) _)
 refine ⟨w.heap.size + 1, [{ target := .collected w.heap.size, args := #[] }], W1, { target := .fn (.func gf) caps, args := #[.func (.yield (w.heap.size + 1)) #[] #[]] }, W1, gf, #[.func (.yield (w.heap.size + 1)) #[] #[]] ++ caps, W1, ?_, ?_, ?_, ?_, fr_depth _ _, ?_⟩
 ·rw [eW1, hrec]; exact run_enterLoop_outer _ _ _ _ _
 ·simp only [resolve, ha.eval hg]
  simp [go_sem]
 ·intro f' hf'; trivial
 ·simp [invoke, go_sem, eg]
 ·refine CallsIn.mono (callsIn_fr (hit (w.heap.size + 1) (fun pre W => I pre W ∧ w.heap.size + 2 ≤ W.heap.size ∧ W.heap[w.heap.size + 1]? = some (.loop (rec .ready none)) ∧ W.heap[w.heap.size]? = some (.deferred (some [])))
   (fun pre W => Ix pre W ∧ w.heap.size + 2 ≤ W.heap.size ∧ W.heap[w.heap.size + 1]? = some (.loop (rec .done (some .ret))) ∧ W.heap[w.heap.size]? = some (.deferred (some [])))
   W1 hK1 (by omega) ?_ ?_ ?_ ⟨hI1, by omega, hL, hD⟩)) ?_
  ·rintro s A B ⟨h1, h2, h3, h4⟩ hb
   exact ⟨hIS s A B h1 (hb.mono (by omega)), Nat.le_trans h2 hb.size, hb.other h3 rfl (by omega), hb.other h4 rfl (by omega)⟩
  ·rintro s A B ⟨h1, h2, h3, h4⟩ hb
   exact ⟨hIxS s A B h1 (hb.mono (by omega)), Nat.le_trans h2 hb.size, hb.other h3 rfl (by omega), hb.other h4 rfl (by omega)⟩
  ·rintro pre x W hokx ⟨hi, hsz, hl, hk⟩ hpf
   have hlt : w.heap.size + 1 < W.heap.size := by omega
   have hy := run_yield (P := P) (args := #[x.2]) hl (by rw [hrec]; rfl)
   rw [hrec] at hy;refine ⟨fn, _, assign, body, hy, roundIn_of_wpIn hfn (hassign (w.heap.size + 1) x W _ hokx (fun g a' W' ha' hq hbel hgW => ?_) _ (env_arg ha hd))⟩
   have hl' : W'.heap[w.heap.size + 1]? = some (.loop (rec .ready none)) := (hbel.block _ hlt).trans hl;have hk' : W'.heap[w.heap.size]? = some (.deferred (some [])) := (hbel.block _ (by omega)).trans hk
   have hsz' := hbel.size;refine ⟨_, run_beginRound hl' (by rw [hrec]), ?_⟩
   obtain ⟨W2, eW2⟩ : ∃ W2, W2 = W'.putObj (w.heap.size + 1) (.loop { rec .ready none with state := .busy }) := ⟨_, rfl⟩;have hl2 : W2.heap[w.heap.size + 1]? = some (.loop { rec .ready none with state := .busy }) := by rw [eW2]; exact World.putObj_heap_same (by omega)
   have hk2 : W2.heap[w.heap.size]? = some (.deferred (some [])) := by rw [eW2]; exact (World.putObj_heap_other (by omega)).trans hk'
   have hw2 : Kp n0 S W W2 := by rw [eW2]; exact (Kp.of_below hbel (by omega)).trans (Kp.putObj _ (by omega) hl' rfl)
   have hkw2 : KeepsFrom (w.heap.size + 1 + 1) W W2 := (KeepsFrom.below hbel).trans fun j o hj ho _ => by rw [eW2]; exact (World.putObj_heap_other (by omega)).trans ho
   have hi2 : I pre W2 := by rw [eW2]; exact hI.putObj _ (hIS _ _ _ hi (Soft.of_below hbel)) (by omega) hl' rfl
   have hok2 : ok x W2 := by rw [eW2]; exact hok.putObj _ (hokB _ _ _ hokx hbel) (by omega) hl' rfl
   have hq2 : Blk W2 g MT (cs x) := by
    rw [eW2];refine (World.putObj_heap_other fun e => ?_).trans hq
    subst e
    unfold Blk at hq
    rw [hq] at hl'
    cases hl'
   have hsz2 : w.heap.size + 2 ≤ W2.heap.size := Nat.le_trans hsz hw2.size;rw [← eW2];refine wpIn_mono (hbody (w.heap.size + 1) pre x g W2 hpf hok2 hi2 hq2 (by omega) (by omega) a' ha') ?_
   rintro e a3 W3 ⟨hk3, hp3, h3⟩
   have hl3 := hk3 _ _ (by omega) hl2 rfl
   have hd3 := hk3 _ _ (by omega) hk2 rfl
   have fin : ∀ jump : Option Code, ∃ W4, (Instr.endRound (w.heap.size + 1) jump).run P W3 = .ok (.bool jump.isNone) W4 ∧ W4 = W3.putObj (w.heap.size + 1) (.loop (rec (if jump.isNone then .ready else .done) jump)) ∧ (Kp n0 S W W4 ∧ KeepsFrom (w.heap.size + 1 + 1) W W4) ∧ w.heap.size + 2 ≤ W4.heap.size ∧ W4.heap[w.heap.size + 1]? = some (.loop (rec (if jump.isNone then .ready else .done) jump)) ∧ W4.heap[w.heap.size]? = some (.deferred (some [])) := fun jump => by
    have hr := run_endRound (P := P) jump hl3;rw [hrec] at hr ⊢;have hk4 : Kp n0 S W3 (W3.putObj (w.heap.size + 1) (.loop (rec (if jump.isNone then .ready else .done) jump))) := Kp.putObj _ (by omega) hl3 rfl
    rw [hrec] at hk4
    exact ⟨_, hr, rfl, ⟨hw2.trans (hp3.trans hk4), (hkw2.trans (hk3.mono (by omega))).trans fun j o hj ho _ => (World.putObj_heap_other (by omega)).trans ho⟩, Nat.le_trans hsz2 (Nat.le_trans hp3.size hk4.size), World.putObj_heap_same (Array.getElem?_eq_some_iff.1 hl3).1, (World.putObj_heap_other (by omega)).trans hd3⟩
   rcases h3 with ⟨rfl, hi3⟩ | ⟨rfl, hi3⟩
   ·obtain ⟨W4, hr, e4, k4, s4, l4, d4⟩ := fin none
    exact ⟨_, W4, hr, k4.1, k4.2, .inl ⟨rfl, by rw [e4]; exact hI.putObj _ hi3 (by omega) hl3 rfl, s4, l4, d4⟩⟩
   ·obtain ⟨W4, hr, e4, k4, s4, l4, d4⟩ := fin (some .ret)
    exact ⟨_, W4, hr, k4.1, k4.2, .inr ⟨rfl, by rw [e4]; exact hIx.putObj _ hi3 (by omega) hl3 rfl, s4, l4, d4⟩⟩
  ·rintro e W2 ⟨⟨v, rfl⟩, hkk, ⟨xs, hS, hi, hsz, hl, hk⟩ | ⟨pre, hne, hS, hi, hsz, hl, hk⟩⟩
   ·refine ⟨none, _, by have := run_endLoop (P := P) hl (by rw [hrec]; simp); rw [hrec] at this; exact this, ?_⟩
    exact hdone w.heap.size xs _ (Nat.le_refl _) hS (hI.putObj _ hi (by omega) hl rfl) (hK1.trans (hkk.trans (Kp.putObj _ (by omega) hl rfl))) ((World.putObj_heap_other (by omega)).trans hk) _ ⟨ha.env, by rw [List.singleton_append, ha.ds]⟩
   ·refine ⟨some .ret, _, by have := run_endLoop (P := P) hl (by rw [hrec]; simp); rw [hrec] at this; exact this, wpIn_ret ?_⟩
    exact hstop w.heap.size pre _ (Nat.le_refl _) hne hS (hIx.putObj _ hi (by omega) hl rfl) (hK1.trans (hkk.trans (Kp.putObj _ (by omega) hl rfl))) ((World.putObj_heap_other (by omega)).trans hk) _ ⟨ha.env, by rw [List.singleton_append, ha.ds]⟩
end
section
variable {n : Nat} {σ : Sg} {w : World} {dst : Option Tmp} {ty : TypeId} {pos : String} {af : Array Edge} {g : Option (Nat × Bool)} {x y z : Operand} {at' : Array TypeId}
theorem al_50 (a : Act) (_ : Env n σ a) : (execOp a.eval ⟨dst, .alloc 50, ty, pos, af, g⟩).run Try.prog w = .ok (.value (.pointer (some ⟨w.heap.size, 0, none⟩))) (w.alloc (.cells #[.int .i64 0, .int .i64 0] 50)) := by
 simp only [execOp]
 simp [go_sem]
theorem sz_50 : (Try.prog.info? 50).map (·.size) = some 2 := by kernel_rfl
theorem clv_77_0_1_0 {xf x0 : Operand} {v0 : Value} (hf : evS σ xf = some (.func (.func 77) #[] #[])) (h0 : evS σ x0 = some v0) (a : Act) (ha : Env n σ a) : (execOp a.eval ⟨dst, .call { callee := .value xf, args := #[x0], argTypes := at' }, ty, pos, af, g⟩).run Try.prog w = .ok (.enter 77 #[v0]) w := by
 simp only [execOp, resolve, List.map_toArray, List.map_cons, List.map_nil, ha.eval hf, ha.eval h0]
 simp [go_sem, Deferred.ofValue]
theorem cF72 : cF 72 := fun _ _ => by simp [go_sem]
theorem cF73 : cF 73 := fun _ _ => by simp [go_sem]
end
theorem after1 {x : Ev} {i : Nat} {tk : List Tr} (h8 : tk.length = 8) (w : World) : Calls Try.prog 77 #[momV x i tk] w fun e w' => e = .returned (.bool true) ∧ Below w.heap.size w w' := by
 have hbw := Below.refl w.heap.size w;refine EC.enter 3 Try.func77 rfl rfl rfl (EC.seq (EC.region (EL.newP (x_boxA rfl) rfl ?_)));intro g1 w1 q1 hb1 hg1 hl1;have bhbw_1 := Nat.le_trans hbw.size hg1;replace hbw := bo_ hbw hb1;clear hb1 hg1 hl1;refine EL.as rfl rfl (EL.nil (EX.seq (EC.seq (EC.region (EL.as rfl rfl (EL.nil (EX.seq (EC.ret ?_))))))))
 exact EX.done (res1 rfl rfl) ⟨rfl, hbw⟩
theorem afterT_succ {r : Rules} {l : List Ev} {x : Nat} (h : x < l.length) : afterT r (l.take (x + 1)) = stepT r (afterT r (l.take x)) (l.getD x ev0) := by
 unfold afterT
 rw [List.take_succ_eq_append_getElem h, List.foldl_append, getD_in h]
 rfl
theorem afterT_ok {r : Rules} (hr : RulesOk r) (l : List Ev) : TkOk (afterT r l) := foldT_ok hr l tank0_ok
theorem ev_at {r : Rules} {l : List Ev} (hv : l.all (evB r) = true) {x : Nat} (h : x < l.length) : ((l.getD x ev0).kind = 2 ∧ ∃ k : Nat, (l.getD x ev0).number = ((k : Nat) : Int) ∧ k < r.kinds.length) ∨ ((l.getD x ev0).kind = 1 ∧ ∃ k : Nat, (l.getD x ev0).number = ((k : Nat) : Int) ∧ k < r.levels.length) := by
 have h1 := List.all_eq_true.1 hv (l.getD x ev0) (by rw [getD_in h]; exact List.getElem_mem h)
 unfold evB at h1
 simp only [Bool.or_eq_true, Bool.and_eq_true, decide_eq_true_eq, inB_iff] at h1
 rcases h1 with ⟨h2, h3, h4⟩ | ⟨h2, h3, h4⟩
 ·exact .inr ⟨h2, (l.getD x ev0).number.toNat, by omega, by omega⟩
 ·exact .inl ⟨h2, (l.getD x ev0).number.toNat, by omega, by omega⟩
set_option maxHeartbeats 1000000 in
theorem follow_true {ru : Rules} {ua up : List Value} {vl va vp vk : Value} {w : World} {B : Nat} (hr : RdRules w B vl va vp vk ru ua up) (hro : RulesOk ru) {l : List Ev} {v : Value} (hl : Rd w B 2 v l.length (evsC l)) (hv : l.all (evB ru) = true) (hn : l.length ≤ 1048576) (hB : B ≤ w.heap.size) :
  Calls Try.prog 76 #[rulesV vl va vp vk ru, v, .func (.func 77) #[] #[]] w fun e w' => e = .returned (.agg (tkC (afterT ru l)).toArray) ∧ Below w.heap.size w w' := by
 obtain ⟨Al, cl, Aa, ca, Ap, cp, Ak, ck, rfl, rfl, rfl, rfl⟩ := hr.sh4;obtain ⟨Ae, ce, rfl, _⟩ := hl.shape;have hbw := Below.refl w.heap.size w
 unfold rulesV
 refine EC.enter 38 Try.func76 rfl rfl rfl (EC.seq (EC.region (EL.newP (bx_116 rfl) rfl ?_)));intro g1 w1 q1 hb1 hg1 hl1;have bhbw_1 := Nat.le_trans hbw.size hg1;replace hbw := bo_ hbw hb1;clear hb1 hg1 hl1;refine EL.newP al_tank rfl ?_;intro g2 w2 q2 hb2 hg2 hl2;have n1_2 := q1.na hg2;have bhbw_2 := Nat.le_trans hbw.size hg2;replace q1 := q1.bl hb2;replace hbw := bo_ hbw hb2;clear hb2 hg2 hl2;refine EL.nil (EX.seq (EC.seq (EC.seq (EC.region (EL.mv rfl rfl (EL.val (ln_29 rfl) rfl (EL.mv rfl rfl (EL.nil (EX.seq ?_)))))))));refine EC.block ?_;refine EC.loopD [7, 8, 11, 12, 13, 14, 15, 16, 17, 18, 19, 20, 21, 22, 23, 24, 25, 26, 27, 28, 29, 30, 31, 32, 33, 34, 35, 36] (fun x : Nat => [(11, .int .i64 (x : Nat))]) (fun x W => x ≤ l.length ∧ Blk W g1 116 #[.slice Al ru.levels.length cl, .int .i64 ru.fade.lo, .int .i64 ru.fade.hi, .slice Aa ru.allow.length ca, .slice Ap ru.apart.length cp, .slice Ak ru.kinds.length ck] ∧ Blk W g2 120 (tkC (afterT ru (l.take x))).toArray ∧ Below w.heap.size w W) (fun x => l.length - x) 0 ⟨Nat.zero_le _, q1, q2, hbw⟩ ⟨rfl, trivial⟩ ?_
 clear q1 q2 hbw
 rintro x wx ⟨hx, q1, q2, hbw⟩
 by_cases hlt : x < l.length
 ·
  obtain ⟨be, oe, ee, _, c0, c1⟩ := evs_cells l x hlt _ B _ _ _ (hl.below (hbw.mono hB))
  cases ee
  refine EC.seq (EC.region ?_);refine EL.val (x_lss rfl rfl (decide_eq_true (show (((x : Nat) : Int) < ((l.length : Nat) : Int)) by omega))) rfl ?_
  refine EL.nil (EX.seq (EC.seq (EC.yes rfl (EC.skip (EX.seq (EC.seq (EC.block (EC.seq (EC.region ?_)))))))));refine EL.mv rfl rfl (EL.val (ix_29 rfl rfl hlt) rfl (EL.val (ld_50 rfl c0 c1) rfl (EL.newP al_50 rfl ?_)));intro g3 w3 q3 hb3 hg3 hl3;have n1_3 := q1.na hg3;have n2_3 := q2.na hg3;have bhbw_3 := Nat.le_trans hbw.size hg3;replace q1 := q1.bl hb3;replace q2 := q2.bl hb3;replace hbw := bo_ hbw hb3;clear hb3 hg3 hl3;refine EL.as rfl rfl (EL.store rfl rfl q3 sz_50 rfl rfl rfl rfl ?_);intro w4 hq4 hg4;replace q1 := q1.gr hg4 n1_3;replace q2 := q2.gr hg4 n2_3;replace hbw := below_store hbw hg4 bhbw_3;replace q3 := hq4;clear hg4 hq4;refine EL.nil (EX.seq (EC.seq (EC.seq (EC.region (EL.mv rfl rfl (EL.val (ld_50 rfl (q3.at (j := 0) rfl) (q3.at (j := 1) rfl)) rfl (EL.mv rfl rfl (EL.val (x_loadA rfl (q2.range (PartAt.whole _)) Try.underlying120 rfl (sz_120.trans (congrArg some (tkC_8 (afterT_ok hro _).n8).symm))) rfl (EL.val (x_mom rfl rfl rfl (afterT_ok hro _).n8) rfl ?_)))))))));refine EL.call (clv_77_0_1_0 rfl rfl) rfl (after1 (afterT_ok hro _).n8 _) ?_
  rintro e w5 ⟨rfl, hc5⟩
  refine ⟨_, rfl, ?_⟩;replace q1 := q1.bl hc5;replace q2 := q2.bl hc5;replace q3 := q3.bl hc5;replace hbw := bo_ hbw hc5;clear hc5;refine EL.val (x_not rfl) rfl (EL.nil (EX.seq (EC.no rfl (EC.skip (EX.seq (EC.seq (EC.region (EL.val (fa_50_0 rfl) rfl (EL.val (ld_48 rfl (q3.at (j := 0) rfl)) rfl ?_)))))))))
  rcases ev_at hv hlt with ⟨hk2, k, ek, hk⟩ | ⟨hk1, k, ek, hk⟩
  ·
   refine EL.val (x_eql (r := true) rfl rfl (decide_eq_true hk2)) rfl (EL.nil (EX.seq (EC.yes rfl (EC.region (EL.val (ld_116 rfl (q1.at (j := 0) rfl) (q1.at (j := 1) rfl) (q1.at (j := 2) rfl) (q1.at (j := 3) rfl) (q1.at (j := 4) rfl) (q1.at (j := 5) rfl)) rfl (EL.val (x_loadA rfl (q2.range (PartAt.whole _)) Try.underlying120 rfl (sz_120.trans (congrArg some (tkC_8 (afterT_ok hro _).n8).symm))) rfl (EL.val (fa_50_1 rfl) rfl (EL.val (ld_3 rfl (q3.at (j := 1) rfl)) rfl ?_))))))));have hcall := wash_any (k := k) (hr.below (hbw.mono hB)) hro (afterT_ok hro (l.take x)) hk;rw [← ek] at hcall;refine EL.call (cA3 cF72 rfl rfl rfl) rfl hcall ?_
   rintro e w6 ⟨rfl, hc6⟩
   refine ⟨_, rfl, ?_⟩;replace q1 := q1.bl hc6;replace q2 := q2.bl hc6;replace q3 := q3.bl hc6;replace hbw := bo_ hbw hc6;clear hc6
   skip
   refine EL.store (l' := (tkC (washT ru (afterT ru (l.take x)) k))) rfl rfl q2 sz_120 rfl ((lenV_eq _).trans (tkC_8 (washT_ok (afterT_ok hro _) hro k).n8)) (by rw [lenV_eq, Nat.ble_eq]; exact Nat.le_of_eq ((tkC_8 (afterT_ok hro _).n8).symm)) (tkC_one _) ?_
   intro w7 hq7 hg7;rw [spl_whole ((tkC_8 (washT_ok (afterT_ok hro _) hro k).n8).trans (tkC_8 (afterT_ok hro _).n8).symm)] at hq7;replace q1 := q1.gr hg7 n1_2;replace q3 := q3.gr hg7 n2_3.symm;replace hbw := below_store hbw hg7 bhbw_2;replace q2 := hq7;clear hg7 hq7;refine EL.nil (EX.blk (EX.seq (EC.region ?_)));refine EL.val (x_add rfl rfl (c := ((x + 1 : Nat) : Int)) ((IntWalk.i64_in _ ⟨by first | omega | (simp only; omega), by first | omega | (simp only; omega)⟩).trans (by first | omega | (simp only; omega)))) rfl ?_
   refine EL.mv rfl rfl (EL.nil ?_);have hst : afterT ru (l.take (x + 1)) = washT ru (afterT ru (l.take x)) k := by rw [afterT_succ hlt, stepT, if_pos hk2, ek, Int.toNat_natCast]
   rw [← hst] at q2;refine EX.roundD (x + 1) ⟨rfl, trivial⟩ (by repeat first | with_reducible exact .refl _ | refine sp_ rfl ?_ | exact .refl _ | refine sd_ rfl ?_ | refine sn_ ?_) ⟨hlt, q1, q2, hbw⟩ (by omega)
  ·
   have hk2 : ¬(l.getD x ev0).kind = 2 := by omega
   refine EL.val (x_eql (r := false) rfl rfl (decide_eq_false hk2)) rfl (EL.nil (EX.seq (EC.no rfl (EC.region (EL.val (ld_116 rfl (q1.at (j := 0) rfl) (q1.at (j := 1) rfl) (q1.at (j := 2) rfl) (q1.at (j := 3) rfl) (q1.at (j := 4) rfl) (q1.at (j := 5) rfl)) rfl (EL.val (x_loadA rfl (q2.range (PartAt.whole _)) Try.underlying120 rfl (sz_120.trans (congrArg some (tkC_8 (afterT_ok hro _).n8).symm))) rfl (EL.val (fa_50_1 rfl) rfl (EL.val (ld_3 rfl (q3.at (j := 1) rfl)) rfl ?_))))))));have hcall := load_any (k := k) (hr.below (hbw.mono hB)) hro (afterT_ok hro (l.take x)) hk;rw [← ek] at hcall;refine EL.call (cA3 cF73 rfl rfl rfl) rfl hcall ?_
   rintro e w8 ⟨rfl, hc8⟩
   refine ⟨_, rfl, ?_⟩;replace q1 := q1.bl hc8;replace q2 := q2.bl hc8;replace q3 := q3.bl hc8;replace hbw := bo_ hbw hc8;clear hc8
   skip
   refine EL.store (l' := (tkC (loadT ru (afterT ru (l.take x)) k))) rfl rfl q2 sz_120 rfl ((lenV_eq _).trans (tkC_8 (loadT_ok (afterT_ok hro _) hro k).n8)) (by rw [lenV_eq, Nat.ble_eq]; exact Nat.le_of_eq ((tkC_8 (afterT_ok hro _).n8).symm)) (tkC_one _) ?_
   intro w9 hq9 hg9;rw [spl_whole ((tkC_8 (loadT_ok (afterT_ok hro _) hro k).n8).trans (tkC_8 (afterT_ok hro _).n8).symm)] at hq9;replace q1 := q1.gr hg9 n1_2;replace q3 := q3.gr hg9 n2_3.symm;replace hbw := below_store hbw hg9 bhbw_2;replace q2 := hq9;clear hg9 hq9;refine EL.nil (EX.blk (EX.seq (EC.region ?_)));refine EL.val (x_add rfl rfl (c := ((x + 1 : Nat) : Int)) ((IntWalk.i64_in _ ⟨by first | omega | (simp only; omega), by first | omega | (simp only; omega)⟩).trans (by first | omega | (simp only; omega)))) rfl ?_
   refine EL.mv rfl rfl (EL.nil ?_);have hst : afterT ru (l.take (x + 1)) = loadT ru (afterT ru (l.take x)) k := by rw [afterT_succ hlt, stepT, if_neg hk2, ek, Int.toNat_natCast]
   rw [← hst] at q2;refine EX.roundD (x + 1) ⟨rfl, trivial⟩ (by repeat first | with_reducible exact .refl _ | refine sp_ rfl ?_ | exact .refl _ | refine sd_ rfl ?_ | refine sn_ ?_) ⟨hlt, q1, q2, hbw⟩ (by omega)
 ·
  have hxe : x = l.length := by omega
  subst hxe;refine EC.seq (EC.region ?_);refine EL.val (x_lss rfl rfl (decide_eq_false (show ¬(((l.length : Nat) : Int) < ((l.length : Nat) : Int)) by omega))) rfl ?_
  refine EL.nil (EX.seq (EC.seq (EC.no rfl (EC.exit (EX.seq_exit (EX.seq_exit (EX.blk_here (EX.seq (EC.seq ?_)))))))));refine EC.region (EL.val (x_loadA rfl (q2.range (PartAt.whole _)) Try.underlying120 rfl (sz_120.trans (congrArg some (tkC_8 (afterT_ok hro _).n8).symm))) rfl ?_);refine EL.store (l' := (tkC (afterT ru (l.take l.length)))) rfl rfl q2 sz_120 rfl ((lenV_eq _).trans (tkC_8 (afterT_ok hro _).n8)) (by rw [lenV_eq, Nat.ble_eq]; exact Nat.le_of_eq ((tkC_8 (afterT_ok hro _).n8).symm)) (tkC_one _) ?_
  intro w10 hq10 hg10;rw [spl_whole ((tkC_8 (afterT_ok hro _).n8).trans (tkC_8 (afterT_ok hro _).n8).symm)] at hq10;replace q1 := q1.gr hg10 n1_2;replace hbw := below_store hbw hg10 bhbw_2;replace q2 := hq10;clear hg10 hq10;refine EL.nil (EX.seq (EC.ret ?_));rw [List.take_length] at q2
  exact EX.done (resc1 rfl rfl (run_loadVar_mid _ _ 0 120 _ _ (q2.range (PartAt.whole _)) Try.underlying120 rfl (sz_120.trans (congrArg some (tkC_8 (afterT_ok hro l).n8).symm)))) ⟨rfl, hbw⟩
def allE (n : Nat) : List (List Int) := (List.range n).map fun i => [((i : Nat) : Int)]
theorem allE_succ {n : Nat} : allE (n + 1) = allE n ++ [[((n : Nat) : Int)]] := by
 unfold allE
 rw [List.range_succ, List.map_append]
 rfl
theorem allE_pre {x n : Nat} (h : x < n) : allE x ++ [[((x : Nat) : Int)]] <+: allE n := by
 rw [← allE_succ];obtain ⟨k, rfl⟩ : ∃ k, n = (x + 1) + k := ⟨n - (x + 1), by omega⟩
 generalize x + 1 = m
 unfold allE
 rw [List.range_add, List.map_append]
 exact List.prefix_append _ _
/-- what is handed: the moment's number, and the moment -/
def okM (r : Rules) (l : List Ev) (x : It) (_ : World) : Prop := ∃ i : Nat, x.1 = [((i : Nat) : Int)] ∧ x.2 = momV (l.getD i ev0) i (afterT r (l.take i))
theorem okM_mk (r : Rules) (l : List Ev) (i : Nat) {W : World} : okM r l ([((i : Nat) : Int)], momV (l.getD i ev0) i (afterT r (l.take i))) W := ⟨i, rfl, rfl⟩
set_option maxHeartbeats 1000000 in
theorem follow_iter {ru : Rules} {ua up : List Value} {vl va vp vk : Value} {w : World} {B : Nat} (hr : RdRules w B vl va vp vk ru ua up) (hro : RulesOk ru) {l : List Ev} {v : Value} (hl : Rd w B 2 v l.length (evsC l)) (hv : l.all (evB ru) = true) (hn : l.length ≤ 1048576) {n0 : Nat} {S : List Nat} (hBn : B ≤ n0) (hn0 : n0 ≤ w.heap.size) (hS : memB S 116 = false ∧ memB S 120 = false ∧ memB S 50 = false)
  (la : Nat) (J Jx : List It → World → Prop) (W : World) (hkW : Kp n0 S w W) (hJ : StaysU n0 [120, 50] J) (hJx : StaysU n0 [120, 50] Jx)
  (hY : ∀ pre x W1, okM ru l x W1 → J pre W1 → (pre ++ [x]).map (·.1) <+: allE l.length → YieldW Try.prog la #[x.2] W1 (RoundAnsK n0 S la J Jx (pre ++ [x]) W1)) (hJ0 : J [] W) :
  Calls Try.prog 76 #[rulesV vl va vp vk ru, v, .func (.yield la) #[] #[]] W fun e W' => (∃ v, e = .returned v) ∧ Kp n0 S W W' ∧ ((∃ xs : List It, xs.map (·.1) = allE l.length ∧ J xs W') ∨ (∃ pre : List It, pre ≠ [] ∧ pre.map (·.1) <+: allE l.length ∧ Jx pre W')) := by
 obtain ⟨Al, cl, Aa, ca, Ap, cp, Ak, ck, rfl, rfl, rfl, rfl⟩ := hr.sh4;obtain ⟨Ae, ce, rfl, _⟩ := hl.shape;have hkp := Kp.refl n0 S W;have hkw := hkW;have hn0W := Nat.le_trans hn0 hkW.size
 unfold rulesV
 refine EC.enter 38 Try.func76 rfl rfl rfl (EC.seq (EC.region (EL.newP (bx_116 rfl) rfl ?_)));intro g1 w1 q1 hb1 hg1 hl1;have hge_1 := Nat.le_trans hkp.size hg1;replace hkp := hkp.trans (Kp.of_below hb1 (Nat.le_trans hn0W hkp.size));replace hkw := hkw.trans (Kp.of_below hb1 (Nat.le_trans hn0 hkw.size));replace hJ0 := hJ _ _ _ hJ0 (Turns.of_below hb1);clear hb1 hg1 hl1;refine EL.newP al_tank rfl ?_;intro g2 w2 q2 hb2 hg2 hl2;have n1_2 := q1.na hg2;have hge_2 := Nat.le_trans hkp.size hg2;replace q1 := q1.bl hb2;replace hkp := hkp.trans (Kp.of_below hb2 (Nat.le_trans hn0W hkp.size));replace hkw := hkw.trans (Kp.of_below hb2 (Nat.le_trans hn0 hkw.size));replace hJ0 := hJ _ _ _ hJ0 (Turns.of_below hb2);clear hb2 hg2 hl2;refine EL.nil (EX.seq (EC.seq (EC.seq (EC.region (EL.mv rfl rfl (EL.val (ln_29 rfl) rfl (EL.mv rfl rfl (EL.nil (EX.seq ?_)))))))));refine EC.block ?_;refine EC.loopD [7, 8, 11, 12, 13, 14, 15, 16, 17, 18, 19, 20, 21, 22, 23, 24, 25, 26, 27, 28, 29, 30, 31, 32, 33, 34, 35, 36] (fun x : List It × Nat => [(11, .int .i64 (x.2 : Nat))]) (fun x W1 => x.2 ≤ l.length ∧ x.1.map (·.1) = allE x.2 ∧ Blk W1 g1 116 #[.slice Al ru.levels.length cl, .int .i64 ru.fade.lo, .int .i64 ru.fade.hi, .slice Aa ru.allow.length ca, .slice Ap ru.apart.length cp, .slice Ak ru.kinds.length ck] ∧ Blk W1 g2 120 (tkC (afterT ru (l.take x.2))).toArray ∧ Kp n0 S W W1 ∧ Kp n0 S w W1 ∧ J x.1 W1) (fun x => l.length - x.2) ([], 0) ⟨Nat.zero_le _, rfl, q1, q2, hkp, hkw, hJ0⟩ ⟨rfl, trivial⟩ ?_
 clear q1 q2 hkp hkw hJ0
 rintro ⟨pre, x⟩ wx ⟨hx, hall, q1, q2, hkp, hkw, hJ0⟩
 dsimp only at hx hall q2 hJ0
 by_cases hlt : x < l.length
 ·
  obtain ⟨be, oe, ee, _, c0, c1⟩ := evs_cells l x hlt _ B _ _ _ (hl.below (hkw.below.mono hBn))
  cases ee
  refine EC.seq (EC.region ?_);refine EL.val (x_lss rfl rfl (decide_eq_true (show (((x : Nat) : Int) < ((l.length : Nat) : Int)) by omega))) rfl ?_
  refine EL.nil (EX.seq (EC.seq (EC.yes rfl (EC.skip (EX.seq (EC.seq (EC.block (EC.seq (EC.region ?_)))))))));refine EL.mv rfl rfl (EL.val (ix_29 rfl rfl hlt) rfl (EL.val (ld_50 rfl c0 c1) rfl (EL.newP al_50 rfl ?_)));intro g3 w3 q3 hb3 hg3 hl3;have n1_3 := q1.na hg3;have n2_3 := q2.na hg3;have hge_3 := Nat.le_trans hkp.size hg3;replace q1 := q1.bl hb3;replace q2 := q2.bl hb3;replace hkp := hkp.trans (Kp.of_below hb3 (Nat.le_trans hn0W hkp.size));replace hkw := hkw.trans (Kp.of_below hb3 (Nat.le_trans hn0 hkw.size));replace hJ0 := hJ _ _ _ hJ0 (Turns.of_below hb3);clear hb3 hg3 hl3;refine EL.as rfl rfl (EL.store rfl rfl q3 sz_50 rfl rfl rfl rfl ?_);intro w4 hq4 hg4;replace q1 := q1.gr hg4 n1_3;replace q2 := q2.gr hg4 n2_3;replace hkp := hkp.turn hg4 hge_3 hn0W;replace hkw := hkw.turn hg4 (Nat.le_trans hkW.size hge_3) hn0;replace hJ0 := hJ _ _ _ hJ0 (Turns.of_box q3 rfl (Nat.le_trans hn0W hge_3) hg4);replace q3 := hq4;clear hg4 hq4;refine EL.nil (EX.seq (EC.seq (EC.seq (EC.inn (k := 0) (ECI.region (ELI.val (x_move rfl) rfl (ELI.val (ld_50 rfl (q3.at (j := 0) rfl) (q3.at (j := 1) rfl)) rfl (ELI.val (x_move rfl) rfl (ELI.val (x_loadA rfl (q2.range (PartAt.whole _)) Try.underlying120 rfl (sz_120.trans (congrArg some (tkC_8 (afterT_ok hro _).n8).symm))) rfl ?_)))))))));refine ELI.val (x_mom rfl rfl rfl (afterT_ok hro _).n8) rfl ?_;have hpf : (pre ++ [([((x : Nat) : Int)], momV (l.getD x ev0) x (afterT ru (l.take x)))]).map (·.1) <+: allE l.length := by rw [List.map_append, hall]; exact allE_pre hlt
  obtain ⟨fn_, tmps_, assign_, body_, hi_, hR_⟩ := hY pre ([((x : Nat) : Int)], momV (l.getD x ev0) x (afterT ru (l.take x))) _ (okM_mk ru l x) hJ0 hpf;refine ELI.yield rfl rfl rfl hi_ hR_ ?_
  rintro e wy ⟨hky, hkf, ⟨rfl, hJy⟩ | ⟨rfl, hJy⟩⟩
  ·
   refine ⟨_, rfl, ?_⟩;refine ELI.val (x_not rfl) rfl (ELI.nil (EXI.of ?_));replace hkp := hkp.trans hky;replace hkw := hkw.trans hky;replace q1 := hky.blk _ _ _ q1 hS.1;replace q2 := hky.blk _ _ _ q2 hS.2.1;replace q3 := hky.blk _ _ _ q3 hS.2.2;have hJ0 := hJy;refine EX.seq (EC.no rfl (EC.skip (EX.seq (EC.seq (EC.region (EL.val (fa_50_0 rfl) rfl (EL.val (ld_48 rfl (q3.at (j := 0) rfl)) rfl ?_)))))))
   rcases ev_at hv hlt with ⟨hk2, k, ek, hk⟩ | ⟨hk1, k, ek, hk⟩
   ·
    refine EL.val (x_eql (r := true) rfl rfl (decide_eq_true hk2)) rfl (EL.nil (EX.seq (EC.yes rfl (EC.region (EL.val (ld_116 rfl (q1.at (j := 0) rfl) (q1.at (j := 1) rfl) (q1.at (j := 2) rfl) (q1.at (j := 3) rfl) (q1.at (j := 4) rfl) (q1.at (j := 5) rfl)) rfl (EL.val (x_loadA rfl (q2.range (PartAt.whole _)) Try.underlying120 rfl (sz_120.trans (congrArg some (tkC_8 (afterT_ok hro _).n8).symm))) rfl (EL.val (fa_50_1 rfl) rfl (EL.val (ld_3 rfl (q3.at (j := 1) rfl)) rfl ?_))))))));have hcall := wash_any (k := k) (hr.below (hkw.below.mono hBn)) hro (afterT_ok hro (l.take x)) hk;rw [← ek] at hcall;refine EL.call (cA3 cF72 rfl rfl rfl) rfl hcall ?_
    rintro e w5 ⟨rfl, hc5⟩
    refine ⟨_, rfl, ?_⟩;replace q1 := q1.bl hc5;replace q2 := q2.bl hc5;replace q3 := q3.bl hc5;replace hkp := hkp.trans (Kp.of_below hc5 (Nat.le_trans hn0W hkp.size));replace hkw := hkw.trans (Kp.of_below hc5 (Nat.le_trans hn0 hkw.size));replace hJ0 := hJ _ _ _ hJ0 (Turns.of_below hc5);clear hc5
    skip
    refine EL.store (l' := (tkC (washT ru (afterT ru (l.take x)) k))) rfl rfl q2 sz_120 rfl ((lenV_eq _).trans (tkC_8 (washT_ok (afterT_ok hro _) hro k).n8)) (by rw [lenV_eq, Nat.ble_eq]; exact Nat.le_of_eq ((tkC_8 (afterT_ok hro _).n8).symm)) (tkC_one _) ?_
    intro w6 hq6 hg6;rw [spl_whole ((tkC_8 (washT_ok (afterT_ok hro _) hro k).n8).trans (tkC_8 (afterT_ok hro _).n8).symm)] at hq6;replace q1 := q1.gr hg6 n1_2;replace q3 := q3.gr hg6 n2_3.symm;replace hkp := hkp.turn hg6 hge_2 hn0W;replace hkw := hkw.turn hg6 (Nat.le_trans hkW.size hge_2) hn0;replace hJ0 := hJ _ _ _ hJ0 (Turns.of_box q2 rfl (Nat.le_trans hn0W hge_2) hg6);replace q2 := hq6;clear hg6 hq6;refine EL.nil (EX.blk (EX.seq (EC.region ?_)));refine EL.val (x_add rfl rfl (c := ((x + 1 : Nat) : Int)) ((IntWalk.i64_in _ ⟨by first | omega | (simp only; omega), by first | omega | (simp only; omega)⟩).trans (by first | omega | (simp only; omega)))) rfl ?_
    refine EL.mv rfl rfl (EL.nil ?_);have hst : afterT ru (l.take (x + 1)) = washT ru (afterT ru (l.take x)) k := by rw [afterT_succ hlt, stepT, if_pos hk2, ek, Int.toNat_natCast]
    rw [← hst] at q2;refine EX.roundD (pre ++ [([((x : Nat) : Int)], momV (l.getD x ev0) x (afterT ru (l.take x)))], x + 1) ⟨rfl, trivial⟩ (by repeat first | with_reducible exact .refl _ | refine sp_ rfl ?_ | exact .refl _ | refine sd_ rfl ?_ | refine sn_ ?_) ⟨hlt, by rw [List.map_append, hall]; exact allE_succ.symm, q1, q2, hkp, hkw, hJ0⟩ (by simp only; omega)
   ·
    have hk2 : ¬(l.getD x ev0).kind = 2 := by omega
    refine EL.val (x_eql (r := false) rfl rfl (decide_eq_false hk2)) rfl (EL.nil (EX.seq (EC.no rfl (EC.region (EL.val (ld_116 rfl (q1.at (j := 0) rfl) (q1.at (j := 1) rfl) (q1.at (j := 2) rfl) (q1.at (j := 3) rfl) (q1.at (j := 4) rfl) (q1.at (j := 5) rfl)) rfl (EL.val (x_loadA rfl (q2.range (PartAt.whole _)) Try.underlying120 rfl (sz_120.trans (congrArg some (tkC_8 (afterT_ok hro _).n8).symm))) rfl (EL.val (fa_50_1 rfl) rfl (EL.val (ld_3 rfl (q3.at (j := 1) rfl)) rfl ?_))))))));have hcall := load_any (k := k) (hr.below (hkw.below.mono hBn)) hro (afterT_ok hro (l.take x)) hk;rw [← ek] at hcall;refine EL.call (cA3 cF73 rfl rfl rfl) rfl hcall ?_
    rintro e w7 ⟨rfl, hc7⟩
    refine ⟨_, rfl, ?_⟩;replace q1 := q1.bl hc7;replace q2 := q2.bl hc7;replace q3 := q3.bl hc7;replace hkp := hkp.trans (Kp.of_below hc7 (Nat.le_trans hn0W hkp.size));replace hkw := hkw.trans (Kp.of_below hc7 (Nat.le_trans hn0 hkw.size));replace hJ0 := hJ _ _ _ hJ0 (Turns.of_below hc7);clear hc7
    skip
    refine EL.store (l' := (tkC (loadT ru (afterT ru (l.take x)) k))) rfl rfl q2 sz_120 rfl ((lenV_eq _).trans (tkC_8 (loadT_ok (afterT_ok hro _) hro k).n8)) (by rw [lenV_eq, Nat.ble_eq]; exact Nat.le_of_eq ((tkC_8 (afterT_ok hro _).n8).symm)) (tkC_one _) ?_
    intro w8 hq8 hg8;rw [spl_whole ((tkC_8 (loadT_ok (afterT_ok hro _) hro k).n8).trans (tkC_8 (afterT_ok hro _).n8).symm)] at hq8;replace q1 := q1.gr hg8 n1_2;replace q3 := q3.gr hg8 n2_3.symm;replace hkp := hkp.turn hg8 hge_2 hn0W;replace hkw := hkw.turn hg8 (Nat.le_trans hkW.size hge_2) hn0;replace hJ0 := hJ _ _ _ hJ0 (Turns.of_box q2 rfl (Nat.le_trans hn0W hge_2) hg8);replace q2 := hq8;clear hg8 hq8;refine EL.nil (EX.blk (EX.seq (EC.region ?_)));refine EL.val (x_add rfl rfl (c := ((x + 1 : Nat) : Int)) ((IntWalk.i64_in _ ⟨by first | omega | (simp only; omega), by first | omega | (simp only; omega)⟩).trans (by first | omega | (simp only; omega)))) rfl ?_
    refine EL.mv rfl rfl (EL.nil ?_);have hst : afterT ru (l.take (x + 1)) = loadT ru (afterT ru (l.take x)) k := by rw [afterT_succ hlt, stepT, if_neg hk2, ek, Int.toNat_natCast]
    rw [← hst] at q2;refine EX.roundD (pre ++ [([((x : Nat) : Int)], momV (l.getD x ev0) x (afterT ru (l.take x)))], x + 1) ⟨rfl, trivial⟩ (by repeat first | with_reducible exact .refl _ | refine sp_ rfl ?_ | exact .refl _ | refine sd_ rfl ?_ | refine sn_ ?_) ⟨hlt, by rw [List.map_append, hall]; exact allE_succ.symm, q1, q2, hkp, hkw, hJ0⟩ (by simp only; omega)
  ·
   refine ⟨_, rfl, ?_⟩;refine ELI.val (x_not rfl) rfl (ELI.nil (EXI.of ?_));replace hkp := hkp.trans hky;replace hkw := hkw.trans hky;replace q1 := hky.blk _ _ _ q1 hS.1;replace q2 := hky.blk _ _ _ q2 hS.2.1;replace q3 := hky.blk _ _ _ q3 hS.2.2;clear hJ0;refine EX.seq (EC.yes rfl (EC.exit (EX.seq_exit (EX.blk_other rfl (EX.seq_exit (EX.seq_exit (EX.blk_here (EX.seq (EC.seq ?_)))))))));refine EC.region (EL.val (x_loadA rfl (q2.range (PartAt.whole _)) Try.underlying120 rfl (sz_120.trans (congrArg some (tkC_8 (afterT_ok hro _).n8).symm))) rfl ?_);refine EL.store (l' := (tkC (afterT ru (l.take x)))) rfl rfl q2 sz_120 rfl ((lenV_eq _).trans (tkC_8 (afterT_ok hro _).n8)) (by rw [lenV_eq, Nat.ble_eq]; exact Nat.le_of_eq ((tkC_8 (afterT_ok hro _).n8).symm)) (tkC_one _) ?_
   intro w9 hq9 hg9;rw [spl_whole ((tkC_8 (afterT_ok hro _).n8).trans (tkC_8 (afterT_ok hro _).n8).symm)] at hq9;replace q1 := q1.gr hg9 n1_2;replace q3 := q3.gr hg9 n2_3.symm;replace hkp := hkp.turn hg9 hge_2 hn0W;replace hkw := hkw.turn hg9 (Nat.le_trans hkW.size hge_2) hn0;replace hJy := hJx _ _ _ hJy (Turns.of_box q2 rfl (Nat.le_trans hn0W hge_2) hg9);replace q2 := hq9;clear hg9 hq9;refine EL.nil (EX.seq (EC.ret ?_))
   exact EX.done (resc1 rfl rfl (run_loadVar_mid _ _ 0 120 _ _ (q2.range (PartAt.whole _)) Try.underlying120 rfl (sz_120.trans (congrArg some (tkC_8 (afterT_ok hro _).n8).symm)))) ⟨⟨_, rfl⟩, hkp, .inr ⟨pre ++ [_], by simp, hpf, hJy⟩⟩
 ·
  have hxe : x = l.length := by omega
  subst hxe;refine EC.seq (EC.region ?_);refine EL.val (x_lss rfl rfl (decide_eq_false (show ¬(((l.length : Nat) : Int) < ((l.length : Nat) : Int)) by omega))) rfl ?_
  refine EL.nil (EX.seq (EC.seq (EC.no rfl (EC.exit (EX.seq_exit (EX.seq_exit (EX.blk_here (EX.seq (EC.seq ?_)))))))));refine EC.region (EL.val (x_loadA rfl (q2.range (PartAt.whole _)) Try.underlying120 rfl (sz_120.trans (congrArg some (tkC_8 (afterT_ok hro _).n8).symm))) rfl ?_);refine EL.store (l' := (tkC (afterT ru (l.take l.length)))) rfl rfl q2 sz_120 rfl ((lenV_eq _).trans (tkC_8 (afterT_ok hro _).n8)) (by rw [lenV_eq, Nat.ble_eq]; exact Nat.le_of_eq ((tkC_8 (afterT_ok hro _).n8).symm)) (tkC_one _) ?_
  intro w10 hq10 hg10;rw [spl_whole ((tkC_8 (afterT_ok hro _).n8).trans (tkC_8 (afterT_ok hro _).n8).symm)] at hq10;replace q1 := q1.gr hg10 n1_2;replace hkp := hkp.turn hg10 hge_2 hn0W;replace hkw := hkw.turn hg10 (Nat.le_trans hkW.size hge_2) hn0;replace hJ0 := hJ _ _ _ hJ0 (Turns.of_box q2 rfl (Nat.le_trans hn0W hge_2) hg10);replace q2 := hq10;clear hg10 hq10;refine EL.nil (EX.seq (EC.ret ?_))
  exact EX.done (resc1 rfl rfl (run_loadVar_mid _ _ 0 120 _ _ (q2.range (PartAt.whole _)) Try.underlying120 rfl (sz_120.trans (congrArg some (tkC_8 (afterT_ok hro _).n8).symm)))) ⟨⟨_, rfl⟩, hkp, .inl ⟨pre, hall, hJ0⟩⟩
section
variable {n : Nat} {σ : Sg} {w : World} {dst : Option Tmp} {ty : TypeId} {pos : String} {af : Array Edge} {g : Option (Nat × Bool)} {x y z : Operand} {at' : Array TypeId}
theorem cF74 : cF 74 := fun _ _ => by simp [go_sem]
theorem cF75 : cF 75 := fun _ _ => by simp [go_sem]
theorem cF76 : cF 76 := fun _ _ => by simp [go_sem]
theorem ld_118 {b o : Nat} {v0 v1 v2 v3 : Value} (hx : evS σ x = some (.pointer (some ⟨b, o, none⟩))) (c0 : w.cell? ⟨b, o, none⟩ = some v0) (c1 : w.cell? ⟨b, o + 1, none⟩ = some v1) (c2 : w.cell? ⟨b, o + 2, none⟩ = some v2) (c3 : w.cell? ⟨b, o + 3, none⟩ = some v3) : Gives Try.prog n σ w ⟨dst, .load 118 x, ty, pos, af, g⟩ (.agg #[v0, v1, v2, v3]) := fun a ha => by
 simp only [execOp, ha.eval hx]
 simp [go_sem, c0, c1, c2, c3]
theorem al_118 (a : Act) (_ : Env n σ a) : (execOp a.eval ⟨dst, .alloc 118, ty, pos, af, g⟩).run Try.prog w = .ok (.value (.pointer (some ⟨w.heap.size, 0, none⟩))) (w.alloc (.cells #[.int .i64 0, .int .i64 0, .bool false, .int .i64 0] 118)) := by
 simp only [execOp]
 simp [go_sem]
theorem fa_118_1 {b o : Nat} (hx : evS σ x = some (.pointer (some ⟨b, o, none⟩))) : Gives Try.prog n σ w ⟨dst, .fieldAddr 118 x 1, ty, pos, af, g⟩ (.pointer (some ⟨b, o + 2, none⟩)) := fun a ha => by
 simp only [execOp, ha.eval hx]
 simp [go_sem]
theorem ld_4 {b o : Nat} {v0 : Value} (hx : evS σ x = some (.pointer (some ⟨b, o, none⟩))) (c0 : w.cell? ⟨b, o, none⟩ = some v0) : Gives Try.prog n σ w ⟨dst, .load 4 x, ty, pos, af, g⟩ (v0) := fun a ha => by
 simp only [execOp, ha.eval hx]
 simp [go_sem, c0]
theorem cA4 {F : FuncId} (hF : cF F) {x0 x1 x2 x3 : Operand} {v0 v1 v2 v3 : Value} (h0 : evS σ x0 = some v0) (h1 : evS σ x1 = some v1) (h2 : evS σ x2 = some v2) (h3 : evS σ x3 = some v3) (a : Act) (ha : Env n σ a) : (execOp a.eval ⟨dst, .call { callee := .value (.func F), args := #[x0, x1, x2, x3], argTypes := at' }, ty, pos, af, g⟩).run Try.prog w = .ok (.enter F #[v0, v1, v2, v3]) w := by
 simp only [execOp, resolve, List.map_toArray, List.map_cons, List.map_nil, ha.eval h0, ha.eval h1, ha.eval h2, ha.eval h3]
 simp [go_sem, Act.eval, hF _ _]
theorem cF50 : cF 50 := fun _ _ => by simp [go_sem]
theorem cF48 : cF 48 := fun _ _ => by simp [go_sem]
theorem cF65 : cF 65 := fun _ _ => by simp [go_sem]
end
theorem hist_ok {ru : Rules} {l : List Ev} (h : histE ru l = 0) : l.all (evB ru) = true ∧ l.length ≤ 100 := by
 unfold histE at h
 split at h
 ·omega
 ·split at h
  ·rename_i h1 h2
   exact ⟨h2, by omega⟩
  ·omega
def tkE (ru : Rules) (l : List Ev) : List Tr := if refE ru l = 0 then afterT ru l else tank0
set_option maxHeartbeats 1000000 in
theorem after_any {ru : Rules} {ua up : List Value} {vl va vp vk : Value} {w : World} {B : Nat} (hr : RdRules w B vl va vp vk ru ua up) (hB : B ≤ w.heap.size) (hs : Short ru) {l : List Ev} {v : Value} (hl : Rd w B 2 v l.length (evsC l)) (hn : l.length ≤ 1048576) :
  Calls Try.prog 48 #[rulesV vl va vp vk ru, v] w fun e w' => e = .returned (.tuple #[rulesV vl va vp vk ru, .agg (tkC (tkE ru l)).toArray, .int .i64 (refE ru l)]) ∧ Below w.heap.size w w' := by
 obtain ⟨Al, cl, Aa, ca, Ap, cp, Ak, ck, rfl, rfl, rfl, rfl⟩ := hr.sh4;obtain ⟨Ae, ce, rfl, _⟩ := hl.shape;have hbw := Below.refl w.heap.size w
 unfold rulesV
 refine EC.enter 28 Try.func48 rfl rfl rfl (EC.seq (EC.region (EL.newP (bx_28 rfl) rfl ?_)));intro g1 w1 q1 hb1 hg1 hl1;have bhbw_1 := Nat.le_trans hbw.size hg1;replace hbw := bo_ hbw hb1;clear hb1 hg1 hl1;refine EL.newP al_116 rfl ?_;intro g2 w2 q2 hb2 hg2 hl2;have n1_2 := q1.na hg2;have bhbw_2 := Nat.le_trans hbw.size hg2;replace q1 := q1.bl hb2;replace hbw := bo_ hbw hb2;clear hb2 hg2 hl2;refine EL.newP al_tank rfl ?_;intro g3 w3 q3 hb3 hg3 hl3;have n1_3 := q1.na hg3;have n2_3 := q2.na hg3;have bhbw_3 := Nat.le_trans hbw.size hg3;replace q1 := q1.bl hb3;replace q2 := q2.bl hb3;replace hbw := bo_ hbw hb3;clear hb3 hg3 hl3;refine EL.as rfl rfl (EL.nil (EX.seq (EC.seq (EC.region (EL.val (ld_28 rfl (q1.at (j := 0) rfl) (q1.at (j := 1) rfl) (q1.at (j := 2) rfl) (q1.at (j := 3) rfl) (q1.at (j := 4) rfl) (q1.at (j := 5) rfl)) rfl ?_)))))
 cases hrb : rulesB ru
 ·
  have hop := open_any (hr.below (hbw.mono hB)) (Nat.le_trans hB hbw.size) hs;rw [hrb] at hop;refine EL.call (cA1 cF74 rfl) rfl (hop) ?_
  rintro e w4 ⟨rfl, hc4⟩
  refine ⟨_, rfl, ?_⟩;replace q1 := q1.bl hc4;replace q2 := q2.bl hc4;replace q3 := q3.bl hc4;replace hbw := bo_ hbw hc4;clear hc4;refine EL.mv rfl rfl (EL.xt rfl rfl rfl (EL.xt rfl rfl rfl (EL.newP al_116 rfl ?_)));intro g5 w5 q5 hb5 hg5 hl5;have n1_5 := q1.na hg5;have n2_5 := q2.na hg5;have n3_5 := q3.na hg5;have bhbw_5 := Nat.le_trans hbw.size hg5;replace q1 := q1.bl hb5;replace q2 := q2.bl hb5;replace q3 := q3.bl hb5;replace hbw := bo_ hbw hb5;clear hb5 hg5 hl5;refine EL.store rfl rfl q5 sz_116 rfl rfl rfl rfl ?_;intro w6 hq6 hg6;replace q1 := q1.gr hg6 n1_5;replace q2 := q2.gr hg6 n2_5;replace q3 := q3.gr hg6 n3_5;replace hbw := below_store hbw hg6 bhbw_5;replace q5 := hq6;clear hg6 hq6;refine EL.as rfl rfl (EL.nil (EX.seq (EC.seq (EC.seq (EC.region (EL.mv rfl rfl ?_))))));refine EL.val (x_eql (r := false) rfl rfl (by decide)) rfl ?_
  refine EL.nil (EX.seq (EC.no rfl (EC.skip (EX.seq (EC.seq (EC.seq (EC.region (EL.mv rfl rfl ?_))))))));refine EL.val (x_neq (r := true) rfl rfl (by decide)) rfl ?_
  refine EL.nil (EX.seq (EC.yes rfl (EC.seq (EC.region (EL.val (ld_116 rfl (q5.at (j := 0) rfl) (q5.at (j := 1) rfl) (q5.at (j := 2) rfl) (q5.at (j := 3) rfl) (q5.at (j := 4) rfl) (q5.at (j := 5) rfl)) rfl (EL.val x_tank0 rfl (EL.mv rfl rfl (EL.store rfl rfl q2 sz_116 rfl rfl rfl rfl ?_))))))));intro w7 hq7 hg7;replace q1 := q1.gr hg7 n1_2;replace q3 := q3.gr hg7 n2_3.symm;replace q5 := q5.gr hg7 n2_5.symm;replace hbw := below_store hbw hg7 bhbw_2;replace q2 := hq7;clear hg7 hq7;refine EL.store (l' := (tkC tank0)) rfl rfl q3 sz_120 rfl ((lenV_eq _).trans (tkC_8 tank0_ok.n8)) (by rw [lenV_eq, Nat.ble_eq]; exact Nat.le_of_eq ((tkC_8 tank0_ok.n8).symm)) (tkC_one _) ?_
  intro w8 hq8 hg8;rw [spl_whole ((tkC_8 tank0_ok.n8).trans (tkC_8 tank0_ok.n8).symm)] at hq8;replace q1 := q1.gr hg8 n1_3;replace q2 := q2.gr hg8 n2_3;replace q5 := q5.gr hg8 n3_5.symm;replace hbw := below_store hbw hg8 bhbw_3;replace q3 := hq8;clear hg8 hq8;refine EL.as rfl rfl (EL.nil (EX.seq (EC.ret (EX.seq_ret ?_))))
  exact EX.done (resc2t rfl rfl rfl rfl (lv_116 (q2.at (j := 0) rfl) (q2.at (j := 1) rfl) (q2.at (j := 2) rfl) (q2.at (j := 3) rfl) (q2.at (j := 4) rfl) (q2.at (j := 5) rfl)) (run_loadVar_mid _ _ 0 120 _ _ (q3.range (PartAt.whole _)) Try.underlying120 rfl (sz_120.trans (congrArg some (tkC_8 tank0_ok.n8).symm)))) ⟨by rw [tkE, refE, hrb]; rfl, hbw⟩
 ·
  have hop := open_any (hr.below (hbw.mono hB)) (Nat.le_trans hB hbw.size) hs;rw [hrb] at hop;refine EL.call (cA1 cF74 rfl) rfl (hop) ?_
  rintro e w9 ⟨rfl, hc9⟩
  refine ⟨_, rfl, ?_⟩;replace q1 := q1.bl hc9;replace q2 := q2.bl hc9;replace q3 := q3.bl hc9;replace hbw := bo_ hbw hc9;clear hc9;refine EL.mv rfl rfl (EL.xt rfl rfl rfl (EL.xt rfl rfl rfl (EL.newP al_116 rfl ?_)));intro g10 w10 q10 hb10 hg10 hl10;have n1_10 := q1.na hg10;have n2_10 := q2.na hg10;have n3_10 := q3.na hg10;have bhbw_10 := Nat.le_trans hbw.size hg10;replace q1 := q1.bl hb10;replace q2 := q2.bl hb10;replace q3 := q3.bl hb10;replace hbw := bo_ hbw hb10;clear hb10 hg10 hl10;refine EL.store rfl rfl q10 sz_116 rfl rfl rfl rfl ?_;intro w11 hq11 hg11;replace q1 := q1.gr hg11 n1_10;replace q2 := q2.gr hg11 n2_10;replace q3 := q3.gr hg11 n3_10;replace hbw := below_store hbw hg11 bhbw_10;replace q10 := hq11;clear hg11 hq11;refine EL.as rfl rfl (EL.nil (EX.seq (EC.seq (EC.seq (EC.region (EL.mv rfl rfl ?_))))));refine EL.val (x_eql (r := true) rfl rfl (by decide)) rfl ?_
  refine EL.nil (EX.seq (EC.yes rfl (EC.region (EL.val (ld_116 rfl (q10.at (j := 0) rfl) (q10.at (j := 1) rfl) (q10.at (j := 2) rfl) (q10.at (j := 3) rfl) (q10.at (j := 4) rfl) (q10.at (j := 5) rfl)) rfl (EL.mv rfl rfl ?_)))));refine EL.call (cA2 cF75 rfl rfl) rfl (check_hist (hr.below (hbw.mono hB)) (Nat.le_trans hB hbw.size) hs l (hl.below (hbw.mono hB)) (by omega)) ?_
  rintro e w12 ⟨rfl, hc12⟩
  refine ⟨_, rfl, ?_⟩;replace q1 := q1.bl hc12;replace q2 := q2.bl hc12;replace q3 := q3.bl hc12;replace q10 := q10.bl hc12;replace hbw := bo_ hbw hc12;clear hc12;refine EL.as rfl rfl (EL.nil (EX.seq (EC.seq (EC.seq (EC.region (EL.mv rfl rfl ?_))))))
  by_cases hh : histE ru l = 0
  ·
   refine EL.val (x_neq (r := false) rfl rfl (decide_eq_false (fun h => h hh))) rfl ?_
   refine EL.nil (EX.seq (EC.no rfl (EC.skip (EX.seq (EC.seq ?_)))));obtain ⟨hv, hn100⟩ := hist_ok hh;have hro := rules_ok hrb;have lt_1 := q1.lt;have lt_2 := q2.lt;have lt_3 := q3.lt;have lt_10 := q10.lt;refine EC.regionP [[], [], [], [1, 2], [0, 1, 2, 3], [0, 1, 2, 3, 4], [0, 1, 2, 3, 4, 5]] 4 [] (phi (fun i_ r => match i_ with | 0 => r 0 = .agg #[.slice Al ru.levels.length cl, .int .i64 ru.fade.lo, .int .i64 ru.fade.hi, .slice Aa ru.allow.length ca, .slice Ap ru.apart.length cp, .slice Ak ru.kinds.length ck] | 1 => r 1 = .agg #[.slice Al ru.levels.length cl, .int .i64 ru.fade.lo, .int .i64 ru.fade.hi, .slice Aa ru.allow.length ca, .slice Ap ru.apart.length cp, .slice Ak ru.kinds.length ck] | 2 => r 2 = .slice Ae l.length ce | 3 => r 3 = .agg (tkC (afterT ru l)).toArray | _ => True) []) (by kernel_rfl) rfl rfl (phi_nil) (fun i_ hi_ => ?_) ?_
   ·match i_, hi_ with
    | 0, _ =>
     intro val w1 a hb ha hd;have ha := ha.s0 (d := 7) rfl
     exact hs_val ha rfl rfl (ld_116 rfl ((q10.below hb q10.lt).at (j := 0) rfl) ((q10.below hb q10.lt).at (j := 1) rfl) ((q10.below hb q10.lt).at (j := 2) rfl) ((q10.below hb q10.lt).at (j := 3) rfl) ((q10.below hb q10.lt).at (j := 4) rfl) ((q10.below hb q10.lt).at (j := 5) rfl)) rfl rfl
    | 1, _ =>
     intro val w1 a hb ha hd;have ha := ha.s0 (d := 7) rfl
     exact hs_val ha rfl rfl (ld_116 rfl ((q10.below hb q10.lt).at (j := 0) rfl) ((q10.below hb q10.lt).at (j := 1) rfl) ((q10.below hb q10.lt).at (j := 2) rfl) ((q10.below hb q10.lt).at (j := 3) rfl) ((q10.below hb q10.lt).at (j := 4) rfl) ((q10.below hb q10.lt).at (j := 5) rfl)) rfl rfl
    | 2, _ =>
     intro val w1 a hb ha hd;have ha := ha.s0 (d := 1) rfl
     exact hs_val ha rfl rfl (x_move rfl) rfl rfl
    | 3, _ =>
     intro val w1 a hb ha hd;have e1 : val 1 = _ := hd 1 (memB_mem.1 rfl);have e2 : val 2 = _ := hd 2 (memB_mem.1 rfl);have ha := ha.s2 (d := 26) (e := 25) rfl e2 rfl e1;refine hs_call ha rfl rfl (cA3 cF76 rfl rfl rfl) (follow_true ((hr.below (hbw.mono hB)).below (hb.mono (Nat.le_trans hB hbw.size))) hro ((hl.below (hbw.mono hB)).below (hb.mono (Nat.le_trans hB hbw.size))) hv (by omega) (Nat.le_trans (Nat.le_trans hB hbw.size) hb.size)) rfl ?_
     rintro e w' ⟨rfl, hb'⟩
     exact ⟨_, rfl, hb', rfl⟩
    | k + 4, h => exact absurd h (by omega)
   ·intro val wR6 hb halc hd
    have e0 : val 0 = _ := hd 0 (by omega)
    have e1 : val 1 = _ := hd 1 (by omega)
    have e2 : val 2 = _ := hd 2 (by omega)
    have e3 : val 3 = _ := hd 3 (by omega)
    refine EL.ends (cs := [_, _, _, _]) ⟨e0, e1, e2, e3, trivial⟩ rfl ?_;replace q1 := q1.bl hb;replace q2 := q2.bl hb;replace q3 := q3.bl hb;replace q10 := q10.bl hb;replace hbw := bo_ hbw hb;clear hb;refine EL.store rfl rfl q2 sz_116 rfl rfl rfl rfl ?_;intro w13 hq13 hg13;replace q1 := q1.gr hg13 n1_2;replace q3 := q3.gr hg13 n2_3.symm;replace q10 := q10.gr hg13 n2_10.symm;replace hbw := below_store hbw hg13 bhbw_2;replace q2 := hq13;clear hg13 hq13;refine EL.store (l' := (tkC (afterT ru l))) rfl rfl q3 sz_120 rfl ((lenV_eq _).trans (tkC_8 (afterT_ok hro l).n8)) (by rw [lenV_eq, Nat.ble_eq]; exact Nat.le_of_eq ((tkC_8 tank0_ok.n8).symm)) (tkC_one _) ?_
    intro w14 hq14 hg14;rw [spl_whole ((tkC_8 (afterT_ok hro l).n8).trans (tkC_8 tank0_ok.n8).symm)] at hq14;replace q1 := q1.gr hg14 n1_3;replace q2 := q2.gr hg14 n2_3;replace q10 := q10.gr hg14 n3_10.symm;replace hbw := below_store hbw hg14 bhbw_3;replace q3 := hq14;clear hg14 hq14;refine EL.as rfl rfl (EL.nil (EX.seq (EC.ret ?_)))
    exact EX.done (resc2t rfl rfl rfl rfl (lv_116 (q2.at (j := 0) rfl) (q2.at (j := 1) rfl) (q2.at (j := 2) rfl) (q2.at (j := 3) rfl) (q2.at (j := 4) rfl) (q2.at (j := 5) rfl)) (run_loadVar_mid _ _ 0 120 _ _ (q3.range (PartAt.whole _)) Try.underlying120 rfl (sz_120.trans (congrArg some (tkC_8 (afterT_ok hro l).n8).symm)))) ⟨by rw [tkE, refE, hrb, if_pos rfl, if_pos hh, hh], hbw⟩
  ·
   refine EL.val (x_neq (r := true) rfl rfl (decide_eq_true hh)) rfl (EL.nil (EX.seq (EC.yes rfl (EC.seq (EC.region (EL.val (ld_116 rfl (q10.at (j := 0) rfl) (q10.at (j := 1) rfl) (q10.at (j := 2) rfl) (q10.at (j := 3) rfl) (q10.at (j := 4) rfl) (q10.at (j := 5) rfl)) rfl (EL.val x_tank0 rfl (EL.mv rfl rfl (EL.store rfl rfl q2 sz_116 rfl rfl rfl rfl ?_)))))))));intro w15 hq15 hg15;replace q1 := q1.gr hg15 n1_2;replace q3 := q3.gr hg15 n2_3.symm;replace q10 := q10.gr hg15 n2_10.symm;replace hbw := below_store hbw hg15 bhbw_2;replace q2 := hq15;clear hg15 hq15;refine EL.store (l' := (tkC tank0)) rfl rfl q3 sz_120 rfl ((lenV_eq _).trans (tkC_8 tank0_ok.n8)) (by rw [lenV_eq, Nat.ble_eq]; exact Nat.le_of_eq ((tkC_8 tank0_ok.n8).symm)) (tkC_one _) ?_
   intro w16 hq16 hg16;rw [spl_whole ((tkC_8 tank0_ok.n8).trans (tkC_8 tank0_ok.n8).symm)] at hq16;replace q1 := q1.gr hg16 n1_3;replace q2 := q2.gr hg16 n2_3;replace q10 := q10.gr hg16 n3_10.symm;replace hbw := below_store hbw hg16 bhbw_3;replace q3 := hq16;clear hg16 hq16;refine EL.as rfl rfl (EL.nil (EX.seq (EC.ret (EX.seq_ret ?_))))
   exact EX.done (resc2t rfl rfl rfl rfl (lv_116 (q2.at (j := 0) rfl) (q2.at (j := 1) rfl) (q2.at (j := 2) rfl) (q2.at (j := 3) rfl) (q2.at (j := 4) rfl) (q2.at (j := 5) rfl)) (run_loadVar_mid _ _ 0 120 _ _ (q3.range (PartAt.whole _)) Try.underlying120 rfl (sz_120.trans (congrArg some (tkC_8 tank0_ok.n8).symm)))) ⟨by rw [tkE, refE, hrb, if_pos rfl, if_neg hh], hbw⟩
set_option maxHeartbeats 1000000 in
theorem forbids_any {ru : Rules} {ua up : List Value} {vl va vp vk : Value} {w : World} {B : Nat} (hr : RdRules w B vl va vp vk ru ua up) (hro : RulesOk ru) {tk : List Tr} (ht : TkOk tk) {b c : Nat} (hb_ : b < ru.levels.length) (hc_ : c < ru.levels.length) :
  Calls Try.prog 50 #[rulesV vl va vp vk ru, .agg (tkC tk).toArray, .int .i64 (b : Nat), .int .i64 (c : Nat)] w fun e w' => e = .returned (.tuple #[.bool (forbT ru tk b c).1, .bool (forbT ru tk b c).2]) ∧ Below w.heap.size w w' := by
 obtain ⟨Al, cl, Aa, ca, Ap, cp, Ak, ck, rfl, rfl, rfl, rfl⟩ := hr.sh4;have h8 : b < 8 := Nat.lt_of_lt_of_le hb_ hro.n8;have hba : b < ru.allow.length := by rw [hro.al]; exact hb_
 have hbp : b < ru.apart.length := by rw [hro.pl]; exact hb_
 have hca : c < (ru.allow.getD b []).length := by rw [hro.ar b hb_]; exact hc_
 have hcp : c < (ru.apart.getD b []).length := by rw [hro.pr b hb_]; exact hc_
 obtain ⟨bo, oo, br, orr, cr, rfl, hp1, hp2⟩ := sq_cells hr.apart hbp hcp;obtain ⟨bo2, oo2, br2, orr2, cr2, rfl, ha1, ha2⟩ := sq_cells hr.allow hba hca;have hp := tr_at tk b (by rw [ht.n8]; exact h8)
 obtain ⟨lo_, hi_, ca_, af_, etr⟩ : ∃ x y z u, tk.getD b tr0 = ⟨x, y, z, u⟩ := ⟨_, _, _, _, rfl⟩;have hbw := Below.refl w.heap.size w
 unfold rulesV
 refine EC.enter 56 Try.func50 rfl rfl rfl (EC.seq (EC.region (EL.newP (bx_116 rfl) rfl ?_)));intro g1 w1 q1 hb1 hg1 hl1;have bhbw_1 := Nat.le_trans hbw.size hg1;replace hbw := bo_ hbw hb1;clear hb1 hg1 hl1;refine EL.newP (x_boxA rfl) rfl ?_;intro g2 w2 q2 hb2 hg2 hl2;have n1_2 := q1.na hg2;have bhbw_2 := Nat.le_trans hbw.size hg2;replace q1 := q1.bl hb2;replace hbw := bo_ hbw hb2;clear hb2 hg2 hl2;refine EL.as rfl rfl (EL.as rfl rfl (EL.nil (EX.seq (EC.seq (EC.region (EL.mv rfl rfl (EL.val (ixa_120 rfl rfl h8) rfl ?_)))))));rw [etr] at hp;have hp0 := Blk.range q2 hp;refine EL.val (ld_118 rfl (by rw [Nat.zero_add]; exact hp0 0 _ rfl) (by rw [Nat.zero_add]; exact hp0 1 _ rfl) (by rw [Nat.zero_add]; exact hp0 2 _ rfl) (by rw [Nat.zero_add]; exact hp0 3 _ rfl)) rfl ?_
 refine EL.newP al_118 rfl ?_;intro g3 w3 q3 hb3 hg3 hl3;have n1_3 := q1.na hg3;have n2_3 := q2.na hg3;have bhbw_3 := Nat.le_trans hbw.size hg3;replace q1 := q1.bl hb3;replace q2 := q2.bl hb3;replace hbw := bo_ hbw hb3;clear hb3 hg3 hl3;refine EL.store rfl rfl q3 sz_118 rfl rfl rfl rfl ?_;intro w4 hq4 hg4;replace q1 := q1.gr hg4 n1_3;replace q2 := q2.gr hg4 n2_3;replace hbw := below_store hbw hg4 bhbw_3;replace q3 := hq4;clear hg4 hq4;refine EL.nil (EX.seq (EC.seq (EC.seq (EC.region (EL.val (fa_118_1 rfl) rfl (EL.val (ld_4 rfl (q3.at (j := 2) rfl)) rfl (EL.val (x_not rfl) rfl (EL.nil (EX.seq ?_)))))))))
 cases ca_
 ·
  refine EC.yes rfl (EC.seq (EC.region (EL.as rfl rfl (EL.as rfl rfl (EL.nil (EX.seq (EC.ret (EX.seq_ret ?_))))))))
  exact EX.done (res2 rfl rfl rfl) ⟨by unfold forbT; rw [etr]; simp [*], hbw⟩
 ·
  refine EC.no rfl (EC.skip (EX.seq (EC.seq ?_)));have lt_1 := q1.lt;have lt_2 := q2.lt;have lt_3 := q3.lt;refine EC.regionP [[], [0], [], [2], [2, 3], [], [2, 3, 4, 5], [2, 3, 4, 5, 6], [], [2, 3, 4, 5, 6, 7, 8], [2, 3, 4, 5, 6, 7, 8, 9], [0, 1, 2, 3, 4, 5, 6, 7, 8, 9, 10], [], [12], [12, 13], [], [12, 13, 14, 15], [12, 13, 14, 15, 16], [], [12, 13, 14, 15, 16, 17, 18], [12, 13, 14, 15, 16, 17, 18, 19], [0, 1, 2, 3, 4, 5, 6, 7, 8, 9, 10, 11], [0, 1, 2, 3, 4, 5, 6, 7, 8, 9, 10, 11, 12, 13, 14, 15, 16, 17, 18, 19, 20, 21]] 22 [] (phi (fun i_ r => match i_ with | 0 => r 0 = .pointer (some ⟨g3, 3, none⟩) | 1 => r 1 = .int .i64 af_ | 2 => r 2 = .pointer (some ⟨g1, 0, none⟩) | 3 => r 3 = .pointer (some ⟨g1, 4, none⟩) | 4 => r 4 = .slice (some ⟨bo, oo, none⟩) ru.apart.length cp | 5 => r 5 = .int .i64 (b : Nat) | 6 => r 6 = .pointer (some ⟨bo, oo + b, none⟩) | 7 => r 7 = .slice (some ⟨br, orr, none⟩) (ru.apart.getD b []).length cr | 8 => r 8 = .int .i64 (c : Nat) | 9 => r 9 = .pointer (some ⟨br, orr + c, none⟩) | 10 => r 10 = .int .i64 (apartAt ru b c) | 11 => r 11 = .bool (decide (af_ < apartAt ru b c)) | 12 => r 12 = .pointer (some ⟨g1, 0, none⟩) | 13 => r 13 = .pointer (some ⟨g1, 3, none⟩) | 14 => r 14 = .slice (some ⟨bo2, oo2, none⟩) ru.allow.length ca | 15 => r 15 = .int .i64 (b : Nat) | 16 => r 16 = .pointer (some ⟨bo2, oo2 + b, none⟩) | 17 => r 17 = .slice (some ⟨br2, orr2, none⟩) (ru.allow.getD b []).length cr2 | 18 => r 18 = .int .i64 (c : Nat) | 19 => r 19 = .pointer (some ⟨br2, orr2 + c, none⟩) | 20 => r 20 = .int .i64 (allowAt ru b c) | 21 => r 21 = .bool (decide (af_ < apartAt ru b c)) | _ => True) []) (by kernel_rfl) rfl rfl (phi_nil) (fun i_ hi_ => ?_) ?_
  ·match i_, hi_ with
   | 0, _ =>
    intro val w1 a hb ha hd;have ha := ha.s0 (d := 10) rfl
    exact hs_val ha rfl rfl (fa_118_2 rfl) rfl rfl
   | 1, _ =>
    intro val w1 a hb ha hd;have e0 : val 0 = _ := hd 0 (memB_mem.1 rfl);have ha := ha.s1 (d := 19) rfl e0
    exact hs_val ha rfl rfl (ld_3 rfl ((q3.below hb q3.lt).at (j := 3) rfl)) rfl rfl
   | 2, _ =>
    intro val w1 a hb ha hd;have ha := ha.s0 (d := 4) rfl
    exact hs_val ha rfl rfl (fa_116_0 rfl) rfl rfl
   | 3, _ =>
    intro val w1 a hb ha hd;have e2 : val 2 = _ := hd 2 (memB_mem.1 rfl);have ha := ha.s1 (d := 21) rfl e2
    exact hs_val ha rfl rfl (fa_28_3 rfl) rfl rfl
   | 4, _ =>
    intro val w1 a hb ha hd;have e3 : val 3 = _ := hd 3 (memB_mem.1 rfl);have ha := ha.s1 (d := 22) rfl e3
    exact hs_val ha rfl rfl (ld_25 rfl ((q1.below hb q1.lt).at (j := 4) rfl)) rfl rfl
   | 5, _ =>
    intro val w1 a hb ha hd;have ha := ha.s0 (d := 2) rfl
    exact hs_val ha rfl rfl (x_move rfl) rfl rfl
   | 6, _ =>
    intro val w1 a hb ha hd;have e4 : val 4 = _ := hd 4 (memB_mem.1 rfl);have e5 : val 5 = _ := hd 5 (memB_mem.1 rfl);have ha := ha.s2 (d := 24) (e := 23) rfl e5 rfl e4
    exact hs_val ha rfl rfl (ix_25 rfl rfl hbp) rfl rfl
   | 7, _ =>
    intro val w1 a hb ha hd;have e6 : val 6 = _ := hd 6 (memB_mem.1 rfl);have ha := ha.s1 (d := 25) rfl e6
    exact hs_val ha rfl rfl (ld_22 rfl (below_load hb (below_load hbw hp1))) rfl rfl
   | 8, _ =>
    intro val w1 a hb ha hd;have ha := ha.s0 (d := 3) rfl
    exact hs_val ha rfl rfl (x_move rfl) rfl rfl
   | 9, _ =>
    intro val w1 a hb ha hd;have e7 : val 7 = _ := hd 7 (memB_mem.1 rfl);have e8 : val 8 = _ := hd 8 (memB_mem.1 rfl);have ha := ha.s2 (d := 27) (e := 26) rfl e8 rfl e7
    exact hs_val ha rfl rfl (ix_22 rfl rfl hcp) rfl rfl
   | 10, _ =>
    intro val w1 a hb ha hd;have e9 : val 9 = _ := hd 9 (memB_mem.1 rfl);have ha := ha.s1 (d := 28) rfl e9
    exact hs_val ha rfl rfl (ld_3 rfl (below_load hb (below_load hbw hp2))) rfl rfl
   | 11, _ =>
    intro val w1 a hb ha hd;have e1 : val 1 = _ := hd 1 (memB_mem.1 rfl);have e10 : val 10 = _ := hd 10 (memB_mem.1 rfl);have ha := ha.s2 (d := 29) (e := 20) rfl e10 rfl e1
    exact hs_val ha rfl rfl (x_lss rfl rfl rfl) rfl rfl
   | 12, _ =>
    intro val w1 a hb ha hd;have ha := ha.s0 (d := 4) rfl
    exact hs_val ha rfl rfl (fa_116_0 rfl) rfl rfl
   | 13, _ =>
    intro val w1 a hb ha hd;have e12 : val 12 = _ := hd 12 (memB_mem.1 rfl);have ha := ha.s1 (d := 31) rfl e12
    exact hs_val ha rfl rfl (fa_28_2 rfl) rfl rfl
   | 14, _ =>
    intro val w1 a hb ha hd;have e13 : val 13 = _ := hd 13 (memB_mem.1 rfl);have ha := ha.s1 (d := 32) rfl e13
    exact hs_val ha rfl rfl (ld_25 rfl ((q1.below hb q1.lt).at (j := 3) rfl)) rfl rfl
   | 15, _ =>
    intro val w1 a hb ha hd;have ha := ha.s0 (d := 2) rfl
    exact hs_val ha rfl rfl (x_move rfl) rfl rfl
   | 16, _ =>
    intro val w1 a hb ha hd;have e14 : val 14 = _ := hd 14 (memB_mem.1 rfl);have e15 : val 15 = _ := hd 15 (memB_mem.1 rfl);have ha := ha.s2 (d := 34) (e := 33) rfl e15 rfl e14
    exact hs_val ha rfl rfl (ix_25 rfl rfl hba) rfl rfl
   | 17, _ =>
    intro val w1 a hb ha hd;have e16 : val 16 = _ := hd 16 (memB_mem.1 rfl);have ha := ha.s1 (d := 35) rfl e16
    exact hs_val ha rfl rfl (ld_22 rfl (below_load hb (below_load hbw ha1))) rfl rfl
   | 18, _ =>
    intro val w1 a hb ha hd;have ha := ha.s0 (d := 3) rfl
    exact hs_val ha rfl rfl (x_move rfl) rfl rfl
   | 19, _ =>
    intro val w1 a hb ha hd;have e17 : val 17 = _ := hd 17 (memB_mem.1 rfl);have e18 : val 18 = _ := hd 18 (memB_mem.1 rfl);have ha := ha.s2 (d := 37) (e := 36) rfl e18 rfl e17
    exact hs_val ha rfl rfl (ix_22 rfl rfl hca) rfl rfl
   | 20, _ =>
    intro val w1 a hb ha hd;have e19 : val 19 = _ := hd 19 (memB_mem.1 rfl);have ha := ha.s1 (d := 38) rfl e19
    exact hs_val ha rfl rfl (ld_3 rfl (below_load hb (below_load hbw ha2))) rfl rfl
   | 21, _ =>
    intro val w1 a hb ha hd;have e11 : val 11 = _ := hd 11 (memB_mem.1 rfl);have ha := ha.s1 (d := 30) rfl e11
    exact hs_val ha rfl rfl (x_assign rfl) rfl rfl
   | k + 22, h => exact absurd h (by omega)
  ·intro val wR4 hb halc hd
   have e0 : val 0 = _ := hd 0 (by omega)
   have e1 : val 1 = _ := hd 1 (by omega)
   have e2 : val 2 = _ := hd 2 (by omega)
   have e3 : val 3 = _ := hd 3 (by omega)
   have e4 : val 4 = _ := hd 4 (by omega)
   have e5 : val 5 = _ := hd 5 (by omega)
   have e6 : val 6 = _ := hd 6 (by omega)
   have e7 : val 7 = _ := hd 7 (by omega)
   have e8 : val 8 = _ := hd 8 (by omega)
   have e9 : val 9 = _ := hd 9 (by omega)
   have e10 : val 10 = _ := hd 10 (by omega)
   have e11 : val 11 = _ := hd 11 (by omega)
   have e12 : val 12 = _ := hd 12 (by omega)
   have e13 : val 13 = _ := hd 13 (by omega)
   have e14 : val 14 = _ := hd 14 (by omega)
   have e15 : val 15 = _ := hd 15 (by omega)
   have e16 : val 16 = _ := hd 16 (by omega)
   have e17 : val 17 = _ := hd 17 (by omega)
   have e18 : val 18 = _ := hd 18 (by omega)
   have e19 : val 19 = _ := hd 19 (by omega)
   have e20 : val 20 = _ := hd 20 (by omega)
   have e21 : val 21 = _ := hd 21 (by omega)
   refine EL.ends (cs := [_, _, _, _, _, _, _, _, _, _, _, _, _, _, _, _, _, _, _, _, _, _]) ⟨e0, e1, e2, e3, e4, e5, e6, e7, e8, e9, e10, e11, e12, e13, e14, e15, e16, e17, e18, e19, e20, e21, trivial⟩ rfl ?_;replace q1 := q1.bl hb;replace q2 := q2.bl hb;replace q3 := q3.bl hb;replace hbw := bo_ hbw hb;clear hb;refine EL.as rfl rfl (EL.nil (EX.seq (EC.seq ?_)))
   cases hso : decide (af_ < apartAt ru b c)
   ·
    by_cases h2 : allowAt ru b c < hi_ <;> by_cases h3 : allowAt ru b c < lo_
    ·
     refine EC.regionQ (by kernel_rfl) (by kernel_rfl) ?_
     refine EQ.mv rfl rfl (EQ.mv rfl rfl ?_);refine EQ.valg rfl rfl (fun _ hw => (fa_118_0 rfl)) rfl ?_
     refine EQ.valg rfl rfl (fun _ hw => (fa_24_1 rfl)) rfl ?_
     refine EQ.valg rfl rfl (fun _ hw => (ld_3 rfl (below_load hw (q3.at (j := 1) rfl)))) rfl ?_
     refine EQ.mg rfl rfl rfl rfl ?_;refine EQ.valg rfl rfl (fun _ hw => (x_gtr (r := true) rfl rfl (decide_eq_true h2))) rfl ?_
     refine EQ.val (fun _ hw => (x_pick_f rfl rfl)) rfl ?_
     refine EQ.mv rfl rfl (EQ.mv rfl rfl ?_);refine EQ.valg rfl rfl (fun _ hw => (fa_118_0 rfl)) rfl ?_
     refine EQ.valg rfl rfl (fun _ hw => (fa_24_0 rfl)) rfl ?_
     refine EQ.valg rfl rfl (fun _ hw => (ld_3 rfl (below_load hw (q3.at (j := 0) rfl)))) rfl ?_
     refine EQ.mg rfl rfl rfl rfl ?_;refine EQ.valg rfl rfl (fun _ hw => (x_gtr (r := true) rfl rfl (decide_eq_true h3))) rfl ?_
     refine EQ.val (fun _ hw => (x_pick_f rfl rfl)) rfl ?_
     refine EQ.val (fun _ hw => (x_assign rfl)) rfl ?_
     refine EQ.val (fun _ hw => (x_assign rfl)) rfl ?_
     refine EQ.fin (fun w5 hw_ => ?_)
     replace q1 := q1.bl hw_;replace q2 := q2.bl hw_;replace q3 := q3.bl hw_;replace hbw := bo_ hbw hw_;clear hw_;refine EX.seq (EC.ret ?_)
     exact EX.done (res2 rfl rfl rfl) ⟨by unfold forbT; rw [etr]; simp [*], hbw⟩
    ·
     refine EC.regionQ (by kernel_rfl) (by kernel_rfl) ?_
     refine EQ.mv rfl rfl (EQ.mv rfl rfl ?_);refine EQ.valg rfl rfl (fun _ hw => (fa_118_0 rfl)) rfl ?_
     refine EQ.valg rfl rfl (fun _ hw => (fa_24_1 rfl)) rfl ?_
     refine EQ.valg rfl rfl (fun _ hw => (ld_3 rfl (below_load hw (q3.at (j := 1) rfl)))) rfl ?_
     refine EQ.mg rfl rfl rfl rfl ?_;refine EQ.valg rfl rfl (fun _ hw => (x_gtr (r := true) rfl rfl (decide_eq_true h2))) rfl ?_
     refine EQ.val (fun _ hw => (x_pick_f rfl rfl)) rfl ?_
     refine EQ.mv rfl rfl (EQ.mv rfl rfl ?_);refine EQ.valg rfl rfl (fun _ hw => (fa_118_0 rfl)) rfl ?_
     refine EQ.valg rfl rfl (fun _ hw => (fa_24_0 rfl)) rfl ?_
     refine EQ.valg rfl rfl (fun _ hw => (ld_3 rfl (below_load hw (q3.at (j := 0) rfl)))) rfl ?_
     refine EQ.mg rfl rfl rfl rfl ?_;refine EQ.valg rfl rfl (fun _ hw => (x_gtr (r := false) rfl rfl (decide_eq_false h3))) rfl ?_
     refine EQ.val (fun _ hw => (x_pick_f rfl rfl)) rfl ?_
     refine EQ.val (fun _ hw => (x_assign rfl)) rfl ?_
     refine EQ.val (fun _ hw => (x_assign rfl)) rfl ?_
     refine EQ.fin (fun w6 hw_ => ?_)
     replace q1 := q1.bl hw_;replace q2 := q2.bl hw_;replace q3 := q3.bl hw_;replace hbw := bo_ hbw hw_;clear hw_;refine EX.seq (EC.ret ?_)
     exact EX.done (res2 rfl rfl rfl) ⟨by unfold forbT; rw [etr]; simp [*], hbw⟩
    ·
     refine EC.regionQ (by kernel_rfl) (by kernel_rfl) ?_
     refine EQ.mv rfl rfl (EQ.mv rfl rfl ?_);refine EQ.valg rfl rfl (fun _ hw => (fa_118_0 rfl)) rfl ?_
     refine EQ.valg rfl rfl (fun _ hw => (fa_24_1 rfl)) rfl ?_
     refine EQ.valg rfl rfl (fun _ hw => (ld_3 rfl (below_load hw (q3.at (j := 1) rfl)))) rfl ?_
     refine EQ.mg rfl rfl rfl rfl ?_;refine EQ.valg rfl rfl (fun _ hw => (x_gtr (r := false) rfl rfl (decide_eq_false h2))) rfl ?_
     refine EQ.val (fun _ hw => (x_pick_f rfl rfl)) rfl ?_
     refine EQ.mv rfl rfl (EQ.mv rfl rfl ?_);refine EQ.valg rfl rfl (fun _ hw => (fa_118_0 rfl)) rfl ?_
     refine EQ.valg rfl rfl (fun _ hw => (fa_24_0 rfl)) rfl ?_
     refine EQ.valg rfl rfl (fun _ hw => (ld_3 rfl (below_load hw (q3.at (j := 0) rfl)))) rfl ?_
     refine EQ.mg rfl rfl rfl rfl ?_;refine EQ.valg rfl rfl (fun _ hw => (x_gtr (r := true) rfl rfl (decide_eq_true h3))) rfl ?_
     refine EQ.val (fun _ hw => (x_pick_f rfl rfl)) rfl ?_
     refine EQ.val (fun _ hw => (x_assign rfl)) rfl ?_
     refine EQ.val (fun _ hw => (x_assign rfl)) rfl ?_
     refine EQ.fin (fun w7 hw_ => ?_)
     replace q1 := q1.bl hw_;replace q2 := q2.bl hw_;replace q3 := q3.bl hw_;replace hbw := bo_ hbw hw_;clear hw_;refine EX.seq (EC.ret ?_)
     exact EX.done (res2 rfl rfl rfl) ⟨by unfold forbT; rw [etr]; simp [*], hbw⟩
    ·
     refine EC.regionQ (by kernel_rfl) (by kernel_rfl) ?_
     refine EQ.mv rfl rfl (EQ.mv rfl rfl ?_);refine EQ.valg rfl rfl (fun _ hw => (fa_118_0 rfl)) rfl ?_
     refine EQ.valg rfl rfl (fun _ hw => (fa_24_1 rfl)) rfl ?_
     refine EQ.valg rfl rfl (fun _ hw => (ld_3 rfl (below_load hw (q3.at (j := 1) rfl)))) rfl ?_
     refine EQ.mg rfl rfl rfl rfl ?_;refine EQ.valg rfl rfl (fun _ hw => (x_gtr (r := false) rfl rfl (decide_eq_false h2))) rfl ?_
     refine EQ.val (fun _ hw => (x_pick_f rfl rfl)) rfl ?_
     refine EQ.mv rfl rfl (EQ.mv rfl rfl ?_);refine EQ.valg rfl rfl (fun _ hw => (fa_118_0 rfl)) rfl ?_
     refine EQ.valg rfl rfl (fun _ hw => (fa_24_0 rfl)) rfl ?_
     refine EQ.valg rfl rfl (fun _ hw => (ld_3 rfl (below_load hw (q3.at (j := 0) rfl)))) rfl ?_
     refine EQ.mg rfl rfl rfl rfl ?_;refine EQ.valg rfl rfl (fun _ hw => (x_gtr (r := false) rfl rfl (decide_eq_false h3))) rfl ?_
     refine EQ.val (fun _ hw => (x_pick_f rfl rfl)) rfl ?_
     refine EQ.val (fun _ hw => (x_assign rfl)) rfl ?_
     refine EQ.val (fun _ hw => (x_assign rfl)) rfl ?_
     refine EQ.fin (fun w8 hw_ => ?_)
     replace q1 := q1.bl hw_;replace q2 := q2.bl hw_;replace q3 := q3.bl hw_;replace hbw := bo_ hbw hw_;clear hw_;refine EX.seq (EC.ret ?_)
     exact EX.done (res2 rfl rfl rfl) ⟨by unfold forbT; rw [etr]; simp [*], hbw⟩
   ·
    refine EC.regionQ (by kernel_rfl) (by kernel_rfl) ?_
    refine EQ.mv rfl rfl (EQ.mv rfl rfl (EQ.skip rfl rfl rfl rfl (EQ.skip rfl rfl rfl rfl (EQ.skip rfl rfl rfl rfl (EQ.skip rfl rfl rfl rfl (EQ.skip rfl rfl rfl rfl ?_))))));refine EQ.val (fun _ hw => (x_pick_t rfl rfl)) rfl ?_
    refine EQ.mv rfl rfl (EQ.mv rfl rfl (EQ.skip rfl rfl rfl rfl (EQ.skip rfl rfl rfl rfl (EQ.skip rfl rfl rfl rfl (EQ.skip rfl rfl rfl rfl (EQ.skip rfl rfl rfl rfl ?_))))));refine EQ.val (fun _ hw => (x_pick_t rfl rfl)) rfl ?_
    refine EQ.val (fun _ hw => (x_assign rfl)) rfl ?_
    refine EQ.val (fun _ hw => (x_assign rfl)) rfl ?_
    refine EQ.fin (fun w9 hw_ => ?_)
    replace q1 := q1.bl hw_;replace q2 := q2.bl hw_;replace q3 := q3.bl hw_;replace hbw := bo_ hbw hw_;clear hw_;refine EX.seq (EC.ret ?_)
    exact EX.done (res2 rfl rfl rfl) ⟨by unfold forbT; rw [etr]; simp [*], hbw⟩
theorem agree_b {σ : Sg} {s : Nat} {b b' : Bool} (h : b = b') (hs : σ s = some (.bool b)) : σ s = some (.bool b') := h ▸ hs
set_option maxHeartbeats 1000000 in
theorem may_any {ru : Rules} {ua up : List Value} {vl va vp vk : Value} {w : World} {B : Nat} (hr : RdRules w B vl va vp vk ru ua up) (hB : B ≤ w.heap.size) (hro : RulesOk ru) {tk : List Tr} (ht : TkOk tk) {c : Nat} (hc_ : c < ru.levels.length) :
  Calls Try.prog 65 #[rulesV vl va vp vk ru, .agg (tkC tk).toArray, .int .i64 (c : Nat)] w fun e w' => e = .returned (.tuple #[.bool (mayT ru tk c ru.levels.length).1, .bool (mayT ru tk c ru.levels.length).2]) ∧ Below w.heap.size w w' := by
 obtain ⟨Al, cl, Aa, ca, Ap, cp, Ak, ck, rfl, rfl, rfl, rfl⟩ := hr.sh4;have hn8 := hro.n8;have hbw := Below.refl w.heap.size w
 unfold rulesV
 refine EC.enter 39 Try.func65 rfl rfl rfl (EC.seq (EC.region (EL.newP (bx_116 rfl) rfl ?_)));intro g1 w1 q1 hb1 hg1 hl1;have bhbw_1 := Nat.le_trans hbw.size hg1;replace hbw := bo_ hbw hb1;clear hb1 hg1 hl1;refine EL.newP (x_boxA rfl) rfl ?_;intro g2 w2 q2 hb2 hg2 hl2;have n1_2 := q1.na hg2;have bhbw_2 := Nat.le_trans hbw.size hg2;replace q1 := q1.bl hb2;replace hbw := bo_ hbw hb2;clear hb2 hg2 hl2;refine EL.as rfl rfl (EL.as rfl rfl (EL.nil (EX.seq (EC.seq (EC.region (EL.as rfl rfl (EL.as rfl rfl (EL.nil (EX.seq ?_)))))))));refine EC.seq (EC.seq (EC.region (EL.val (fa_116_0 rfl) rfl (EL.val (fa_28_0 rfl) rfl (EL.val (ld_22 rfl (q1.at (j := 0) rfl)) rfl (EL.val (ln_22 rfl) rfl (EL.mv rfl rfl (EL.nil (EX.seq ?_)))))))));refine EC.block ?_;refine EC.loopD [6, 7, 8, 9, 10, 15, 16, 17, 18, 19, 20, 21, 22, 23, 24, 25, 26, 27, 28, 29, 30, 31, 32, 33, 34, 35, 36] (fun x : Nat => [(6, .bool (mayT ru tk c x).1), (7, .bool (mayT ru tk c x).2), (15, .int .i64 (x : Nat))]) (fun x W => x ≤ ru.levels.length ∧ Blk W g1 116 #[.slice Al ru.levels.length cl, .int .i64 ru.fade.lo, .int .i64 ru.fade.hi, .slice Aa ru.allow.length ca, .slice Ap ru.apart.length cp, .slice Ak ru.kinds.length ck] ∧ Blk W g2 120 (tkC tk).toArray ∧ Below w.heap.size w W) (fun x => ru.levels.length - x) 0 ⟨Nat.zero_le _, q1, q2, hbw⟩ ⟨rfl, rfl, rfl, trivial⟩ ?_
 clear q1 q2 hbw
 rintro x wx ⟨hx, q1, q2, hbw⟩
 by_cases hlt : x < ru.levels.length
 ·
  cases h1 : (mayT ru tk c x).1 <;> cases h2 : (mayT ru tk c x).2
  ·
   refine EC.seq (EC.region ?_);refine EL.val (x_lss rfl rfl (decide_eq_true (show (((x : Nat) : Int) < ((ru.levels.length : Nat) : Int)) by omega))) rfl ?_
   refine EL.nil (EX.seq (EC.seq (EC.yes rfl (EC.skip (EX.seq (EC.seq (EC.block (EC.seq (EC.region ?_)))))))));refine EL.mv rfl rfl (EL.as rfl rfl (EL.nil (EX.seq (EC.seq (EC.region (EL.val (ld_116 rfl (q1.at (j := 0) rfl) (q1.at (j := 1) rfl) (q1.at (j := 2) rfl) (q1.at (j := 3) rfl) (q1.at (j := 4) rfl) (q1.at (j := 5) rfl)) rfl (EL.val (x_loadA rfl (q2.range (PartAt.whole _)) Try.underlying120 rfl (sz_120.trans (congrArg some (tkC_8 ht.n8).symm))) rfl (EL.mv rfl rfl (EL.mv rfl rfl ?_)))))))));refine EL.call (cA4 cF50 rfl rfl rfl rfl) rfl (forbids_any (hr.below (hbw.mono hB)) hro ht (show x < ru.levels.length from hlt) hc_) ?_
   rintro e w3 ⟨rfl, hc3⟩
   refine ⟨_, rfl, ?_⟩;replace q1 := q1.bl hc3;replace q2 := q2.bl hc3;replace hbw := bo_ hbw hc3;clear hc3;refine EL.mv rfl rfl (EL.xt rfl rfl rfl (EL.xt rfl rfl rfl (EL.as rfl rfl (EL.as rfl rfl (EL.nil (EX.seq (EC.region (EL.mv rfl rfl (EL.mv rfl rfl ?_)))))))));refine EL.skip rfl rfl rfl rfl (EL.skip rfl rfl rfl rfl (EL.pf rfl rfl rfl (EL.mv rfl rfl (EL.mv rfl rfl (EL.skip rfl rfl rfl rfl (EL.skip rfl rfl rfl rfl (EL.pf rfl rfl rfl (EL.as rfl rfl (EL.as rfl rfl ?_)))))))));refine EL.nil (EX.blk (EX.seq (EC.region ?_)));refine EL.val (x_add rfl rfl (c := ((x + 1 : Nat) : Int)) ((IntWalk.i64_in _ ⟨by first | omega | (simp only; omega), by first | omega | (simp only; omega)⟩).trans (by first | omega | (simp only; omega)))) rfl ?_
   refine EL.mv rfl rfl (EL.nil ?_);refine EX.roundD (x + 1) ⟨agree_b (by simp [mayT, *]) rfl, agree_b (by simp [mayT, *]) rfl, rfl, trivial⟩ (by repeat first | with_reducible exact .refl _ | refine sp_ rfl ?_ | exact .refl _ | refine sd_ rfl ?_ | refine sn_ ?_) ⟨hlt, q1, q2, hbw⟩ (by omega)
  ·
   refine EC.seq (EC.region ?_);refine EL.val (x_lss rfl rfl (decide_eq_true (show (((x : Nat) : Int) < ((ru.levels.length : Nat) : Int)) by omega))) rfl ?_
   refine EL.nil (EX.seq (EC.seq (EC.yes rfl (EC.skip (EX.seq (EC.seq (EC.block (EC.seq (EC.region ?_)))))))));refine EL.mv rfl rfl (EL.as rfl rfl (EL.nil (EX.seq (EC.seq (EC.region (EL.val (ld_116 rfl (q1.at (j := 0) rfl) (q1.at (j := 1) rfl) (q1.at (j := 2) rfl) (q1.at (j := 3) rfl) (q1.at (j := 4) rfl) (q1.at (j := 5) rfl)) rfl (EL.val (x_loadA rfl (q2.range (PartAt.whole _)) Try.underlying120 rfl (sz_120.trans (congrArg some (tkC_8 ht.n8).symm))) rfl (EL.mv rfl rfl (EL.mv rfl rfl ?_)))))))));refine EL.call (cA4 cF50 rfl rfl rfl rfl) rfl (forbids_any (hr.below (hbw.mono hB)) hro ht (show x < ru.levels.length from hlt) hc_) ?_
   rintro e w4 ⟨rfl, hc4⟩
   refine ⟨_, rfl, ?_⟩;replace q1 := q1.bl hc4;replace q2 := q2.bl hc4;replace hbw := bo_ hbw hc4;clear hc4;refine EL.mv rfl rfl (EL.xt rfl rfl rfl (EL.xt rfl rfl rfl (EL.as rfl rfl (EL.as rfl rfl (EL.nil (EX.seq ?_))))))
   cases h4 : (forbT ru tk x c).2
   ·
    refine EC.region (EL.mv rfl rfl (EL.mv rfl rfl (EL.skip rfl rfl rfl rfl (EL.skip rfl rfl rfl rfl (EL.pf rfl rfl rfl (EL.mv rfl rfl (EL.mv rfl rfl (EL.mg rfl rfl rfl rfl (EL.valg rfl rfl (x_not rfl) rfl ?_)))))))));refine EL.pt rfl rfl rfl (EL.as rfl rfl (EL.as rfl rfl (EL.nil (EX.blk (EX.seq (EC.region ?_))))));refine EL.val (x_add rfl rfl (c := ((x + 1 : Nat) : Int)) ((IntWalk.i64_in _ ⟨by first | omega | (simp only; omega), by first | omega | (simp only; omega)⟩).trans (by first | omega | (simp only; omega)))) rfl ?_
    refine EL.mv rfl rfl (EL.nil ?_);refine EX.roundD (x + 1) ⟨agree_b (by simp [mayT, *]) rfl, agree_b (by simp [mayT, *]) rfl, rfl, trivial⟩ (by repeat first | with_reducible exact .refl _ | refine sp_ rfl ?_ | exact .refl _ | refine sd_ rfl ?_ | refine sn_ ?_) ⟨hlt, q1, q2, hbw⟩ (by omega)
   ·
    refine EC.region (EL.mv rfl rfl (EL.mv rfl rfl (EL.skip rfl rfl rfl rfl (EL.skip rfl rfl rfl rfl (EL.pf rfl rfl rfl (EL.mv rfl rfl (EL.mv rfl rfl (EL.mg rfl rfl rfl rfl (EL.valg rfl rfl (x_not rfl) rfl ?_)))))))));refine EL.pt rfl rfl rfl (EL.as rfl rfl (EL.as rfl rfl (EL.nil (EX.blk (EX.seq (EC.region ?_))))));refine EL.val (x_add rfl rfl (c := ((x + 1 : Nat) : Int)) ((IntWalk.i64_in _ ⟨by first | omega | (simp only; omega), by first | omega | (simp only; omega)⟩).trans (by first | omega | (simp only; omega)))) rfl ?_
    refine EL.mv rfl rfl (EL.nil ?_);refine EX.roundD (x + 1) ⟨agree_b (by simp [mayT, *]) rfl, agree_b (by simp [mayT, *]) rfl, rfl, trivial⟩ (by repeat first | with_reducible exact .refl _ | refine sp_ rfl ?_ | exact .refl _ | refine sd_ rfl ?_ | refine sn_ ?_) ⟨hlt, q1, q2, hbw⟩ (by omega)
  ·
   refine EC.seq (EC.region ?_);refine EL.val (x_lss rfl rfl (decide_eq_true (show (((x : Nat) : Int) < ((ru.levels.length : Nat) : Int)) by omega))) rfl ?_
   refine EL.nil (EX.seq (EC.seq (EC.yes rfl (EC.skip (EX.seq (EC.seq (EC.block (EC.seq (EC.region ?_)))))))));refine EL.mv rfl rfl (EL.as rfl rfl (EL.nil (EX.seq (EC.seq (EC.region (EL.val (ld_116 rfl (q1.at (j := 0) rfl) (q1.at (j := 1) rfl) (q1.at (j := 2) rfl) (q1.at (j := 3) rfl) (q1.at (j := 4) rfl) (q1.at (j := 5) rfl)) rfl (EL.val (x_loadA rfl (q2.range (PartAt.whole _)) Try.underlying120 rfl (sz_120.trans (congrArg some (tkC_8 ht.n8).symm))) rfl (EL.mv rfl rfl (EL.mv rfl rfl ?_)))))))));refine EL.call (cA4 cF50 rfl rfl rfl rfl) rfl (forbids_any (hr.below (hbw.mono hB)) hro ht (show x < ru.levels.length from hlt) hc_) ?_
   rintro e w5 ⟨rfl, hc5⟩
   refine ⟨_, rfl, ?_⟩;replace q1 := q1.bl hc5;replace q2 := q2.bl hc5;replace hbw := bo_ hbw hc5;clear hc5;refine EL.mv rfl rfl (EL.xt rfl rfl rfl (EL.xt rfl rfl rfl (EL.as rfl rfl (EL.as rfl rfl (EL.nil (EX.seq ?_))))))
   cases h3 : (forbT ru tk x c).1
   ·
    refine EC.region (EL.mv rfl rfl (EL.mv rfl rfl (EL.mg rfl rfl rfl rfl (EL.valg rfl rfl (x_not rfl) rfl (EL.pt rfl rfl rfl (EL.mv rfl rfl (EL.mv rfl rfl (EL.skip rfl rfl rfl rfl (EL.skip rfl rfl rfl rfl ?_)))))))));refine EL.pf rfl rfl rfl (EL.as rfl rfl (EL.as rfl rfl (EL.nil (EX.blk (EX.seq (EC.region ?_))))));refine EL.val (x_add rfl rfl (c := ((x + 1 : Nat) : Int)) ((IntWalk.i64_in _ ⟨by first | omega | (simp only; omega), by first | omega | (simp only; omega)⟩).trans (by first | omega | (simp only; omega)))) rfl ?_
    refine EL.mv rfl rfl (EL.nil ?_);refine EX.roundD (x + 1) ⟨agree_b (by simp [mayT, *]) rfl, agree_b (by simp [mayT, *]) rfl, rfl, trivial⟩ (by repeat first | with_reducible exact .refl _ | refine sp_ rfl ?_ | exact .refl _ | refine sd_ rfl ?_ | refine sn_ ?_) ⟨hlt, q1, q2, hbw⟩ (by omega)
   ·
    refine EC.region (EL.mv rfl rfl (EL.mv rfl rfl (EL.mg rfl rfl rfl rfl (EL.valg rfl rfl (x_not rfl) rfl (EL.pt rfl rfl rfl (EL.mv rfl rfl (EL.mv rfl rfl (EL.skip rfl rfl rfl rfl (EL.skip rfl rfl rfl rfl ?_)))))))));refine EL.pf rfl rfl rfl (EL.as rfl rfl (EL.as rfl rfl (EL.nil (EX.blk (EX.seq (EC.region ?_))))));refine EL.val (x_add rfl rfl (c := ((x + 1 : Nat) : Int)) ((IntWalk.i64_in _ ⟨by first | omega | (simp only; omega), by first | omega | (simp only; omega)⟩).trans (by first | omega | (simp only; omega)))) rfl ?_
    refine EL.mv rfl rfl (EL.nil ?_);refine EX.roundD (x + 1) ⟨agree_b (by simp [mayT, *]) rfl, agree_b (by simp [mayT, *]) rfl, rfl, trivial⟩ (by repeat first | with_reducible exact .refl _ | refine sp_ rfl ?_ | exact .refl _ | refine sd_ rfl ?_ | refine sn_ ?_) ⟨hlt, q1, q2, hbw⟩ (by omega)
  ·
   refine EC.seq (EC.region ?_);refine EL.val (x_lss rfl rfl (decide_eq_true (show (((x : Nat) : Int) < ((ru.levels.length : Nat) : Int)) by omega))) rfl ?_
   refine EL.nil (EX.seq (EC.seq (EC.yes rfl (EC.skip (EX.seq (EC.seq (EC.block (EC.seq (EC.region ?_)))))))));refine EL.mv rfl rfl (EL.as rfl rfl (EL.nil (EX.seq (EC.seq (EC.region (EL.val (ld_116 rfl (q1.at (j := 0) rfl) (q1.at (j := 1) rfl) (q1.at (j := 2) rfl) (q1.at (j := 3) rfl) (q1.at (j := 4) rfl) (q1.at (j := 5) rfl)) rfl (EL.val (x_loadA rfl (q2.range (PartAt.whole _)) Try.underlying120 rfl (sz_120.trans (congrArg some (tkC_8 ht.n8).symm))) rfl (EL.mv rfl rfl (EL.mv rfl rfl ?_)))))))));refine EL.call (cA4 cF50 rfl rfl rfl rfl) rfl (forbids_any (hr.below (hbw.mono hB)) hro ht (show x < ru.levels.length from hlt) hc_) ?_
   rintro e w6 ⟨rfl, hc6⟩
   refine ⟨_, rfl, ?_⟩;replace q1 := q1.bl hc6;replace q2 := q2.bl hc6;replace hbw := bo_ hbw hc6;clear hc6;refine EL.mv rfl rfl (EL.xt rfl rfl rfl (EL.xt rfl rfl rfl (EL.as rfl rfl (EL.as rfl rfl (EL.nil (EX.seq ?_))))))
   cases h3 : (forbT ru tk x c).1 <;> cases h4 : (forbT ru tk x c).2
   ·
    refine EC.region (EL.mv rfl rfl (EL.mv rfl rfl (EL.mg rfl rfl rfl rfl (EL.valg rfl rfl (x_not rfl) rfl (EL.pt rfl rfl rfl (EL.mv rfl rfl (EL.mv rfl rfl (EL.mg rfl rfl rfl rfl (EL.valg rfl rfl (x_not rfl) rfl ?_)))))))));refine EL.pt rfl rfl rfl (EL.as rfl rfl (EL.as rfl rfl (EL.nil (EX.blk (EX.seq (EC.region ?_))))));refine EL.val (x_add rfl rfl (c := ((x + 1 : Nat) : Int)) ((IntWalk.i64_in _ ⟨by first | omega | (simp only; omega), by first | omega | (simp only; omega)⟩).trans (by first | omega | (simp only; omega)))) rfl ?_
    refine EL.mv rfl rfl (EL.nil ?_);refine EX.roundD (x + 1) ⟨agree_b (by simp [mayT, *]) rfl, agree_b (by simp [mayT, *]) rfl, rfl, trivial⟩ (by repeat first | with_reducible exact .refl _ | refine sp_ rfl ?_ | exact .refl _ | refine sd_ rfl ?_ | refine sn_ ?_) ⟨hlt, q1, q2, hbw⟩ (by omega)
   ·
    refine EC.region (EL.mv rfl rfl (EL.mv rfl rfl (EL.mg rfl rfl rfl rfl (EL.valg rfl rfl (x_not rfl) rfl (EL.pt rfl rfl rfl (EL.mv rfl rfl (EL.mv rfl rfl (EL.mg rfl rfl rfl rfl (EL.valg rfl rfl (x_not rfl) rfl ?_)))))))));refine EL.pt rfl rfl rfl (EL.as rfl rfl (EL.as rfl rfl (EL.nil (EX.blk (EX.seq (EC.region ?_))))));refine EL.val (x_add rfl rfl (c := ((x + 1 : Nat) : Int)) ((IntWalk.i64_in _ ⟨by first | omega | (simp only; omega), by first | omega | (simp only; omega)⟩).trans (by first | omega | (simp only; omega)))) rfl ?_
    refine EL.mv rfl rfl (EL.nil ?_);refine EX.roundD (x + 1) ⟨agree_b (by simp [mayT, *]) rfl, agree_b (by simp [mayT, *]) rfl, rfl, trivial⟩ (by repeat first | with_reducible exact .refl _ | refine sp_ rfl ?_ | exact .refl _ | refine sd_ rfl ?_ | refine sn_ ?_) ⟨hlt, q1, q2, hbw⟩ (by omega)
   ·
    refine EC.region (EL.mv rfl rfl (EL.mv rfl rfl (EL.mg rfl rfl rfl rfl (EL.valg rfl rfl (x_not rfl) rfl (EL.pt rfl rfl rfl (EL.mv rfl rfl (EL.mv rfl rfl (EL.mg rfl rfl rfl rfl (EL.valg rfl rfl (x_not rfl) rfl ?_)))))))));refine EL.pt rfl rfl rfl (EL.as rfl rfl (EL.as rfl rfl (EL.nil (EX.blk (EX.seq (EC.region ?_))))));refine EL.val (x_add rfl rfl (c := ((x + 1 : Nat) : Int)) ((IntWalk.i64_in _ ⟨by first | omega | (simp only; omega), by first | omega | (simp only; omega)⟩).trans (by first | omega | (simp only; omega)))) rfl ?_
    refine EL.mv rfl rfl (EL.nil ?_);refine EX.roundD (x + 1) ⟨agree_b (by simp [mayT, *]) rfl, agree_b (by simp [mayT, *]) rfl, rfl, trivial⟩ (by repeat first | with_reducible exact .refl _ | refine sp_ rfl ?_ | exact .refl _ | refine sd_ rfl ?_ | refine sn_ ?_) ⟨hlt, q1, q2, hbw⟩ (by omega)
   ·
    refine EC.region (EL.mv rfl rfl (EL.mv rfl rfl (EL.mg rfl rfl rfl rfl (EL.valg rfl rfl (x_not rfl) rfl (EL.pt rfl rfl rfl (EL.mv rfl rfl (EL.mv rfl rfl (EL.mg rfl rfl rfl rfl (EL.valg rfl rfl (x_not rfl) rfl ?_)))))))));refine EL.pt rfl rfl rfl (EL.as rfl rfl (EL.as rfl rfl (EL.nil (EX.blk (EX.seq (EC.region ?_))))));refine EL.val (x_add rfl rfl (c := ((x + 1 : Nat) : Int)) ((IntWalk.i64_in _ ⟨by first | omega | (simp only; omega), by first | omega | (simp only; omega)⟩).trans (by first | omega | (simp only; omega)))) rfl ?_
    refine EL.mv rfl rfl (EL.nil ?_);refine EX.roundD (x + 1) ⟨agree_b (by simp [mayT, *]) rfl, agree_b (by simp [mayT, *]) rfl, rfl, trivial⟩ (by repeat first | with_reducible exact .refl _ | refine sp_ rfl ?_ | exact .refl _ | refine sd_ rfl ?_ | refine sn_ ?_) ⟨hlt, q1, q2, hbw⟩ (by omega)
 ·
  have hxe : x = ru.levels.length := by omega
  subst hxe;refine EC.seq (EC.region ?_);refine EL.val (x_lss rfl rfl (decide_eq_false (show ¬(((ru.levels.length : Nat) : Int) < ((ru.levels.length : Nat) : Int)) by omega))) rfl ?_
  refine EL.nil (EX.seq (EC.seq (EC.no rfl (EC.exit (EX.seq_exit (EX.seq_exit (EX.blk_here (EX.seq (EC.seq ?_)))))))));refine EC.region (EL.mv rfl rfl (EL.mv rfl rfl (EL.as rfl rfl (EL.as rfl rfl (EL.nil (EX.seq (EC.ret ?_)))))))
  exact EX.done (res2 rfl rfl rfl) ⟨rfl, hbw⟩
theorem ref_ok {ru : Rules} {l : List Ev} (h : refE ru l = 0) : RulesOk ru ∧ l.all (evB ru) = true ∧ l.length ≤ 100 := by
 unfold refE at h
 split at h
 ·rename_i h1
  exact ⟨rules_ok h1, hist_ok h⟩
 ·omega
theorem tkE_ok (ru : Rules) (l : List Ev) : TkOk (tkE ru l) := by
 unfold tkE
 split
 ·rename_i h
  exact afterT_ok (ref_ok h).1 l
 ·exact tank0_ok
section
variable {P : Program} {ops : Array Oper} {Q : Exit → Act → World → Prop} {n l : Nat}
theorem oper_round {o : Oper} {a : Act} {w : World} {K : Act → World → Prop} (hnd : ∀ c, o.op ≠ .defer c) (h : o.wp P a w K Q) : o.wpIn (Fence.wide.inRound l) n P a w K Q := by
 refine ⟨fun _ _ => trivial, ?_⟩
 rw [Oper.semAt_eq _ _ _ hnd]
 unfold Oper.wp at h
 generalize (execOp a.eval o).run P w = r at h ⊢
 have hd : ((Fence.wide.inRound l).depth.isSome = true → 1 ≤ n) := fun h => by simp [Fence.wide] at h
 cases r with
 | ok x w' =>
  cases x
  case value => exact h
  case skip => exact h
  case defer => exact h
  case enter f args => exact ⟨hd, ((callsIn_wide.2 h).inRound l).mono fun e w'' he => by cases e <;> exact he⟩
  case row row args =>
   refine ⟨hd, fun c cs _ => ?_⟩
   obtain ⟨v, w'', hv, hs⟩ := h c cs
   exact ⟨v, w'', hv, stepsIn_wide.2 hs⟩
  all_goals exact h.elim
 | halt x w' => cases x <;> exact h
theorem ops_round (hnd : ∀ (i : Nat) (o : Oper), ops[i]? = some o → ∀ c, o.op ≠ .defer c) (hQ : ¬ LetsOut Q) : ∀ (is : List Nat) (a : Act) (w : World), wpOps P ops Q is a w → wpOpsIn (Fence.wide.inRound l) n P ops Q is a w
 | [], _, _, h => h
 | i :: rest, a, w, h => by
  unfold wpOpsIn
  unfold wpOps at h
  cases ho : ops[i]? with
  | none =>
   simp only [ho] at h ⊢
   exact ops_round hnd hQ rest a w h
  | some o =>
   simp only [ho] at h ⊢
   by_cases hw : Region.wanted o (yielded ops a.tmps) = true
   ·simp only [hw, if_true] at h ⊢
    rcases h with h | h
    ·exact Oper.wpIn_mono (fun a' w' h' => ops_round hnd hQ rest a' w' h') (oper_round (hnd i o ho) h)
    ·exact absurd h.2 hQ
   ·simp only [hw, if_false, Bool.false_eq_true] at h ⊢
    exact ⟨fun _ _ => trivial, ops_round hnd hQ rest _ _ h⟩
/-- no operation is a defer statement: by reckoning -/
def noDefer (ops : Array Oper) : Bool := ops.all fun o => match o.op with | .defer _ => false | _ => true
theorem noDefer_spec (h : noDefer ops = true) (i : Nat) (o : Oper) (ho : ops[i]? = some o) (c) : o.op ≠ .defer c := by
 intro e;obtain ⟨hi, rfl⟩ := Array.getElem?_eq_some_iff.1 ho;have := Array.all_eq_true.1 h i hi;rw [e] at this
 cases this
end
section
variable {P : Program} {n : Nat} {σ : Sg} {w : World} {Q : Exit → Act → World → Prop} {L : List Oper}
theorem ECI.regionO {id l : Nat} (hQ : ¬LetsOut Q) (hnd : noDefer L.toArray = true) (h : ∀ a, Env n σ a → RO P L.toArray Q a w) : ECI (some l) 0 P n [] (.region id L.toArray true) Q σ w := fun a ha =>
 wpIn_region_draw fun t => ops_round (noDefer_spec hnd) hQ _ _ _ (h a ha.e t)
/-! ### With deferred calls, outside of a round -/
def addD (ds : List Deferred) (a : Act) : Act := ⟨a.tmps, a.defers ++ ds⟩
theorem put_ds (ds : List Deferred) (a : Act) (d : Option Tmp) (v : Value) : (addD ds a).put d v = addD ds (a.put d v) := by cases d <;> rfl
theorem eval_ds (ds : List Deferred) (a : Act) : (addD ds a).eval = a.eval := by
 funext x
 cases x <;> rfl
theorem lets_ds {ds : List Deferred} (h : LetsOut (fun e a' w' => Q e (addD ds a') w')) : LetsOut Q := by
 obtain ⟨a, w, h⟩ := h
 exact ⟨_, w, h⟩
theorem oper_ds {ds : List Deferred} {o : Oper} {a : Act} {w : World} {K : Act → World → Prop} (h : o.wp P a w (fun a' w' => K (addD ds a') w') (fun e a' w' => Q e (addD ds a') w')) : o.wp P (addD ds a) w K Q := by
 unfold Oper.wp at h ⊢
 rw [eval_ds]
 generalize (execOp a.eval o).run P w = r at h ⊢
 have pd := fun d v => put_ds ds a d v
 cases r with
 | ok x w' =>
  cases x
  case value v => rw [Oper.upon_value] at h ⊢; rw [pd]; exact h
  case skip => rw [Oper.upon_skip] at h ⊢; rw [pd]; exact h
  case defer d =>
   rw [Oper.upon_defer] at h ⊢;have e : ({ addD ds a with defers := d :: (addD ds a).defers } : Act).put o.dst undef = addD ds (({ a with defers := d :: a.defers } : Act).put o.dst undef) := by cases o.dst <;> rfl
   rw [e]
   exact h
  case enter f args =>
   rw [Oper.upon_enter] at h ⊢;refine h.mono fun e w'' he => ?_
   cases e with
   | returned v => show K ((addD ds a).put o.dst v) w''; rw [pd]; exact he
   | panicked c => exact he
   | outgrown => exact lets_ds he
  case row row args =>
   intro c cs;obtain ⟨v, w'', hv, hs⟩ := h c cs
   exact ⟨v, w'', by show K ((addD ds a).put o.dst v) w''; rw [pd]; exact hv, hs⟩
  all_goals exact h.elim
 | halt x w' => cases x <;> exact h
theorem ops_ds {ds : List Deferred} : ∀ (is : List Nat) (a : Act) (w : World), wpOps P L.toArray (fun e a' w' => Q e (addD ds a') w') is a w → wpOps P L.toArray Q is (addD ds a) w
 | [], _, _, h => h
 | i :: rest, a, w, h => by
  unfold wpOps at h ⊢
  cases ho : L.toArray[i]? with
  | none =>
   simp only [ho] at h ⊢
   exact ops_ds rest a w h
  | some o =>
   simp only [ho] at h ⊢
   by_cases hw : Region.wanted o (yielded L.toArray a.tmps) = true
   ·rw [if_pos hw] at h
    rw [if_pos (show Region.wanted o (yielded L.toArray (addD ds a).tmps) = true from hw)]
    rcases h with h | h
    ·exact .inl (oper_ds (Oper.wp_mono (fun a' w' h' => ops_ds rest a' w' h') h))
    ·refine .inr ⟨?_, lets_ds h.2⟩
     unfold Oper.asks
     rw [eval_ds]
     exact h.1
   ·rw [if_neg hw] at h
    rw [if_neg (show ¬Region.wanted o (yielded L.toArray (addD ds a).tmps) = true from hw), put_ds]
    exact ops_ds rest _ w h
theorem ECI.regionD {id : Nat} {k : Nat} {ds : List Deferred} (h : ∀ a, Env n σ a → RO P L.toArray (fun e a' w' => Q e (addD ds a') w') a w) : ECI none k P n ds (.region id L.toArray true) Q σ w := fun a ha => by
 refine wpIn_wide.2 (wp_region_draw fun t => ?_)
 have h1 := ops_ds _ _ _ (h ⟨a.tmps, []⟩ ha.env t);have e : addD ds ⟨a.tmps, []⟩ = a := by
  obtain ⟨tm, df⟩ := a;have : df = ds := ha.ds;subst this
  rfl
 rw [e] at h1
 exact h1
theorem EX.ofD {ds : List Deferred} (h : EXI n ds Q .normal σ w) : EX n (fun e a' w' => Q e (addD ds a') w') .normal σ w := fun a ha => h _ ⟨⟨ha.size, rfl, ha.get⟩, by show a.defers ++ ds = ds; rw [ha.defers]; rfl⟩
/-- a drawn region that only reads -/
theorem EO.regionQ (hm : P.follows .mixedOrders = true) (hB : lexQ L 0 L = true) (h : EQ P n L (fun w' => Below w.heap.size w w') (fun a' => ∀ w', Below w.heap.size w w' → Q .normal a' w') L σ) : ∀ a, Env n σ a → RO P L.toArray Q a w := fun a ha => by
 refine ro_any hm (wpAny_of_quiet (C := fun w' => Below w.heap.size w w') (Q := fun a' => ∀ w', Below w.heap.size w w' → Q .normal a' w') (fun _ w' hw' h => h w' hw') _ _ _ _ ⟨rfl, rfl, rfl, Nat.le_refl _, fun _ _ => rfl⟩ ?_)
 have := wpAnyQ_lexQ (C := fun w' => Below w.heap.size w w') (P := P) (Z := fun a' => ∀ w', Below w.heap.size w w' → Q .normal a' w') (fun j o cs b hj => lex_sel hB o (List.mem_of_getElem? (by simpa using hj)) cs b) L 0 (Array.replicate L.toArray.size false) a (by simp) (by simp) (fun j hj => by omega) (fun j _ hj => by simp [Array.getD, hj]) hB (h a ha)
 simpa using this
end
end Go.Proofs.Ytdkedhcbdbpccaa
