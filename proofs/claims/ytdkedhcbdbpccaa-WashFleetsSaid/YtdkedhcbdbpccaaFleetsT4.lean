/- X14, WsPls, ExX15, X15, ExX16, X16, ExX17, X17, ExX18, X18, ExX19: what WashFleetsProof needs of them (merged by trimpack.py). -/
import Derived.Test.YtdkedhcbdbpccaaFleetsT3
set_option linter.unusedVariables false
set_option linter.unusedSimpArgs false
namespace Go.Proofs.Ytdkedhcbdbpccaa
open Go Go.RowKit
theorem fl0_len : (flC [tank0, tank0, tank0]).length = 96 := flC_len (f := [tank0, tank0, tank0]) (by intro t ht; simp only [List.mem_cons, List.not_mem_nil, or_false, or_self] at ht; subst ht; rfl)
theorem plv_add {W : World} {base : Nat} {A : Option Addr} {c i : Nat} {k : Int} {p : Pl} {n cst a b : Int} (ho : W.ownsRow base 70 2 (.slice A (p.steps.length + 1) c) (p.steps.length + 1) (stsC p.steps ++ [.int .i64 (i : Nat), .int .i64 k])) (ha : a = p.washes + n) (hb : b = p.cost + cst) : PlV W base (.agg #[.slice A (p.steps.length + 1) c, .int .i64 a, .int .i64 b]) (addS p ⟨i, k⟩ n cst) := by
 subst ha hb;have e : (p.steps ++ [(⟨i, k⟩ : St)]).length = p.steps.length + 1 := by rw [List.length_append, List.length_singleton]
 refine ⟨A, c, ?_, ?_⟩
 ·unfold addS; dsimp only; rw [e]
 ·unfold addS; dsimp only; rw [e, stsC_app]; exact ho
/-- the assign code of a range over ways: a number, and a box -/
theorem assignW {ru : Rules} {tk : List Tr} (hro : RulesOk ru) (ht : TkOk tk) {n d1 d2 e1 e2 id1 id2 ty1 ty2 ty3 : Nat} {pos1 pos2 pos3 : String} {af1 af2 af3 : Array Edge} {σ : Sg} (he1 : Nat.blt e1 n = true) (he2 : Nat.blt e2 n = true) (h12 : Nat.beq d1 d2 = false) (h21 : Nat.beq d2 e1 = false) (h22 : Nat.beq d2 e2 = false) : ∀ (la : Nat) (x : It) (W : World) (K : Act → World → Prop), okW ru tk x W →
  (∀ g a' W', EnvG n [] (ins (ins (ins (ins σ d1 (.int .i64 (x.1.getD 0 0))) d2 x.2) e1 (.int .i64 (x.1.getD 0 0))) e2 (.pointer (some ⟨g, 0, none⟩))) a' → Blk W' g 120 (tkC (wayT ru tk (x.1.getD 0 0))).toArray → Below W.heap.size W W' → W.heap.size ≤ g → K a' W') →
  ECI (some la) 0 Try.prog n [] (.seq (.region id1 [⟨some e1, .assign (.tmp d1), ty1, pos1, af1, none⟩].toArray false) (.region id2 [⟨some e2, .alloc 120, ty2, pos2, af2, none⟩, ⟨none, .store 120 (.tmp e2) (.tmp d2), ty3, pos3, af3, none⟩].toArray false)) (Exit.then K (fun _ _ _ => False)) (ins (ins σ d1 (.int .i64 (x.1.getD 0 0))) d2 x.2) W := by
 intro la x W K hok hK;obtain ⟨k, ek, ev_⟩ := hok;have ek2 : x.1.getD 0 0 = k := by rw [ek]; rfl
 rw [ek2] at hK ⊢;have htw := wayT_ok hro ht k;refine ECI.seq ?_;refine ECI.regionL (by repeat (first | exact lets_body | exact lets_no | refine lets_then ?_ | refine lets_blk ?_)) (by simp [noDefer]) ?_
 refine EL.val (x_assign (v := .int .i64 k) (by simp [evS, ins, h12])) he1 ?_
 refine EL.nil (EX.toI (EXI.seq ?_));refine ECI.regionL (by repeat (first | exact lets_body | exact lets_no | refine lets_then ?_ | refine lets_blk ?_)) (by simp [noDefer]) ?_
 refine EL.newP al_tank he2 ?_;intro g W1 q hb1 hg1 hl1;refine EL.store (l' := tkC (wayT ru tk k)) (v := .agg (tkC (wayT ru tk k)).toArray) (g := g) (o := 0) (by simp [evS, ins]) (by simp [evS, ins, h21, h22, ev_]) q sz_120 rfl ((lenV_eq _).trans (tkC_8 htw.n8)) (by rw [lenV_eq, Nat.ble_eq]; exact Nat.le_of_eq (tkC_8 tank0_ok.n8).symm) (tkC_one _) ?_
 intro W2 q2_ hg2;rw [spl_whole ((tkC_8 htw.n8).trans (tkC_8 tank0_ok.n8).symm)] at q2_;refine EL.nil ?_
 exact fun a ha => hK g a W2 ha.g q2_ (below_store hb1 hg2 hg1) hg1
set_option maxHeartbeats 4000000 in
theorem next_any {ru : Rules} {ua up : List Value} {vl va vp vk : Value} {w : World} {B : Nat} (hr : RdRules w B vl va vp vk ru ua up) (hB : B ≤ w.heap.size) (hro : RulesOk ru) {base mb n j : Nat} {F : List Sx} (hf : Front w base mb n j F) (hbs : base ≤ w.heap.size) (hj : j ≤ 100) (hn : n ≤ 1000000000000) {many cg : Nat} (hm : many ≤ 3) (hcg : cg < ru.levels.length) :
  Calls Try.prog 87 #[rulesV vl va vp vk ru, .map (some mb), .int .i64 (many : Nat), .int .i64 (cg : Nat)] w fun e w' => (∃ ob F2 n2, e = .returned (.map (some ob)) ∧ Front w' base ob n2 (j + 1) F2 ∧ n2 ≤ n * 15 ∧ FrontOf (F.flatMap (extY (yardOf ru many) cg)) F2 ∧ w.heap.size ≤ ob) ∧ Below w.heap.size w w' := by
 obtain ⟨Al, cl, Aa, ca, Ap, cp, Ak, ck, rfl, rfl, rfl, rfl⟩ := hr.sh4;have hmbl := hf.lt;have hk4 := hro.k4;have hbw := Below.refl w.heap.size w
 unfold rulesV
 refine EC.marks 93 Try.func87 rfl rfl rfl (ECI.seq (ECI.regionLD (EL.newP (bx_116 rfl) rfl ?_)));intro g1 w1 q1 hb1 hg1 hl1;have bhbw_1 := Nat.le_trans hbw.size hg1;replace hf := hf.below hb1;replace hbw := bo_ hbw hb1;clear hb1 hg1 hl1;refine EL.newP (bx_3 rfl rfl) rfl ?_;intro g2 w2 q2 hb2 hg2 hl2;have n1_2 := q1.na hg2;have bhbw_2 := Nat.le_trans hbw.size hg2;replace q1 := q1.bl hb2;replace hf := hf.below hb2;replace hbw := bo_ hbw hb2;clear hb2 hg2 hl2;refine EL.as rfl rfl (EL.nil (EX.ofD (EXI.seq (ECI.seq (ECI.regionLD (EL.newFront (base := base) (j := j + 1) rfl ?_))))));intro ob w3 hF2 hb3 hob;replace hob := Nat.le_trans hbw.size hob;have hne1 : ob ≠ mb := by omega
 replace q1 := q1.bl hb3;replace q2 := q2.bl hb3;replace hf := hf.below hb3;replace hbw := bo_ hbw hb3;clear hb3;refine EL.newP al_171 rfl ?_;intro g4 w4 q4 hb4 hg4 hl4;have n1_4 := q1.na hg4;have n2_4 := q2.na hg4;have bhbw_4 := Nat.le_trans hbw.size hg4;replace q1 := q1.bl hb4;replace q2 := q2.bl hb4;replace hf := hf.below hb4;replace hF2 := hF2.below hb4;replace hbw := bo_ hbw hb4;clear hb4 hg4 hl4;refine EL.store rfl rfl q4 sz_171 rfl rfl rfl rfl ?_;intro w5 hq5 hg5;replace q1 := q1.gr hg5 n1_4;replace q2 := q2.gr hg5 n2_4;replace hf := hf.box q4 rfl hg5;replace hF2 := hF2.box q4 rfl hg5;replace hbw := below_store hbw hg5 bhbw_4;replace q4 := hq5;clear hg5 hq5;refine EL.nil (EX.ofD (EXI.seq (ECI.seq (ECI.seq (ECI.regionLD (EL.mv rfl rfl ?_))))));obtain ⟨w6, c0, hrun, hR, hcn, hb6⟩ := hf.range;obtain ⟨rr, err⟩ : ∃ z, z = w5.heap.size := ⟨_, rfl⟩;rw [← err] at hrun hR;have hrw : w.heap.size ≤ rr := by rw [err]; exact hbw.size
 have hor : ob < rr := by rw [err]; exact hF2.lt
 refine EL.rangeM rfl rfl hrun ?_;clear hf;replace q1 := q1.bl hb6;replace q2 := q2.bl hb6;replace q4 := q4.bl hb6;replace hF2 := hF2.below hb6;replace hbw := bo_ hbw hb6;clear hb6 hrun;refine EL.nil (EX.ofD (EXI.seq (ECI.block ?_)));refine ECI.loopD [10, 11, 12, 13, 14, 15, 16, 17, 18, 19, 23, 24, 25, 26, 27, 28, 29, 30, 31, 32, 33, 34, 35, 36, 37, 38, 41, 42, 43, 44, 45, 46, 47, 48, 49, 50, 51, 52, 53, 54, 55, 56, 57, 58, 59, 60, 61, 62, 63, 64, 65, 66, 67, 68, 69, 70, 71, 72, 73, 74, 75, 76, 77, 78, 79, 80, 81, 82, 83, 84, 85, 86, 87, 88, 89, 90, 91] (fun x : List Sx × Nat × List Deferred => []) (fun x => x.2.2) (fun x W => RFront W base mb rr n j F x.1 x.2.1 ∧ (∃ F2 n2, Front W base ob n2 (j + 1) F2 ∧ n2 ≤ x.1.length * 15 ∧ FrontOf (x.1.flatMap (extY (yardOf ru many) cg)) F2) ∧ x.1.length + x.2.1 ≤ n ∧ Blk W g1 116 #[.slice Al ru.levels.length cl, .int .i64 ru.fade.lo, .int .i64 ru.fade.hi, .slice Aa ru.allow.length ca, .slice Ap ru.apart.length cp, .slice Ak ru.kinds.length ck] ∧ Blk W g2 3 #[.int .i64 (cg : Nat)] ∧ Blk W g4 171 #[.map (some ob)] ∧ Marks w.heap.size x.2.2 W ∧ x.2.2.Nodup ∧ Below w.heap.size w W) (fun x => x.2.1) ([], c0, []) ⟨hR, ⟨_, _, hF2, Nat.le_refl _, FrontOf.none⟩, by simpa using hcn, q1, q2, q4, (fun d hd => by cases hd), List.nodup_nil, hbw⟩ trivial rfl ?_
 clear q1 q2 q4 hR hF2 hbw
 rintro ⟨D, c, dl⟩ wx ⟨hR, ⟨F2, n2, hF2, hn2, hfo⟩, hDc, q1, q2, q4, hM, hnd, hbw⟩
 dsimp only at hR hn2 hfo hDc hM hnd
 refine ECI.seq (ECI.regionLD ?_)
 rcases hR.next _ with ⟨hall, hrun⟩ | ⟨y, v, w7, c2, hyF, hpv, hrun, hR2, hcnt, hg7, hsz7, hen⟩
 ·
  refine EL.nextM rfl rfl hrun (EL.xt rfl rfl rfl (EL.nil (EX.ofD (EXI.seq (ECI.seq (ECI.no rfl (ECI.exit (EXI.seq_exit (EXI.seq_exit ?_)))))))));refine EXI.blk_here (EXI.seq (ECI.seq (ECI.regionLD (EL.val (ld_171 rfl (q4.at (j := 0) rfl)) rfl (EL.as rfl rfl (EL.nil (EX.ofD (EXI.seq (ECI.ret ?_)))))))));have hR0 := hR.sub
  exact EXI.doneO hM hnd (v := .map (some ob)) (fun w' ht => res1 rfl rfl) (fun w' ht => ⟨⟨ob, F2, n2, rfl, hF2.tookO ht, by omega, hfo.same (fun x => by simp only [List.mem_flatMap]; exact ⟨fun ⟨u, h1, h2⟩ => ⟨u, hR0 u h1, h2⟩, fun ⟨u, h1, h2⟩ => ⟨u, hall u h1, h2⟩⟩), hob⟩, hbw.trans ht.took.below⟩)
 ·
  refine EL.nextM rfl rfl hrun ?_;obtain ⟨Av, cv, rfl, hop⟩ := hpv;obtain ⟨mi, si, sei, ci, hit⟩ := hR.iter;replace q1 := blk_iter2 q1 hR hg7;replace q2 := blk_iter2 q2 hR hg7;replace q4 := blk_iter2 q4 hR hg7;replace hF2 := hF2.mild (.other hg7 hit rfl (by omega))
  replace hM := hM.other hit (fun x e => by cases e) hg7
  replace hbw := hbw.trans (below_blk hg7 hrw hbw.size);clear hR hrun hit hg7 hsz7;have hR := hR2;clear hR2;obtain ⟨hys, hyl, hyw0, hyw1, hyc0, hyc1⟩ := hR.front.ok _ hyF;refine EL.xt rfl rfl rfl (EL.nil (EX.ofD (EXI.seq (ECI.seq (ECI.yes rfl (ECI.skip (EXI.seq (ECI.block (ECI.seq ?_)))))))));refine ECI.regionLD (EL.val (x_entry2 rfl hen) rfl (EL.xt rfl rfl rfl (EL.xt rfl rfl rfl (EL.newP al_fleet rfl ?_))));intro g8 w8 q8 hb8 hg8 hl8;have n1_8 := q1.na hg8;have n2_8 := q2.na hg8;have n4_8 := q4.na hg8;have bhbw_8 := Nat.le_trans hbw.size hg8;replace q1 := q1.bl hb8;replace q2 := q2.bl hb8;replace q4 := q4.bl hb8;replace hR := hR.below hb8;replace hF2 := hF2.below hb8;replace hM := hM.below hb8;replace hop := own_below hop hb8 (Nat.le_refl _);replace hbw := bo_ hbw hb8;clear hb8 hg8 hl8;refine EL.newP al_134 rfl ?_;intro g9 w9 q9 hb9 hg9 hl9;have n1_9 := q1.na hg9;have n2_9 := q2.na hg9;have n4_9 := q4.na hg9;have n8_9 := q8.na hg9;have bhbw_9 := Nat.le_trans hbw.size hg9;replace q1 := q1.bl hb9;replace q2 := q2.bl hb9;replace q4 := q4.bl hb9;replace q8 := q8.bl hb9;replace hR := hR.below hb9;replace hF2 := hF2.below hb9;replace hM := hM.below hb9;replace hop := own_below hop hb9 (Nat.le_refl _);replace hbw := bo_ hbw hb9;clear hb9 hg9 hl9;refine EL.store (l' := (flC y.1)) rfl rfl q8 sz_150 rfl ((lenV_eq _).trans hys.fl.len) (by rw [lenV_eq, Nat.ble_eq]; exact Nat.le_of_eq (fl0_len.symm)) (flC_one _) ?_
  intro w10 hq10 hg10;rw [spl_whole (hys.fl.len.trans fl0_len.symm)] at hq10;replace q1 := q1.gr hg10 n1_8;replace q2 := q2.gr hg10 n2_8;replace q4 := q4.gr hg10 n4_8;replace q9 := q9.gr hg10 n8_9.symm;replace hR := hR.box q8 rfl hg10;replace hF2 := hF2.box q8 rfl hg10;replace hM := hM.keeps (keeps_blk q8 hg10);replace hop := own_type hop q8 rfl hg10;replace hbw := below_store hbw hg10 bhbw_8;replace q8 := hq10;clear hg10 hq10;refine EL.store rfl rfl q9 sz_134 rfl rfl rfl rfl ?_;intro w11 hq11 hg11;replace q1 := q1.gr hg11 n1_9;replace q2 := q2.gr hg11 n2_9;replace q4 := q4.gr hg11 n4_9;replace q8 := q8.gr hg11 n8_9;replace hR := hR.box q9 rfl hg11;replace hF2 := hF2.box q9 rfl hg11;replace hM := hM.keeps (keeps_blk q9 hg11);replace hop := own_type hop q9 rfl hg11;replace hbw := below_store hbw hg11 bhbw_9;replace q9 := hq11;clear hg11 hq11;refine EL.nil (EX.ofD (EXI.seq (ECI.seq (ECI.regionLD (EL.mv rfl rfl (EL.val (x_slfl rfl rfl hm) rfl (EL.val (ln_180 rfl) rfl (EL.mv rfl rfl (EL.nil ?_)))))))));refine EX.ofD (EXI.seq (ECI.block ?_));refine ECI.loopD [12, 13, 14, 15, 16, 17, 18, 19, 31, 32, 33, 34, 35, 36, 37, 38, 41, 42, 43, 44, 45, 46, 47, 48, 49, 50, 51, 52, 53, 54, 55, 56, 57, 58, 59, 60, 61, 62, 63, 64, 65, 66, 67, 68, 69, 70, 71, 72, 73, 74, 75, 76, 77, 78, 79, 80, 81, 82, 83, 84, 85, 86, 87, 88, 89, 90, 91] (fun x : Nat × List Deferred => [(31, .int .i64 (x.1 : Nat))]) (fun x => x.2) (fun x W => x.1 ≤ many ∧ RFront W base mb rr n j F (D ++ [y]) c2 ∧ (∃ F2 n2, Front W base ob n2 (j + 1) F2 ∧ n2 ≤ D.length * 15 + x.1 * 5 ∧ FrontOf (D.flatMap (extY (yardOf ru many) cg) ++ (List.range x.1).flatMap fun i => (kindsL ru.kinds.length).flatMap (ext1 (yardOf ru many) cg y i)) F2) ∧ Blk W g1 116 #[.slice Al ru.levels.length cl, .int .i64 ru.fade.lo, .int .i64 ru.fade.hi, .slice Aa ru.allow.length ca, .slice Ap ru.apart.length cp, .slice Ak ru.kinds.length ck] ∧ Blk W g2 3 #[.int .i64 (cg : Nat)] ∧ Blk W g4 171 #[.map (some ob)] ∧ Blk W g8 150 (flC y.1).toArray ∧ Blk W g9 134 #[.slice Av y.2.steps.length cv, .int .i64 y.2.washes, .int .i64 y.2.cost] ∧ W.ownsRow base 70 2 (.slice Av y.2.steps.length cv) y.2.steps.length (stsC y.2.steps) ∧ Marks w.heap.size x.2 W ∧ x.2.Nodup ∧ Below w.heap.size w W) (fun x => many - x.1) (0, dl) ⟨Nat.zero_le _, hR, ⟨_, _, hF2, by simpa using hn2, by simpa using hfo⟩, q1, q2, q4, q8, q9, hop, hM, hnd, hbw⟩ ⟨rfl, trivial⟩ rfl ?_
  clear q1 q2 q4 q8 q9 hR hF2 hn2 hfo hop hM hnd hbw
  rintro ⟨i, dm⟩ wi ⟨hi, hR, ⟨F3, n3, hF2, hn2, hfo⟩, q1, q2, q4, q8, q9, hop, hM, hnd, hbw⟩
  dsimp only at hi hn2 hfo hM hnd
  by_cases hlt : i < many
  ·
   have hi3 : i < 3 := by omega
   obtain ⟨tk, etk⟩ : ∃ z, z = y.1.getD i [] := ⟨_, rfl⟩;have htk := hys.get hi3;have hpt := tk_at hys.fl hi3;rw [← etk] at htk hpt;refine ECI.seq (ECI.regionLD ?_);refine EL.val (x_lss rfl rfl (decide_eq_true (show (((i : Nat) : Int) < ((many : Nat) : Int)) by omega))) rfl ?_
   refine EL.nil (EX.ofD (EXI.seq (ECI.seq (ECI.yes rfl (ECI.skip (EXI.seq (ECI.seq (ECI.block (ECI.seq ?_)))))))));refine ECI.regionLD (EL.mv rfl rfl (EL.val (ix_180 rfl rfl hlt) rfl ?_));refine EL.val (x_loadA rfl (q8.range (by rw [Nat.zero_add]; exact hpt)) Try.underlying120 rfl (sz_120.trans (congrArg some (tkC_8 htk.n8).symm))) rfl ?_
   refine EL.newP al_3 rfl ?_;intro g12 w12 q12 hb12 hg12 hl12;have n1_12 := q1.na hg12;have n2_12 := q2.na hg12;have n4_12 := q4.na hg12;have n8_12 := q8.na hg12;have n9_12 := q9.na hg12;have bhbw_12 := Nat.le_trans hbw.size hg12;replace q1 := q1.bl hb12;replace q2 := q2.bl hb12;replace q4 := q4.bl hb12;replace q8 := q8.bl hb12;replace q9 := q9.bl hb12;replace hR := hR.below hb12;replace hF2 := hF2.below hb12;replace hM := hM.below hb12;replace hop := own_below hop hb12 (Nat.le_refl _);replace hbw := bo_ hbw hb12;clear hb12 hg12 hl12;refine EL.newP al_tank rfl ?_;intro g13 w13 q13 hb13 hg13 hl13;have n1_13 := q1.na hg13;have n2_13 := q2.na hg13;have n4_13 := q4.na hg13;have n8_13 := q8.na hg13;have n9_13 := q9.na hg13;have n12_13 := q12.na hg13;have bhbw_13 := Nat.le_trans hbw.size hg13;replace q1 := q1.bl hb13;replace q2 := q2.bl hb13;replace q4 := q4.bl hb13;replace q8 := q8.bl hb13;replace q9 := q9.bl hb13;replace q12 := q12.bl hb13;replace hR := hR.below hb13;replace hF2 := hF2.below hb13;replace hM := hM.below hb13;replace hop := own_below hop hb13 (Nat.le_refl _);replace hbw := bo_ hbw hb13;clear hb13 hg13 hl13;refine EL.store rfl rfl q12 sz_3 rfl rfl rfl rfl ?_;intro w14 hq14 hg14;replace q1 := q1.gr hg14 n1_12;replace q2 := q2.gr hg14 n2_12;replace q4 := q4.gr hg14 n4_12;replace q8 := q8.gr hg14 n8_12;replace q9 := q9.gr hg14 n9_12;replace q13 := q13.gr hg14 n12_13.symm;replace hR := hR.box q12 rfl hg14;replace hF2 := hF2.box q12 rfl hg14;replace hM := hM.keeps (keeps_blk q12 hg14);replace hop := own_type hop q12 rfl hg14;replace hbw := below_store hbw hg14 bhbw_12;replace q12 := hq14;clear hg14 hq14;refine EL.store (l' := (tkC tk)) rfl rfl q13 sz_120 rfl ((lenV_eq _).trans (tkC_8 htk.n8)) (by rw [lenV_eq, Nat.ble_eq]; exact Nat.le_of_eq ((tkC_8 tank0_ok.n8).symm)) (tkC_one _) ?_
   intro w15 hq15 hg15;rw [spl_whole ((tkC_8 htk.n8).trans (tkC_8 tank0_ok.n8).symm)] at hq15;replace q1 := q1.gr hg15 n1_13;replace q2 := q2.gr hg15 n2_13;replace q4 := q4.gr hg15 n4_13;replace q8 := q8.gr hg15 n8_13;replace q9 := q9.gr hg15 n9_13;replace q12 := q12.gr hg15 n12_13;replace hR := hR.box q13 rfl hg15;replace hF2 := hF2.box q13 rfl hg15;replace hM := hM.keeps (keeps_blk q13 hg15);replace hop := own_type hop q13 rfl hg15;replace hbw := below_store hbw hg15 bhbw_13;replace q13 := hq15;clear hg15 hq15;refine EL.nil (EX.ofD (EXI.seq (ECI.seq (ECI.regionLD (EL.val (ld_116 rfl (q1.at (j := 0) rfl) (q1.at (j := 1) rfl) (q1.at (j := 2) rfl) (q1.at (j := 3) rfl) (q1.at (j := 4) rfl) (q1.at (j := 5) rfl)) rfl (EL.val (x_loadA rfl (q13.range (PartAt.whole _)) Try.underlying120 rfl (sz_120.trans (congrArg some (tkC_8 htk.n8).symm))) rfl (EL.call (cA2 cF96 rfl rfl) rfl (ways_fn htk.n8 _) ?_)))))))
   rintro e w16 ⟨⟨b1, b2, rfl, qb1, qb2, hb1, hb2⟩, hc16⟩
   refine ⟨_, rfl, ?_⟩;replace q1 := q1.bl hc16;replace q2 := q2.bl hc16;replace q4 := q4.bl hc16;replace q8 := q8.bl hc16;replace q9 := q9.bl hc16;replace q12 := q12.bl hc16;replace q13 := q13.bl hc16;replace hR := hR.below hc16;replace hF2 := hF2.below hc16;replace hM := hM.below hc16;replace hop := own_below hop hc16 (Nat.le_refl _);replace hbw := bo_ hbw hc16;clear hc16;refine EL.nil (EX.ofD (EXI.seq (ECI.block ?_)));have ls_1 := q1.lt;have ls_2 := q2.lt;have ls_4 := q4.lt;have ls_8 := q8.lt;have ls_9 := q9.lt;have ls_12 := q12.lt;have hsz := hbw.size;have hl1 := hF2.lt;have hl2 := hR.front.lt;have hl3 := hR.lt;have hsoft : SoftI w.heap.size w16.heap.size [] (fun pre W => (∃ F2 n2, Front W base ob n2 (j + 1) F2 ∧ n2 ≤ D.length * 15 + i * 5 + pre.length ∧ FrontOf ((D.flatMap (extY (yardOf ru many) cg) ++ (List.range i).flatMap fun i => (kindsL ru.kinds.length).flatMap (ext1 (yardOf ru many) cg y i)) ++ ((kindsL ru.kinds.length).take pre.length).flatMap (ext1 (yardOf ru many) cg y i)) F2) ∧ RFront W base mb rr n j F (D ++ [y]) c2 ∧ Blk W g1 116 #[.slice Al ru.levels.length cl, .int .i64 ru.fade.lo, .int .i64 ru.fade.hi, .slice Aa ru.allow.length ca, .slice Ap ru.apart.length cp, .slice Ak ru.kinds.length ck] ∧ Blk W g2 3 #[.int .i64 (cg : Nat)] ∧ Blk W g4 171 #[.map (some ob)] ∧ Blk W g8 150 (flC y.1).toArray ∧ Blk W g9 134 #[.slice Av y.2.steps.length cv, .int .i64 y.2.washes, .int .i64 y.2.cost] ∧ Blk W g12 3 #[.int .i64 (i : Nat)] ∧ W.ownsRow base 70 2 (.slice Av y.2.steps.length cv) y.2.steps.length (stsC y.2.steps) ∧ MarksIn w.heap.size dm w16 W ∧ Below w.heap.size w W) := fun s A B' ⟨⟨F2, n2, h1, h2, h3⟩, h4, h5, h6, h7, h8, h9, h10, h11, h12, h13⟩ hs => ⟨⟨F2, n2, h1.soft hl1 hs, h2, h3⟩, h4.soft hl2 hl3 hs, hs.blk h5 rfl, hs.blk h6 rfl, hs.blk h7 rfl, hs.blk h8 rfl, hs.blk h9 rfl, hs.blk h10 rfl, own_soft h11 hs, h12.soft (Nat.le_refl _) hs, hs.below h13 h13.size hsz⟩
   refine rangeF2 (MT := 120) (cs := fun x => (tkC (wayT ru tk (x.1.getD 0 0))).toArray) (σ1 := fun x g => _) (ok := okW ru tk) (n0 := w.heap.size) (S := [150, 134]) rfl (fun args w => by kernel_rfl) rfl rfl (ways_iter (hr.below (hbw.mono hB)) hro htk hB hbw.size ⟨rfl, rfl⟩ qb1 qb2) hbw.size (fun pre W => (∃ F2 n2, Front W base ob n2 (j + 1) F2 ∧ n2 ≤ D.length * 15 + i * 5 + pre.length ∧ FrontOf ((D.flatMap (extY (yardOf ru many) cg) ++ (List.range i).flatMap fun i => (kindsL ru.kinds.length).flatMap (ext1 (yardOf ru many) cg y i)) ++ ((kindsL ru.kinds.length).take pre.length).flatMap (ext1 (yardOf ru many) cg y i)) F2) ∧ RFront W base mb rr n j F (D ++ [y]) c2 ∧ Blk W g1 116 #[.slice Al ru.levels.length cl, .int .i64 ru.fade.lo, .int .i64 ru.fade.hi, .slice Aa ru.allow.length ca, .slice Ap ru.apart.length cp, .slice Ak ru.kinds.length ck] ∧ Blk W g2 3 #[.int .i64 (cg : Nat)] ∧ Blk W g4 171 #[.map (some ob)] ∧ Blk W g8 150 (flC y.1).toArray ∧ Blk W g9 134 #[.slice Av y.2.steps.length cv, .int .i64 y.2.washes, .int .i64 y.2.cost] ∧ Blk W g12 3 #[.int .i64 (i : Nat)] ∧ W.ownsRow base 70 2 (.slice Av y.2.steps.length cv) y.2.steps.length (stsC y.2.steps) ∧ MarksIn w.heap.size dm w16 W ∧ Below w.heap.size w W) (fun _ _ => False) hsoft soft_false ⟨⟨_, _, hF2, hn2, by simpa using hfo⟩, hR, q1, q2, q4, q8, q9, q12, hop, hM.refl, hbw⟩ (fun _ _ _ _ h _ _ => h) (fun _ _ _ h _ => h) (assignW hro htk rfl rfl rfl rfl rfl) ?_ ?_ ?_
   ·
    clear q1 q2 q4 q8 q9 q12 hF2 hn2 hfo hR hop hM qb1 qb2;clear hbw
    rintro la pre ⟨x1, x2⟩ g15 W hpf ⟨k, ek, ev_⟩ ⟨⟨F4, n4, hF2, hn2, hfo⟩, hR, q1, q2, q4, q8, q9, q12, hop, hM, hbw⟩ q15 hg15 hWs
    dsimp only at ek ev_
    subst ek ev_;change Blk W g15 120 (tkC (wayT ru tk k)).toArray at q15;obtain ⟨hpl, hpk, _⟩ := pre_k hpf
    injection hpk with hpk _
    have hkv := kinds_val hpl;rw [← hpk] at hkv;have htw := wayT_ok hro htk k;have hkp := Kp.refl w.heap.size [150, 134] W;have hkf := KeepsFrom.refl w16.heap.size W;have nm_1 : g1 ≠ g15 := Nat.ne_of_lt (Nat.lt_of_lt_of_le ls_1 hg15);have nm_2 : g2 ≠ g15 := Nat.ne_of_lt (Nat.lt_of_lt_of_le ls_2 hg15);have nm_4 : g4 ≠ g15 := Nat.ne_of_lt (Nat.lt_of_lt_of_le ls_4 hg15);have nm_8 : g8 ≠ g15 := Nat.ne_of_lt (Nat.lt_of_lt_of_le ls_8 hg15);have nm_9 : g9 ≠ g15 := Nat.ne_of_lt (Nat.lt_of_lt_of_le ls_9 hg15);have nm_12 : g12 ≠ g15 := Nat.ne_of_lt (Nat.lt_of_lt_of_le ls_12 hg15);have bhbw_m := Nat.le_trans hsz hg15
    cases hmay : (mayT ru (wayT ru tk k) cg ru.levels.length).1
    ·
     have hgo : goT ru cg y.1 i k = none := by unfold goT; rw [← etk, hmay]; rfl
     refine ECI.block (ECI.seq (ECI.seq ?_));refine ECI.regionL (by repeat (first | exact lets_body | exact lets_no | refine lets_then ?_ | refine lets_blk ?_)) (by kernel_rfl) ?_
     refine EL.val (ld_116 rfl (q1.at (j := 0) rfl) (q1.at (j := 1) rfl) (q1.at (j := 2) rfl) (q1.at (j := 3) rfl) (q1.at (j := 4) rfl) (q1.at (j := 5) rfl)) rfl (EL.val (x_loadA rfl (q15.range (PartAt.whole _)) Try.underlying120 rfl (sz_120.trans (congrArg some (tkC_8 htw.n8).symm))) rfl (EL.val (ld_3 rfl (q2.at (j := 0) rfl)) rfl ?_));have hcall := may_any (hr.below (hbw.mono hB)) (Nat.le_trans hB hbw.size) hro htw hcg;rw [hmay] at hcall;refine EL.call (cA3 cF65 rfl rfl rfl) rfl (hcall) ?_
     rintro e w17 ⟨rfl, hc17⟩
     refine ⟨_, rfl, ?_⟩;replace q1 := q1.bl hc17;replace q2 := q2.bl hc17;replace q4 := q4.bl hc17;replace q8 := q8.bl hc17;replace q9 := q9.bl hc17;replace q12 := q12.bl hc17;replace q15 := q15.bl hc17;replace hkp := hkp.trans (Kp.of_below hc17 hbw.size);replace hkf := hkf.trans (KeepsFrom.below hc17);replace hR := hR.below hc17;replace hF2 := hF2.below hc17;replace hM := hM.below hc17;replace hop := own_below hop hc17 (Nat.le_refl _);replace hbw := bo_ hbw hc17;clear hc17;clear hcall;refine EL.mv rfl rfl (EL.xt rfl rfl rfl (EL.xt rfl rfl rfl (EL.as rfl rfl (EL.as rfl rfl (EL.nil (EX.toI (EXI.seq (ECI.seq ?_))))))));refine ECI.regionL (by repeat (first | exact lets_body | exact lets_no | refine lets_then ?_ | refine lets_blk ?_)) (by kernel_rfl) ?_
     refine EL.mv rfl rfl (EL.val (x_not rfl) rfl (EL.nil (EX.toI (EXI.seq (ECI.yes rfl (ECI.exit (EXI.seq_exit (EXI.blk_here ?_))))))))
     exact fun a0 ha0 => ⟨hkf, hkp, .inl ⟨rfl, ⟨_, _, hF2, by simp only [List.length_append, List.length_singleton]; omega, by rw [flatK_succ hpf rfl]; exact frontK_no hfo hgo⟩, hR, q1, q2, q4, q8, q9, q12, hop, hM, hbw⟩⟩
    ·
     have hgo : goT ru cg y.1 i k = some (y.1.set i (loadT ru (wayT ru tk k) cg)) := by unfold goT; rw [← etk, hmay]; rfl
     have hsf : FlOk (y.1.set i (loadT ru (wayT ru tk k) cg)) := goT_ok hro hys hi3 hgo;have htl := loadT_ok htw hro cg;refine ECI.block (ECI.seq (ECI.seq ?_));refine ECI.regionL (by repeat (first | exact lets_body | exact lets_no | refine lets_then ?_ | refine lets_blk ?_)) (by kernel_rfl) ?_
     refine EL.val (ld_116 rfl (q1.at (j := 0) rfl) (q1.at (j := 1) rfl) (q1.at (j := 2) rfl) (q1.at (j := 3) rfl) (q1.at (j := 4) rfl) (q1.at (j := 5) rfl)) rfl (EL.val (x_loadA rfl (q15.range (PartAt.whole _)) Try.underlying120 rfl (sz_120.trans (congrArg some (tkC_8 htw.n8).symm))) rfl (EL.val (ld_3 rfl (q2.at (j := 0) rfl)) rfl ?_));have hcall := may_any (hr.below (hbw.mono hB)) (Nat.le_trans hB hbw.size) hro htw hcg;rw [hmay] at hcall;refine EL.call (cA3 cF65 rfl rfl rfl) rfl (hcall) ?_
     rintro e w18 ⟨rfl, hc18⟩
     refine ⟨_, rfl, ?_⟩;replace q1 := q1.bl hc18;replace q2 := q2.bl hc18;replace q4 := q4.bl hc18;replace q8 := q8.bl hc18;replace q9 := q9.bl hc18;replace q12 := q12.bl hc18;replace q15 := q15.bl hc18;replace hkp := hkp.trans (Kp.of_below hc18 hbw.size);replace hkf := hkf.trans (KeepsFrom.below hc18);replace hR := hR.below hc18;replace hF2 := hF2.below hc18;replace hM := hM.below hc18;replace hop := own_below hop hc18 (Nat.le_refl _);replace hbw := bo_ hbw hc18;clear hc18;clear hcall;refine EL.mv rfl rfl (EL.xt rfl rfl rfl (EL.xt rfl rfl rfl (EL.as rfl rfl (EL.as rfl rfl (EL.nil (EX.toI (EXI.seq (ECI.seq ?_))))))));refine ECI.regionL (by repeat (first | exact lets_body | exact lets_no | refine lets_then ?_ | refine lets_blk ?_)) (by kernel_rfl) ?_
     refine EL.mv rfl rfl (EL.val (x_not rfl) rfl (EL.nil (EX.toI (EXI.seq (ECI.no rfl (ECI.skip (EXI.seq (ECI.seq ?_))))))));refine ECI.regionL (by repeat (first | exact lets_body | exact lets_no | refine lets_then ?_ | refine lets_blk ?_)) (by kernel_rfl) ?_
     refine EL.val (x_loadA rfl (q8.range (PartAt.whole _)) Try.underlying150 rfl (sz_150.trans (congrArg some hys.fl.len.symm))) rfl (EL.newP al_fleet rfl ?_);intro g19 w19 q19 hb19 hg19 hl19;have n1_19 := q1.na hg19;have n2_19 := q2.na hg19;have n4_19 := q4.na hg19;have n8_19 := q8.na hg19;have n9_19 := q9.na hg19;have n12_19 := q12.na hg19;have nm_19 := q15.na hg19;have bhbw_19 := Nat.le_trans hbw.size hg19;replace q1 := q1.bl hb19;replace q2 := q2.bl hb19;replace q4 := q4.bl hb19;replace q8 := q8.bl hb19;replace q9 := q9.bl hb19;replace q12 := q12.bl hb19;replace q15 := q15.bl hb19;replace hkp := hkp.trans (Kp.of_below hb19 hbw.size);replace hkf := hkf.trans (KeepsFrom.below hb19);replace hR := hR.below hb19;replace hF2 := hF2.below hb19;replace hM := hM.below hb19;replace hop := own_below hop hb19 (Nat.le_refl _);replace hbw := bo_ hbw hb19;clear hb19 hg19 hl19;refine EL.store (l' := (flC y.1)) rfl rfl q19 sz_150 rfl ((lenV_eq _).trans hys.fl.len) (by rw [lenV_eq, Nat.ble_eq]; exact Nat.le_of_eq (fl0_len.symm)) (flC_one _) ?_
     intro w20 hq20 hg20;rw [spl_whole (hys.fl.len.trans fl0_len.symm)] at hq20;replace q1 := q1.gr hg20 n1_19;replace q2 := q2.gr hg20 n2_19;replace q4 := q4.gr hg20 n4_19;replace q8 := q8.gr hg20 n8_19;replace q9 := q9.gr hg20 n9_19;replace q12 := q12.gr hg20 n12_19;replace q15 := q15.gr hg20 nm_19;replace hkp := hkp.trans (Kp.grown q19 rfl bhbw_19 hg20);replace hkf := hkf.trans (.of (keeps_blk q19 hg20));replace hR := hR.box q19 rfl hg20;replace hF2 := hF2.box q19 rfl hg20;replace hM := hM.keeps (keeps_blk q19 hg20);replace hop := own_type hop q19 rfl hg20;replace hbw := below_store hbw hg20 bhbw_19;replace q19 := hq20;clear hg20 hq20;refine EL.nil (EX.toI (EXI.seq (ECI.seq ?_)));have lt_1 := q1.lt;have lt_2 := q2.lt;have lt_4 := q4.lt;have lt_8 := q8.lt;have lt_9 := q9.lt;have lt_12 := q12.lt;have lt_m := q15.lt;have lt_19 := q19.lt;refine ECI.regionO (by repeat (first | exact lets_body | exact lets_no | refine lets_then ?_ | refine lets_blk ?_)) (by kernel_rfl) (EO.regionP [[], [], [], [], [1, 2, 3], [0, 1, 2, 3, 4], [0, 1, 2, 3, 4, 5]] 5 [] (phi (fun i_ r => match i_ with | 0 => r 0 = .int .i64 (i : Nat) | 1 => r 1 = .agg #[.slice Al ru.levels.length cl, .int .i64 ru.fade.lo, .int .i64 ru.fade.hi, .slice Aa ru.allow.length ca, .slice Ap ru.apart.length cp, .slice Ak ru.kinds.length ck] | 2 => r 2 = .agg (tkC (wayT ru tk k)).toArray | 3 => r 3 = .int .i64 (cg : Nat) | 4 => r 4 = .agg (tkC (loadT ru (wayT ru tk k) cg)).toArray | _ => True) []) (by kernel_rfl) rfl rfl (phi_nil) (fun i_ hi_ => ?_) ?_)
     ·match i_, hi_ with
      | 0, _ =>
       intro val w1 a hb ha hd;have ha := ha.s0 (d := 12) rfl
       exact hs_val ha rfl rfl (ld_3 rfl ((q12.below hb q12.lt).at (j := 0) rfl)) rfl rfl
      | 1, _ =>
       intro val w1 a hb ha hd;have ha := ha.s0 (d := 4) rfl
       exact hs_val ha rfl rfl (ld_116 rfl ((q1.below hb q1.lt).at (j := 0) rfl) ((q1.below hb q1.lt).at (j := 1) rfl) ((q1.below hb q1.lt).at (j := 2) rfl) ((q1.below hb q1.lt).at (j := 3) rfl) ((q1.below hb q1.lt).at (j := 4) rfl) ((q1.below hb q1.lt).at (j := 5) rfl)) rfl rfl
      | 2, _ =>
       intro val w1 a hb ha hd;have ha := ha.s0 (d := 15) rfl
       exact hs_val ha rfl rfl (x_loadA rfl ((q15.below hb q15.lt).range (PartAt.whole _)) Try.underlying120 rfl (sz_120.trans (congrArg some (tkC_8 htw.n8).symm))) rfl rfl
      | 3, _ =>
       intro val w1 a hb ha hd;have ha := ha.s0 (d := 7) rfl
       exact hs_val ha rfl rfl (ld_3 rfl ((q2.below hb q2.lt).at (j := 0) rfl)) rfl rfl
      | 4, _ =>
       intro val w1 a hb ha hd;have e1 : val 1 = _ := hd 1 (memB_mem.1 rfl);have e2 : val 2 = _ := hd 2 (memB_mem.1 rfl);have e3 : val 3 = _ := hd 3 (memB_mem.1 rfl);have ha := ha.sub (Sub.ins (d := 54) (Sub.ins (d := 53) (Sub.ins (d := 52) (Sub.nil _) (dep_get rfl e1)) (dep_get rfl e2)) (dep_get rfl e3));refine hs_call ha rfl rfl (cA3 cF73 rfl rfl rfl) (load_any (hr.below ((hbw.trans (hb.mono hbw.size)).mono hB)) hro htw hcg) rfl ?_
       rintro e w' ⟨rfl, hb'⟩
       exact ⟨_, rfl, hb', rfl⟩
      | k + 5, h => exact absurd h (by omega)
     ·intro val wR14 hb halc hd
      have e0 : val 0 = _ := hd 0 (by omega)
      have e1 : val 1 = _ := hd 1 (by omega)
      have e2 : val 2 = _ := hd 2 (by omega)
      have e3 : val 3 = _ := hd 3 (by omega)
      have e4 : val 4 = _ := hd 4 (by omega)
      refine EL.ends (cs := [_, _, _, _, _]) ⟨e0, e1, e2, e3, e4, trivial⟩ rfl ?_;replace q1 := q1.bl hb;replace q2 := q2.bl hb;replace q4 := q4.bl hb;replace q8 := q8.bl hb;replace q9 := q9.bl hb;replace q12 := q12.bl hb;replace q15 := q15.bl hb;replace q19 := q19.bl hb;replace hkp := hkp.trans (Kp.of_below hb hbw.size);replace hkf := hkf.trans (KeepsFrom.below hb);replace hR := hR.below hb;replace hF2 := hF2.below hb;replace hM := hM.below hb;replace hop := own_below hop hb (Nat.le_refl _);replace hbw := bo_ hbw hb;clear hb;refine EL.val (ixa_150 rfl rfl hi3) rfl ?_;refine EL.store (l' := tkC (loadT ru (wayT ru tk k) cg)) rfl rfl q19 sz_120 rfl ((lenV_eq _).trans (tkC_8 htl.n8)) (by rw [lenV_eq, Nat.ble_eq, hys.fl.len]; omega) (tkC_one _) ?_
      intro w21 hq21 hg21;rw [Nat.zero_add, tk_set hys.fl hi3 htl.n8] at hq21;replace q1 := q1.gr hg21 n1_19;replace q2 := q2.gr hg21 n2_19;replace q4 := q4.gr hg21 n4_19;replace q8 := q8.gr hg21 n8_19;replace q9 := q9.gr hg21 n9_19;replace q12 := q12.gr hg21 n12_19;replace q15 := q15.gr hg21 nm_19;replace hkp := hkp.trans (Kp.grown q19 rfl bhbw_19 hg21);replace hkf := hkf.trans (.of (keeps_blk q19 hg21));replace hR := hR.box q19 rfl hg21;replace hF2 := hF2.box q19 rfl hg21;replace hM := hM.keeps (keeps_blk q19 hg21);replace hop := own_type hop q19 rfl hg21;replace hbw := below_store hbw hg21 bhbw_19;replace q19 := hq21;clear hg21 hq21;refine EL.nil (EX.toI (EXI.seq (ECI.seq ?_)));have lt_1 := q1.lt;have lt_2 := q2.lt;have lt_4 := q4.lt;have lt_8 := q8.lt;have lt_9 := q9.lt;have lt_12 := q12.lt;have lt_m := q15.lt;have lt_19 := q19.lt;refine ECI.regionO (by repeat (first | exact lets_body | exact lets_no | refine lets_then ?_ | refine lets_blk ?_)) (by kernel_rfl) (EO.regionP [[], [0], [0, 1], [], [], [3, 4], [3, 4, 5], [0, 1, 2, 3, 4, 5, 6], [], [8], [], [10], [0, 1, 2, 3, 4, 5, 6, 7, 8, 9, 10, 11], [], [0, 1, 2, 3, 4, 5, 6, 7, 8, 9, 10, 11, 12, 13]] 14 [13] (phi (fun i_ r => match i_ with | 0 => r 0 = .pointer (some ⟨g9, 0, none⟩) | 1 => r 1 = .slice Av y.2.steps.length cv | 2 => r 2 = .slice Av y.2.steps.length y.2.steps.length | 3 => r 3 = .int .i64 (i : Nat) | 4 => r 4 = .int .i64 k | 5 => r 5 = .agg #[.int .i64 (i : Nat), .int .i64 k] | 8 => r 8 = .pointer (some ⟨g9, 1, none⟩) | 9 => r 9 = .int .i64 y.2.washes | 10 => r 10 = .pointer (some ⟨g9, 2, none⟩) | 11 => r 11 = .int .i64 y.2.cost | _ => True) [(6, fun r w_ => ∃ g_, r 6 = .slice (some ⟨g_, 0, none⟩) 1 1 ∧ Blk w_ g_ 70 #[.int .i64 (i : Nat), .int .i64 k] ∧ w21.heap.size ≤ g_), (7, fun r w_ => ∃ A c, r 7 = .slice A (y.2.steps.length + 1) c ∧ w_.ownsRow base 70 2 (.slice A (y.2.steps.length + 1) c) (y.2.steps.length + 1) (stsC y.2.steps ++ [.int .i64 (i : Nat), .int .i64 k])), (12, fun r w_ => ∃ A c, r 12 = .agg #[.slice A (y.2.steps.length + 1) c, .int .i64 y.2.washes, .int .i64 y.2.cost] ∧ w_.ownsRow base 70 2 (.slice A (y.2.steps.length + 1) c) (y.2.steps.length + 1) (stsC y.2.steps ++ [.int .i64 (i : Nat), .int .i64 k])), (13, fun r w_ => ∃ g_, r 13 = .pointer (some ⟨g_, 0, none⟩) ∧ Blk w_ g_ 134 #[.slice none 0 0, .int .i64 0, .int .i64 0])]) (by kernel_rfl) rfl rfl (phi_cons mono_bs (phi_cons (mono_cp (f := fun A c => .slice A (y.2.steps.length + 1) c)) (phi_cons (mono_cp (f := fun A c => .agg #[.slice A (y.2.steps.length + 1) c, .int .i64 y.2.washes, .int .i64 y.2.cost])) (phi_cons mono_alloc (phi_nil))))) (fun i_ hi_ => ?_) ?_)
      ·match i_, hi_ with
       | 0, _ =>
        intro val w1 a hb ha hd;have ha := ha.s0 (d := 11) rfl
        exact hs_val ha rfl rfl (fa_134_0 rfl) rfl rfl
       | 1, _ =>
        intro val w1 a hb ha hd;have e0 : val 0 = _ := hd 0 (memB_mem.1 rfl);have ha := ha.s1 (d := 57) rfl e0
        exact hs_val ha rfl rfl (ld_65 rfl ((q9.below hb q9.lt).at (j := 0) rfl)) rfl rfl
       | 2, _ =>
        intro val w1 a hb ha hd;have e1 : val 1 = _ := hd 1 (memB_mem.1 rfl);have ha := ha.s1 (d := 58) rfl e1;refine hs_call ha rfl rfl (cA1 cF97 rfl) (Clip_any _ (own_below hop hb (Nat.le_refl _))) rfl ?_
        rintro e w' ⟨rfl, hb'⟩
        exact ⟨_, rfl, hb', rfl⟩
       | 3, _ =>
        intro val w1 a hb ha hd;have ha := ha.s0 (d := 12) rfl
        exact hs_val ha rfl rfl (ld_3 rfl ((q12.below hb q12.lt).at (j := 0) rfl)) rfl rfl
       | 4, _ =>
        intro val w1 a hb ha hd;have ha := ha.s0 (d := 14) rfl
        exact hs_val ha rfl rfl (x_move rfl) rfl rfl
       | 5, _ =>
        intro val w1 a hb ha hd;have e3 : val 3 = _ := hd 3 (memB_mem.1 rfl);have e4 : val 4 = _ := hd 4 (memB_mem.1 rfl);have ha := ha.s2 (d := 61) (e := 60) rfl e4 rfl e3
        exact hs_val ha rfl rfl (bd_70_0_1 rfl rfl) rfl rfl
       | 6, _ =>
        intro val w1 a hb ha hd;have e5 : val 5 = _ := hd 5 (memB_mem.1 rfl);have ha := ha.s1 (d := 62) rfl e5
        exact hs_newS ha rfl rfl (bs_65_1 rfl) rfl (fun g w' hq _ hge => ⟨g, rfl, hq, Nat.le_trans hb.size hge⟩)
       | 7, _ =>
        intro val w1 a hb ha hd;have e2 : val 2 = _ := hd 2 (memB_mem.1 rfl);obtain ⟨g6_, e6, q6_, h6_⟩ := hd 6 (memB_mem.1 rfl);change val 6 = _ at e6;have ha := ha.s2 (d := 63) (e := 59) rfl e6 rfl e2;refine hs_grow (base := base) st_elem ha rfl rfl rfl (rd_clip (Rd.of_own (own_below hop hb (Nat.le_refl _)))) (rd_one (l := [.int .i64 (i : Nat), .int .i64 k]) q6_ rfl) (by omega) (by omega) rfl (by have := hb.size; have := hbw.size; omega) rfl ?_
        intro v' w' ho' _;obtain ⟨A', c', rfl, _⟩ := (Rd.of_own ho').shape
        exact ⟨A', c', rfl, ho'⟩
       | 8, _ =>
        intro val w1 a hb ha hd;have ha := ha.s0 (d := 11) rfl
        exact hs_val ha rfl rfl (fa_134_1 rfl) rfl rfl
       | 9, _ =>
        intro val w1 a hb ha hd;have e8 : val 8 = _ := hd 8 (memB_mem.1 rfl);have ha := ha.s1 (d := 65) rfl e8
        exact hs_val ha rfl rfl (ld_3 rfl ((q9.below hb q9.lt).at (j := 1) rfl)) rfl rfl
       | 10, _ =>
        intro val w1 a hb ha hd;have ha := ha.s0 (d := 11) rfl
        exact hs_val ha rfl rfl (fa_134_2 rfl) rfl rfl
       | 11, _ =>
        intro val w1 a hb ha hd;have e10 : val 10 = _ := hd 10 (memB_mem.1 rfl);have ha := ha.s1 (d := 67) rfl e10
        exact hs_val ha rfl rfl (ld_3 rfl ((q9.below hb q9.lt).at (j := 2) rfl)) rfl rfl
       | 12, _ =>
        intro val w1 a hb ha hd;obtain ⟨A7_, c7_, e7, ho7_⟩ := hd 7 (memB_mem.1 rfl);have e9 : val 9 = _ := hd 9 (memB_mem.1 rfl);have e11 : val 11 = _ := hd 11 (memB_mem.1 rfl);have ha := ha.sub (Sub.ins (d := 68) (Sub.ins (d := 66) (Sub.ins (d := 64) (Sub.nil _) (dep_get rfl e7)) (dep_get rfl e9)) (dep_get rfl e11))
        exact hs_val ha rfl rfl (bd_134_0_1_2 rfl rfl rfl) ⟨A7_, c7_, rfl, ho7_⟩ rfl
       | 13, _ =>
        intro val w1 a hb ha hd;have ha := ha.sub (Sub.nil _)
        exact hs_newP ha rfl rfl al_134 (fun g w' hq _ _ => ⟨g, rfl, hq⟩)
       | k + 14, h => exact absurd h (by omega)
      ·intro val wR15 hb halc hd
       have e0 : val 0 = _ := hd 0 (by omega)
       have e1 : val 1 = _ := hd 1 (by omega)
       have e2 : val 2 = _ := hd 2 (by omega)
       have e3 : val 3 = _ := hd 3 (by omega)
       have e4 : val 4 = _ := hd 4 (by omega)
       have e5 : val 5 = _ := hd 5 (by omega)
       obtain ⟨ga6_15, e6, qa6_15, hga6_15⟩ := hd 6 (by omega)
       change val 6 = _ at e6;change Blk wR15 ga6_15 70 #[.int .i64 (i : Nat), .int .i64 k] at qa6_15;obtain ⟨A7_, c7_, e7, ho7_⟩ := hd 7 (by omega)
       have e8 : val 8 = _ := hd 8 (by omega)
       have e9 : val 9 = _ := hd 9 (by omega)
       have e10 : val 10 = _ := hd 10 (by omega)
       have e11 : val 11 = _ := hd 11 (by omega)
       obtain ⟨An, cn, e12, hon⟩ := hd 12 (by omega)
       obtain ⟨ga13_15, e13, qa13_15⟩ := hd 13 (by omega)
       refine EL.ends (cs := [_, _, _, _, _, _, _, _, _, _, _, _, _, _]) ⟨e0, e1, e2, e3, e4, e5, e6, e7, e8, e9, e10, e11, e12, e13, trivial⟩ rfl ?_;replace q1 := q1.bl hb;replace q2 := q2.bl hb;replace q4 := q4.bl hb;replace q8 := q8.bl hb;replace q9 := q9.bl hb;replace q12 := q12.bl hb;replace q15 := q15.bl hb;replace q19 := q19.bl hb;replace hkp := hkp.trans (Kp.of_below hb hbw.size);replace hkf := hkf.trans (KeepsFrom.below hb);replace hR := hR.below hb;replace hF2 := hF2.below hb;replace hM := hM.below hb;replace hop := own_below hop hb (Nat.le_refl _);have bge22 := alc_ge halc (i := 13) rfl rfl e13;have n1_22 : g1 ≠ ga13_15 := Nat.ne_of_lt (Nat.lt_of_lt_of_le lt_1 bge22);have n2_22 : g2 ≠ ga13_15 := Nat.ne_of_lt (Nat.lt_of_lt_of_le lt_2 bge22);have n4_22 : g4 ≠ ga13_15 := Nat.ne_of_lt (Nat.lt_of_lt_of_le lt_4 bge22);have n8_22 : g8 ≠ ga13_15 := Nat.ne_of_lt (Nat.lt_of_lt_of_le lt_8 bge22);have n9_22 : g9 ≠ ga13_15 := Nat.ne_of_lt (Nat.lt_of_lt_of_le lt_9 bge22);have n12_22 : g12 ≠ ga13_15 := Nat.ne_of_lt (Nat.lt_of_lt_of_le lt_12 bge22);have nm_22 : g15 ≠ ga13_15 := Nat.ne_of_lt (Nat.lt_of_lt_of_le lt_m bge22);have n19_22 : g19 ≠ ga13_15 := Nat.ne_of_lt (Nat.lt_of_lt_of_le lt_19 bge22);have bhbw_22 := Nat.le_trans hbw.size bge22;have n1_23 : g1 ≠ ga6_15 := Nat.ne_of_lt (Nat.lt_of_lt_of_le lt_1 hga6_15);have n2_23 : g2 ≠ ga6_15 := Nat.ne_of_lt (Nat.lt_of_lt_of_le lt_2 hga6_15);have n4_23 : g4 ≠ ga6_15 := Nat.ne_of_lt (Nat.lt_of_lt_of_le lt_4 hga6_15);have n8_23 : g8 ≠ ga6_15 := Nat.ne_of_lt (Nat.lt_of_lt_of_le lt_8 hga6_15);have n9_23 : g9 ≠ ga6_15 := Nat.ne_of_lt (Nat.lt_of_lt_of_le lt_9 hga6_15);have n12_23 : g12 ≠ ga6_15 := Nat.ne_of_lt (Nat.lt_of_lt_of_le lt_12 hga6_15);have nm_23 : g15 ≠ ga6_15 := Nat.ne_of_lt (Nat.lt_of_lt_of_le lt_m hga6_15);have n19_23 : g19 ≠ ga6_15 := Nat.ne_of_lt (Nat.lt_of_lt_of_le lt_19 hga6_15);have bhbw_23 := Nat.le_trans hbw.size hga6_15;replace hbw := bo_ hbw hb;clear hb;clear ho7_;change wR15.ownsRow base 70 2 (.slice An (y.2.steps.length + 1) cn) (y.2.steps.length + 1) (stsC y.2.steps ++ [.int .i64 (i : Nat), .int .i64 k]) at hon;refine EL.store rfl rfl qa13_15 sz_134 rfl rfl rfl rfl ?_;intro w24 hq24 hg24;replace q1 := q1.gr hg24 n1_22;replace q2 := q2.gr hg24 n2_22;replace q4 := q4.gr hg24 n4_22;replace q8 := q8.gr hg24 n8_22;replace q9 := q9.gr hg24 n9_22;replace q12 := q12.gr hg24 n12_22;replace q15 := q15.gr hg24 nm_22;replace q19 := q19.gr hg24 n19_22;replace hkp := hkp.trans (Kp.grown qa13_15 rfl bhbw_22 hg24);replace hkf := hkf.trans (.of (keeps_blk qa13_15 hg24));replace hR := hR.box qa13_15 rfl hg24;replace hF2 := hF2.box qa13_15 rfl hg24;replace hM := hM.keeps (keeps_blk qa13_15 hg24);replace hop := own_type hop qa13_15 rfl hg24;replace hon := own_type hon qa13_15 rfl hg24;replace hbw := below_store hbw hg24 bhbw_22;replace qa13_15 := hq24;clear hg24 hq24;refine EL.nil (EX.toI (EXI.seq (ECI.seq (ECI.seq ?_))));refine ECI.regionL (by repeat (first | exact lets_body | exact lets_no | refine lets_then ?_ | refine lets_blk ?_)) (by kernel_rfl) ?_
       refine EL.mv rfl rfl ?_
       rcases hkv with ⟨_, ekn⟩ | ⟨kn, hkn, ekn⟩
       ·
        have hnk : numK k = 0 := by unfold numK; rw [if_pos (by omega)]
        have hck : kcost ru k = 0 := by unfold kcost; rw [if_pos (by omega)]
        refine EL.val (x_geq (r := false) rfl rfl (decide_eq_false (show ¬(0 : Int) ≤ k by omega))) rfl ?_
        refine EL.nil (EX.toI (EXI.seq (ECI.no rfl (ECI.skip (EXI.seq ?_)))));refine ECI.regionL (by repeat (first | exact lets_body | exact lets_no | refine lets_then ?_ | refine lets_blk ?_)) (by kernel_rfl) ?_
        refine EL.val (ld_171 rfl (q4.at (j := 0) rfl)) rfl (EL.val (x_loadA rfl (q19.range (PartAt.whole _)) Try.underlying150 rfl (sz_150.trans (congrArg some hsf.fl.len.symm))) rfl (EL.val (ld_134 rfl (qa13_15.at (j := 0) rfl) (qa13_15.at (j := 1) rfl) (qa13_15.at (j := 2) rfl)) rfl ?_));have hpn := addS_ok hro (p := y.2) (j := j) ⟨hyl, hyw0, hyw1, hyc0, hyc1⟩ i k;have hpv := plv_add (i := i) (k := k) hon (a := y.2.washes) (b := y.2.cost) (n := numK k) (cst := kcost ru k) (by omega) (by omega)
        refine EL.call (cA3 cF98 rfl rfl rfl) rfl (note_any hF2 (by simp only [maxLen]; omega) hsf hpv hpn (by omega)) ?_
        rintro e w25 ⟨rfl, hg25, F5, hf5, hall5⟩
        refine ⟨_, rfl, ?_⟩;obtain ⟨es_, ck_, hmap⟩ := hF2.map;replace q1 := blk_map2 q1 hF2 hg25;replace q2 := blk_map2 q2 hF2 hg25;replace q4 := blk_map2 q4 hF2 hg25;replace q8 := blk_map2 q8 hF2 hg25;replace q9 := blk_map2 q9 hF2 hg25;replace q12 := blk_map2 q12 hF2 hg25;replace q15 := blk_map2 q15 hF2 hg25;replace q19 := blk_map2 q19 hF2 hg25;replace qa13_15 := blk_map2 qa13_15 hF2 hg25;replace hR := hR.other hF2 hg25 hne1 (by omega)
        replace hop := own_map hop hF2 hg25;replace hM := hM.other hmap (fun x e => by cases e) hg25
        replace hkp := hkp.trans (Kp.other hob hmap rfl hg25);replace hkf := hkf.trans (KeepsFrom.low hg25 hl1);replace hbw := hbw.trans (below_blk hg25 hob hbw.size);clear hmap hF2 hon;have hF2 := hf5;clear hf5;refine EL.nil (EX.toI (EXI.blk ?_))
        exact fun a0 ha0 => ⟨hkf, hkp, .inl ⟨rfl, ⟨_, _, hF2, by simp only [List.length_append, List.length_singleton]; omega, by rw [flatK_succ hpf rfl]; exact frontK_yes hgo (hall5 _ hfo)⟩, hR, q1, q2, q4, q8, q9, q12, hop, hM, hbw⟩⟩
       ·
        have hnk : numK k = 1 := by unfold numK; rw [if_neg (by omega)]
        have hck : kcost ru k = (ru.kinds.getD kn kd0).cost := by unfold kcost; rw [if_neg (by omega), ekn, Int.toNat_natCast]
        obtain ⟨bk, ok, e1_, _, hkd⟩ := kds_cells ru.kinds kn hkn w B _ _ _ hr.kinds;have hkb := (kd_bd hro kn).2.2;refine EL.val (x_geq (r := true) rfl rfl (decide_eq_true (show (0 : Int) ≤ k by omega))) rfl ?_
        refine EL.nil (EX.toI (EXI.seq (ECI.yes rfl ?_)));refine ECI.regionO (by repeat (first | exact lets_body | exact lets_no | refine lets_then ?_ | refine lets_blk ?_)) (by kernel_rfl) (EO.regionS [[], [0], [0, 1], [], [3], [], [5], [5, 6], [], [5, 6, 7, 8], [5, 6, 7, 8, 9], [5, 6, 7, 8, 9, 10], [3, 4, 5, 6, 7, 8, 9, 10, 11], [0, 1, 2, 3, 4], [0, 1, 2, 3, 4, 13], [0, 1, 2, 3, 4, 5, 6, 7, 8, 9, 10, 11, 12, 13, 14], [0, 1, 2, 3, 4, 5, 6, 7, 8, 9, 10, 11, 12, 13, 14, 15]] 15 [] [14] (fun fl w_ => w24.grownBy w_ (some ga13_15) ∧ (fl 14 = false → Blk w_ ga13_15 134 [.slice An (y.2.steps.length + 1) cn, .int .i64 y.2.washes, .int .i64 y.2.cost].toArray)) (phiS (fun i_ r => match i_ with | 0 => r 0 = .pointer (some ⟨ga13_15, 1, none⟩) | 1 => r 1 = .int .i64 y.2.washes | 2 => r 2 = .int .i64 (y.2.washes + 1) | 3 => r 3 = .pointer (some ⟨ga13_15, 2, none⟩) | 4 => r 4 = .int .i64 y.2.cost | 5 => r 5 = .pointer (some ⟨g1, 0, none⟩) | 6 => r 6 = .pointer (some ⟨g1, 5, none⟩) | 7 => r 7 = .slice Ak ru.kinds.length ck | 8 => r 8 = .int .i64 k | 9 => r 9 = .pointer (some ⟨bk, ok + kn * 5, none⟩) | 10 => r 10 = .pointer (some ⟨bk, ok + kn * 5 + 4, none⟩) | 11 => r 11 = .int .i64 (ru.kinds.getD kn kd0).cost | 12 => r 12 = .int .i64 (y.2.cost + (ru.kinds.getD kn kd0).cost) | 13 => r 13 = .pointer (some ⟨ga13_15, 1, none⟩) | _ => True) [(14, fun _ r w_ => Blk w_ ga13_15 134 [.slice An (y.2.steps.length + 1) cn, .int .i64 (y.2.washes + 1), .int .i64 y.2.cost].toArray)]) (by kernel_rfl) rfl rfl (by intro i hi; simp at hi; subst hi; exact ⟨by simp, by omega⟩) (base_own qa13_15) (phiS_cons monoS_own phiS_nil) (fun i_ hi_ hs_ => ?_) (fun i_ hi_ => ?_) ?_)
        ·match i_, hi_ with
         | 0, _ =>
          intro val fl w1 a hb ha hd hfl;obtain ⟨hgb, hg0⟩ := hb;have ha := ha.s0 (d := 19) rfl
          exact ss_val ha rfl rfl (fa_134_1 rfl) rfl rfl
         | 1, _ =>
          intro val fl w1 a hb ha hd hfl;obtain ⟨hgb, hg0⟩ := hb;have e0 : val 0 = _ := hd 0 (memB_mem.1 rfl);have ha := ha.s1 (d := 72) rfl e0;have hq0 := hg0 (hfl 14 (by simp) (memB_mem.1 rfl))
          exact ss_val ha rfl rfl (ld_3 rfl (hq0.at (j := 1) rfl)) rfl rfl
         | 2, _ =>
          intro val fl w1 a hb ha hd hfl;obtain ⟨hgb, hg0⟩ := hb;have e1 : val 1 = _ := hd 1 (memB_mem.1 rfl);have ha := ha.s1 (d := 73) rfl e1
          exact ss_val ha rfl rfl (x_add rfl rfl (by first | assumption | exact IntWalk.i64_in _ ⟨by omega, by omega⟩)) rfl rfl
         | 3, _ =>
          intro val fl w1 a hb ha hd hfl;obtain ⟨hgb, hg0⟩ := hb;have ha := ha.s0 (d := 19) rfl
          exact ss_val ha rfl rfl (fa_134_2 rfl) rfl rfl
         | 4, _ =>
          intro val fl w1 a hb ha hd hfl;obtain ⟨hgb, hg0⟩ := hb;have e3 : val 3 = _ := hd 3 (memB_mem.1 rfl);have ha := ha.s1 (d := 75) rfl e3;have hq0 := hg0 (hfl 14 (by simp) (memB_mem.1 rfl))
          exact ss_val ha rfl rfl (ld_3 rfl (hq0.at (j := 2) rfl)) rfl rfl
         | 5, _ =>
          intro val fl w1 a hb ha hd hfl;obtain ⟨hgb, hg0⟩ := hb;have ha := ha.s0 (d := 4) rfl
          exact ss_val ha rfl rfl (fa_116_0 rfl) rfl rfl
         | 6, _ =>
          intro val fl w1 a hb ha hd hfl;obtain ⟨hgb, hg0⟩ := hb;have e5 : val 5 = _ := hd 5 (memB_mem.1 rfl);have ha := ha.s1 (d := 77) rfl e5
          exact ss_val ha rfl rfl (fa_28_4 rfl) rfl rfl
         | 7, _ =>
          intro val fl w1 a hb ha hd hfl;obtain ⟨hgb, hg0⟩ := hb;have e6 : val 6 = _ := hd 6 (memB_mem.1 rfl);have ha := ha.s1 (d := 78) rfl e6
          exact ss_val ha rfl rfl (ld_26 rfl ((q1.grown hgb (fun h => n1_22 (Option.some.inj h))).at (j := 5) rfl)) rfl rfl
         | 8, _ =>
          intro val fl w1 a hb ha hd hfl;obtain ⟨hgb, hg0⟩ := hb;have ha := ha.s0 (d := 14) rfl
          exact ss_val ha rfl rfl (x_move rfl) rfl rfl
         | 9, _ =>
          intro val fl w1 a hb ha hd hfl;obtain ⟨hgb, hg0⟩ := hb;have e7 : val 7 = _ := hd 7 (memB_mem.1 rfl);have e8 : val 8 = _ := hd 8 (memB_mem.1 rfl);have ha := ha.s2 (d := 80) (e := 79) rfl e8 rfl e7
          exact ss_val ha rfl rfl (ix_26 (by show some (Value.slice Ak _ _) = _; rw [e1_]) (by show some (Value.int .i64 k) = _; rw [ekn]) hkn) rfl rfl
         | 10, _ =>
          intro val fl w1 a hb ha hd hfl;obtain ⟨hgb, hg0⟩ := hb;have e9 : val 9 = _ := hd 9 (memB_mem.1 rfl);have ha := ha.s1 (d := 81) rfl e9
          exact ss_val ha rfl rfl (fa_52_3 rfl) rfl rfl
         | 11, _ =>
          intro val fl w1 a hb ha hd hfl;obtain ⟨hgb, hg0⟩ := hb;have e10 : val 10 = _ := hd 10 (memB_mem.1 rfl);have ha := ha.s1 (d := 82) rfl e10
          exact ss_val ha rfl rfl (ld_3 rfl (below_load (below_store hbw hgb bhbw_22) hkd.c4)) rfl rfl
         | 12, _ =>
          intro val fl w1 a hb ha hd hfl;obtain ⟨hgb, hg0⟩ := hb;have e4 : val 4 = _ := hd 4 (memB_mem.1 rfl);have e11 : val 11 = _ := hd 11 (memB_mem.1 rfl);have ha := ha.s2 (d := 83) (e := 76) rfl e11 rfl e4
          exact ss_val ha rfl rfl (x_add rfl rfl (by first | assumption | exact IntWalk.i64_in _ ⟨by omega, by omega⟩)) rfl rfl
         | 13, _ =>
          intro val fl w1 a hb ha hd hfl;obtain ⟨hgb, hg0⟩ := hb;have ha := ha.s0 (d := 19) rfl
          exact ss_val ha rfl rfl (fa_134_1 rfl) rfl rfl
         | 14, _ =>
          exact absurd (by simp) hs_
         | k + 15, h => exact absurd h (by omega)
        ·simp only [List.mem_singleton] at hi_; subst hi_
         intro val fl w1 a hb hfi ha hd hfl;obtain ⟨hgb, hg0⟩ := hb;have e13 : val 13 = _ := hd 13 (memB_mem.1 rfl);have e2 : val 2 = _ := hd 2 (memB_mem.1 rfl);have ha := ha.s2 (d := 74) (e := 85) rfl e2 rfl e13;refine ts_store ha rfl rfl rfl (hg0 hfi) sz_3 rfl rfl rfl rfl ?_;intro w' hq2 hgr;refine ⟨undef, rfl, hgr.size, ⟨grown_three hgb hgr, fun h => by rw [fset_eq] at h; cases h⟩, hq2, fun j _ hj hn hA => ?_⟩
         exact phiS_cons_st (C := fun j => j ≠ 14 ∧ 14 ∉ clsAt [[], [0], [0, 1], [], [3], [], [5], [5, 6], [], [5, 6, 7, 8], [5, 6, 7, 8, 9], [5, 6, 7, 8, 9, 10], [3, 4, 5, 6, 7, 8, 9, 10, 11], [0, 1, 2, 3, 4], [0, 1, 2, 3, 4, 13], [0, 1, 2, 3, 4, 5, 6, 7, 8, 9, 10, 11, 12, 13, 14], [0, 1, 2, 3, 4, 5, 6, 7, 8, 9, 10, 11, 12, 13, 14, 15]] j) (fun hc => absurd rfl hc.1) (fun _ _ h => h) j ⟨hj, hn⟩
        ·intro val fl wR17 hfl hb halc hd
         obtain ⟨hgb, _⟩ := hb;have hq2 : Blk wR17 ga13_15 134 [.slice An (y.2.steps.length + 1) cn, .int .i64 (y.2.washes + 1), .int .i64 y.2.cost].toArray := hd 14 (by omega)
         have e0 : val 0 = _ := hd 0 (by omega)
         have e1 : val 1 = _ := hd 1 (by omega)
         have e2 : val 2 = _ := hd 2 (by omega)
         have e3 : val 3 = _ := hd 3 (by omega)
         have e4 : val 4 = _ := hd 4 (by omega)
         have e5 : val 5 = _ := hd 5 (by omega)
         have e6 : val 6 = _ := hd 6 (by omega)
         have e7 : val 7 = _ := hd 7 (by omega)
         have e8 : val 8 = _ := hd 8 (by omega)
         have e9 : val 9 = _ := hd 9 (by omega)
         have e10 : val 10 = _ := hd 10 (by omega)
         have e11 : val 11 = _ := hd 11 (by omega)
         have e12 : val 12 = _ := hd 12 (by omega)
         have e13 : val 13 = _ := hd 13 (by omega)
         refine EL.ends (cs := [_, _, _, _, _, _, _, _, _, _, _, _, _, _, val 14]) ⟨e0, e1, e2, e3, e4, e5, e6, e7, e8, e9, e10, e11, e12, e13, rfl, trivial⟩ rfl ?_;replace q1 := q1.gr hgb n1_22;replace q2 := q2.gr hgb n2_22;replace q4 := q4.gr hgb n4_22;replace q8 := q8.gr hgb n8_22;replace q9 := q9.gr hgb n9_22;replace q12 := q12.gr hgb n12_22;replace q15 := q15.gr hgb nm_22;replace q19 := q19.gr hgb n19_22;replace hkp := hkp.trans (Kp.grown qa13_15 rfl bhbw_22 hgb);replace hkf := hkf.trans (.of (keeps_blk qa13_15 hgb));replace hR := hR.box qa13_15 rfl hgb;replace hF2 := hF2.box qa13_15 rfl hgb;replace hM := hM.keeps (keeps_blk qa13_15 hgb);replace hop := own_type hop qa13_15 rfl hgb;replace hon := own_type hon qa13_15 rfl hgb;replace hbw := below_store hbw hgb bhbw_22;replace qa13_15 := hq2;clear hgb hq2;refine EL.val (fa_134_2 rfl) rfl (EL.store rfl rfl qa13_15 sz_3 rfl rfl rfl rfl ?_);intro w26 hq26 hg26;replace q1 := q1.gr hg26 n1_22;replace q2 := q2.gr hg26 n2_22;replace q4 := q4.gr hg26 n4_22;replace q8 := q8.gr hg26 n8_22;replace q9 := q9.gr hg26 n9_22;replace q12 := q12.gr hg26 n12_22;replace q15 := q15.gr hg26 nm_22;replace q19 := q19.gr hg26 n19_22;replace hkp := hkp.trans (Kp.grown qa13_15 rfl bhbw_22 hg26);replace hkf := hkf.trans (.of (keeps_blk qa13_15 hg26));replace hR := hR.box qa13_15 rfl hg26;replace hF2 := hF2.box qa13_15 rfl hg26;replace hM := hM.keeps (keeps_blk qa13_15 hg26);replace hop := own_type hop qa13_15 rfl hg26;replace hon := own_type hon qa13_15 rfl hg26;replace hbw := below_store hbw hg26 bhbw_22;replace qa13_15 := hq26;clear hg26 hq26;refine EL.nil (EX.toI (EXI.seq ?_));refine ECI.regionL (by repeat (first | exact lets_body | exact lets_no | refine lets_then ?_ | refine lets_blk ?_)) (by kernel_rfl) ?_
         refine EL.val (ld_171 rfl (q4.at (j := 0) rfl)) rfl (EL.val (x_loadA rfl (q19.range (PartAt.whole _)) Try.underlying150 rfl (sz_150.trans (congrArg some hsf.fl.len.symm))) rfl (EL.val (ld_134 rfl (qa13_15.at (j := 0) rfl) (qa13_15.at (j := 1) rfl) (qa13_15.at (j := 2) rfl)) rfl ?_));have hpn := addS_ok hro (p := y.2) (j := j) ⟨hyl, hyw0, hyw1, hyc0, hyc1⟩ i k;have hpv := plv_add (i := i) (k := k) hon (a := y.2.washes + 1) (b := y.2.cost + (ru.kinds.getD kn kd0).cost) (n := numK k) (cst := kcost ru k) (by omega) (by omega)
         refine EL.call (cA3 cF98 rfl rfl rfl) rfl (note_any hF2 (by simp only [maxLen]; omega) hsf hpv hpn (by omega)) ?_
         rintro e w27 ⟨rfl, hg27, F5, hf5, hall5⟩
         refine ⟨_, rfl, ?_⟩;obtain ⟨es_, ck_, hmap⟩ := hF2.map;replace q1 := blk_map2 q1 hF2 hg27;replace q2 := blk_map2 q2 hF2 hg27;replace q4 := blk_map2 q4 hF2 hg27;replace q8 := blk_map2 q8 hF2 hg27;replace q9 := blk_map2 q9 hF2 hg27;replace q12 := blk_map2 q12 hF2 hg27;replace q15 := blk_map2 q15 hF2 hg27;replace q19 := blk_map2 q19 hF2 hg27;replace qa13_15 := blk_map2 qa13_15 hF2 hg27;replace hR := hR.other hF2 hg27 hne1 (by omega)
         replace hop := own_map hop hF2 hg27;replace hM := hM.other hmap (fun x e => by cases e) hg27
         replace hkp := hkp.trans (Kp.other hob hmap rfl hg27);replace hkf := hkf.trans (KeepsFrom.low hg27 hl1);replace hbw := hbw.trans (below_blk hg27 hob hbw.size);clear hmap hF2 hon;have hF2 := hf5;clear hf5;refine EL.nil (EX.toI (EXI.blk ?_))
         exact fun a0 ha0 => ⟨hkf, hkp, .inl ⟨rfl, ⟨_, _, hF2, by simp only [List.length_append, List.length_singleton]; omega, by rw [flatK_succ hpf rfl]; exact frontK_yes hgo (hall5 _ hfo)⟩, hR, q1, q2, q4, q8, q9, q12, hop, hM, hbw⟩⟩
   ·
    clear q1 q2 q4 q8 q9 q12 hF2 hn2 hfo hR hop hM qb1 qb2;clear hbw
    rintro Dm xs W hDm hall ⟨⟨F4, n4, hF2, hn2, hfo⟩, hR, q1, q2, q4, q8, q9, q12, hop, hMI, hbw⟩ hkp hdef
    have hxl : xs.length = ru.kinds.length + 1 := by have := congrArg List.length hall; rwa [List.length_map, allK_len] at this
    replace hfo : FrontOf (D.flatMap (extY (yardOf ru many) cg) ++ (List.range (i + 1)).flatMap fun i => (kindsL ru.kinds.length).flatMap (ext1 (yardOf ru many) cg y i)) F4 := by rw [hxl, List.take_of_length_le (Nat.le_of_eq kindsL_len), List.append_assoc, ← flatI_succ (fun i => (kindsL ru.kinds.length).flatMap (ext1 (yardOf ru many) cg y i))] at hfo; exact hfo
    rw [hxl] at hn2;have hk4 := hro.k4;have hM := hMI.marks.cons (Nat.le_trans hsz hDm) hdef;have hnd2 := List.nodup_cons.2 ⟨fun hm => hMI.fresh hDm hm, hnd⟩
    clear hnd hMI hkp;have hnd := hnd2;clear hnd2;refine EXI.blk (EXI.blk (EXI.seq (ECI.regionLD ?_)));refine EL.val (x_add rfl rfl (c := ((i + 1 : Nat) : Int)) ((IntWalk.i64_in _ ⟨by first | omega | (simp only; omega), by first | omega | (simp only; omega)⟩).trans (by first | omega | (simp only; omega)))) rfl ?_
    refine EL.mv rfl rfl (EL.nil (EX.ofD ?_));refine EXI.roundD (i + 1, _ :: dm) ⟨rfl, trivial⟩ (by repeat first | with_reducible exact .refl _ | refine sp_ rfl ?_ | exact .refl _ | refine sd_ rfl ?_ | refine sn_ ?_) rfl ⟨hlt, hR, ⟨_, _, hF2, by simp only; omega, hfo⟩, q1, q2, q4, q8, q9, hop, hM, hnd, hbw⟩ (by simp only; omega)
   ·intro Dm pre W hD hne hall h
    exact absurd h id
  ·
   have hxe : i = many := by omega
   rw [hxe] at hn2 hfo;refine ECI.seq (ECI.regionLD ?_);refine EL.val (x_lss rfl rfl (decide_eq_false (show ¬(((i : Nat) : Int) < ((many : Nat) : Int)) by omega))) rfl ?_
   refine EL.nil (EX.ofD (EXI.seq (ECI.seq (ECI.no rfl (ECI.exit (EXI.seq_exit (EXI.seq_exit (EXI.blk_here (EXI.blk ?_)))))))));have he : (D ++ [y]).flatMap (extY (yardOf ru many) cg) = (D.flatMap (extY (yardOf ru many) cg) ++ (List.range many).flatMap fun i => (kindsL ru.kinds.length).flatMap (ext1 (yardOf ru many) cg y i)) := by rw [List.flatMap_append, List.flatMap_cons, List.flatMap_nil, List.append_nil]; rfl
   refine EXI.roundD (D ++ [y], c2, dm) trivial (by repeat first | with_reducible exact .refl _ | refine sp_ rfl ?_ | exact .refl _ | refine sd_ rfl ?_ | refine sn_ ?_) rfl ⟨hR, ⟨_, _, hF2, by simp only [List.length_append, List.length_singleton]; omega, by simp only; rw [he]; exact hfo⟩, by simp only [List.length_append, List.length_singleton]; omega, q1, q2, q4, hM, hnd, hbw⟩ hcnt
/-- a plan, and where its steps lie -/
abbrev Pr := Pl × Option Addr × Nat
def plC (x : Pr) : List Value := [.slice x.2.1 x.1.steps.length x.2.2, .int .i64 x.1.washes, .int .i64 x.1.cost]
def plsC (l : List Pr) : List Value := l.flatMap plC
theorem plC_len (x : Pr) : (plC x).length = 3 := rfl
theorem plsC_len (l : List Pr) : (plsC l).length = l.length * 3 := flat_len plC_len l
theorem plsC_app {l m : List Pr} : plsC (l ++ m) = plsC l ++ plsC m := List.flatMap_append
theorem pl_info : (Try.prog.info? 134).map (fun i => (i.zero, i.size, i.bytes)) = some (some (.agg #[.slice none 0 0, .int .i64 0, .int .i64 0]), 3, 40) := by kernel_rfl
theorem pl_elem : Elem Try.prog 130 134 3 40 := Elem.mk' Try.underlying130 pl_info rfl (by omega)
def pr0 : Pr := (pl0, none, 0)
theorem pls_cells (l : List Pr) (k : Nat) (hk : k < l.length) (w : World) (B : Nat) (A : Option Addr) (n c : Nat) (hr : Rd w B 3 (.slice A n c) n (plsC l)) :
  ∃ b off, A = some ⟨b, off, none⟩ ∧ b < B ∧ w.cell? ⟨b, off + k * 3, none⟩ = some (.slice (l.getD k pr0).2.1 (l.getD k pr0).1.steps.length (l.getD k pr0).2.2) ∧ w.cell? ⟨b, off + k * 3 + 1, none⟩ = some (.int .i64 (l.getD k pr0).1.washes) ∧ w.cell? ⟨b, off + k * 3 + 2, none⟩ = some (.int .i64 (l.getD k pr0).1.cost) := by
 have hl : n * 3 = l.length * 3 := by rw [← hr.len, plsC_len]
 obtain ⟨b, off, rfl, hb, hc⟩ := hr.at_ (by omega)
 have e : l.getD k pr0 = l[k] := by simp [hk]
 rw [e];have g := fun j hj => flat_get plC_len l k hk j hj
 exact ⟨b, off, rfl, hb, hc (k * 3) _ (g 0 (by omega)), hc (k * 3 + 1) _ (g 1 (by omega)), hc (k * 3 + 2) _ (g 2 (by omega))⟩
/-- a row of plans of one's own -/
structure OwnPls (W : World) (base : Nat) (v : Value) (l : List Pr) : Prop where
 own : W.ownsRow base 134 3 v l.length (plsC l)
 rows : ∀ x ∈ l, W.ownsRow base 70 2 (.slice x.2.1 x.1.steps.length x.2.2) x.1.steps.length (stsC x.1.steps)
section
variable {W W' : World} {base : Nat} {v : Value} {l : List Pr}
theorem OwnPls.nil : OwnPls W base (.slice none 0 0) [] := ⟨World.ownsRow_nil _ _ _ _, fun x hx => absurd hx List.not_mem_nil⟩
theorem OwnPls.keep (h : OwnPls W base v l) (hk : ∀ (e z n : Nat) (u : Value) (xs : List Value), (Nat.beq e 134 = true ∨ Nat.beq e 70 = true) → W.ownsRow base e z u n xs → W'.ownsRow base e z u n xs) : OwnPls W' base v l :=
 ⟨hk _ _ _ _ _ (.inl rfl) h.own, fun x hx => hk _ _ _ _ _ (.inr rfl) (h.rows x hx)⟩
theorem OwnPls.below (h : OwnPls W base v l) (hb : Below W.heap.size W W') : OwnPls W' base v l := h.keep fun _ _ _ _ _ _ ho => own_below ho hb (Nat.le_refl _)
theorem OwnPls.box {g T : Nat} {cs : Array Value} (h : OwnPls W base v l) (hq : Blk W g T cs) (h1 : Nat.beq T 134 = false) (h2 : Nat.beq T 70 = false) (hg : W.grownBy W' (some g)) : OwnPls W' base v l :=
 ⟨own_type h.own hq h1 hg, fun x hx => own_type (h.rows x hx) hq h2 hg⟩
theorem OwnPls.push {v' : Value} {x : Pr} (h : OwnPls W base v l) (ho : W'.ownsRow base 134 3 v' (l.length + 1) (plsC l ++ plC x)) (hg : W.grownBy W' v.ownBlock) (hx : W.ownsRow base 70 2 (.slice x.2.1 x.1.steps.length x.2.2) x.1.steps.length (stsC x.1.steps)) : OwnPls W' base v' (l ++ [x]) := by
 refine ⟨?_, fun y hy => ?_⟩
 ·rw [List.length_append, plsC_app]
  simpa [plsC] using ho
 ·rcases List.mem_append.1 hy with hy | hy
  ·exact own_grown (h.rows y hy) h.own rfl hg
  ·rw [List.mem_singleton.1 hy]
   exact own_grown hx h.own rfl hg
theorem OwnPls.rd (h : OwnPls W base v l) : Rd W W.heap.size 3 v l.length (plsC l) := Rd.of_own h.own
theorem OwnPls.less {base' : Nat} (h : OwnPls W base v l) (hb : base' ≤ base) : OwnPls W base' v l := ⟨own_less h.own hb, fun x hx => own_less (h.rows x hx) hb⟩
end
section
variable {W W' : World} {base mb n j : Nat} {F : List Sx}
/-- a row of plans that grows leaves a front as it is -/
theorem Front.push {base' k : Nat} {v : Value} {xs : List Value} (h : Front W base mb n j F) (ho : W.ownsRow base' 134 3 v k xs) (hg : W.grownBy W' v.ownBlock) : Front W' base mb n j F := by
 refine h.mild ⟨v.ownBlock, hg, fun g e => ?_⟩
 obtain ⟨_, ⟨rfl, _⟩ | ⟨b, cap, cur, rfl, _, hb, _⟩⟩ := ho
 ·cases e
 ·have e2 : b = g := by simpa [Value.ownBlock] using e
  subst e2;refine ⟨h.ne hb, fun T cs h2 => ?_⟩
  unfold Blk at h2
  rw [hb] at h2
  injection h2 with h2
  injection h2 with _ h3
  rw [← h3]
  rfl
theorem Front.count (h : Front W base mb n j F) : ∃ m : Nat, (Builtin.len_ #[171] 3 #[.map (some mb)]).run Try.prog W = .ok (.int .i64 (m : Nat)) W ∧ (m = 0 ↔ F = []) := by
 obtain ⟨l, ⟨es, clock, hb, _, _, hl⟩, h2⟩ := h;refine ⟨es.size, ?_, ?_⟩
 ·simp [Builtin.len_, run_underlying Try.underlying171, MapKept.run_getObj_map hb, goInt, Result.andThen]
 ·have e : es.size = l.length := by rw [← hl]; simp
  rw [e]
  constructor
  ·intro h0
   have h0 : l = [] := List.eq_nil_of_length_eq_zero h0;subst h0
   rcases F with _ | ⟨x, F⟩
   ·rfl
   ·obtain ⟨e1, he, _⟩ := h2.fro x (List.mem_cons_self ..)
    exact absurd he List.not_mem_nil
  ·rintro rfl
   rcases l with _ | ⟨x, l⟩
   ·rfl
   ·obtain ⟨y, hy, _⟩ := h2.to x (List.mem_cons_self ..)
    exact absurd hy List.not_mem_nil
end
section
variable {n : Nat} {σ : Sg} {w : World} {dst : Option Tmp} {ty : TypeId} {pos : String} {af : Array Edge} {g : Option (Nat × Bool)} {x y : Operand}
theorem x_lenM {mb m : Nat} (hx : evS σ x = some (.map (some mb))) (hr : (Builtin.len_ #[171] 3 #[.map (some mb)]).run Try.prog w = .ok (.int .i64 (m : Nat)) w) : Gives Try.prog n σ w ⟨dst, .call { callee := .builtin .len, args := #[x], argTypes := #[171] }, 3, pos, af, g⟩ (.int .i64 (m : Nat)) := fun a ha => by
 simp only [execOp, resolve, List.map_toArray, List.map_cons, List.map_nil, ha.eval hx]
 simp [go_sem, hr, Result.andThen]
theorem x_plan0 : Gives Try.prog n σ w ⟨dst, .build 134 #[], ty, pos, af, g⟩ (.agg #[.slice none 0 0, .int .i64 0, .int .i64 0]) := fun a _ => by
 simp only [execOp, List.map_toArray, List.map_nil]
 kernel_rfl
theorem x_fleet1 {t : List Tr} (hx : evS σ x = some (.agg (tkC t).toArray)) (h8 : t.length = 8) : Gives Try.prog n σ w ⟨dst, .build 150 #[(0, x)], ty, pos, af, g⟩ (flV [t, tank0, tank0]) := fun a ha => by
 obtain ⟨a0, a1, a2, a3, a4, a5, a6, a7, rfl⟩ := eight h8
 simp only [execOp, List.map_toArray, List.map_cons, List.map_nil, ha.eval hx]
 kernel_rfl
end
theorem fleet1_ok {t : List Tr} (h : TkOk t) : FlOk [t, tank0, tank0] := by
 have hm : ∀ u ∈ [t, tank0, tank0], TkOk u := fun u hu => by
  simp only [List.mem_cons, List.not_mem_nil, or_false] at hu
  rcases hu with rfl | rfl | rfl
  ·exact h
  ·exact tank0_ok
  ·exact tank0_ok
 exact ⟨⟨rfl, fun u hu => (hm u hu).n8⟩, hm⟩
/-- the first front -/
theorem front_one {F2 : List Sx} {s : List (List Tr)} (h1 : (s, pl0) ∈ F2) (h2 : ∀ y ∈ F2, y = (s, pl0) ∨ (y ∈ ([] : List Sx) ∧ y.1 ≠ s)) {ext : Nat → Sx → List Sx} : FrontOf (compl ext [] (s, pl0)) F2 := by
 refine ⟨fun y hy => ?_, fun y hy => ⟨pl0, ?_, ?_⟩⟩
 ·rcases h2 y hy with rfl | ⟨h3, _⟩
  ·exact List.mem_singleton.2 rfl
  ·exact absurd h3 List.not_mem_nil
 ·rw [List.mem_singleton.1 hy]; exact h1
 ·rw [List.mem_singleton.1 hy, cmp_pl.self]; decide
/-- the best plans for each beginning of the cargoes -/
def Bests (Y : Yard (List (List Tr))) (js : List Nat) (s : List (List Tr)) (ps : List Pl) : Prop :=
 ps.length = depthR (extY Y) js (s, pl0) ∧ ∀ i, i < ps.length → IsBest (compl (extY Y) (js.take (i + 1)) (s, pl0)) (ps.getD i pl0)
theorem depth_le {ext : Nat → Sx → List Sx} : ∀ (rem : List Nat) (x : Sx), depthR ext rem x ≤ rem.length := fun rem x => by
 rcases Nat.lt_or_ge rem.length (depthR ext rem x) with h | h
 ·exact absurd h (by have := depth_len (ext := ext) rem x; omega)
 ·exact h
theorem bests_end {Y : Yard (List (List Tr))} {js : List Nat} {s : List (List Tr)} {ps : List Pl} (h1 : ∀ i, i < ps.length → IsBest (compl (extY Y) (js.take (i + 1)) (s, pl0)) (ps.getD i pl0)) (hl : ps.length ≤ js.length) (h2 : ps.length < js.length → compl (extY Y) (js.take (ps.length + 1)) (s, pl0) = []) : Bests Y js s ps := by
 refine ⟨?_, h1⟩;have a := depth_le (ext := extY Y) js (s, pl0);have b : ps.length ≤ depthR (extY Y) js (s, pl0) := (depth_iff js (s, pl0) _ hl).2 (by
  rcases hp : ps.length with _ | k
  ·simp [compl]
  ·obtain ⟨⟨t, ht⟩, _⟩ := h1 k (by omega)
   exact fun e => by rw [e] at ht; exact absurd ht List.not_mem_nil)
 rcases Nat.lt_or_ge ps.length (depthR (extY Y) js (s, pl0)) with h | h
 ·exact absurd (h2 (by omega)) ((depth_iff js (s, pl0) (ps.length + 1) (by omega)).1 h)
 ·omega
section
variable {n : Nat} {σ : Sg} {w : World} {dst : Option Tmp} {ty : TypeId} {pos : String} {af : Array Edge} {g : Option (Nat × Bool)} {x y z : Operand} {at' : Array TypeId}
theorem cF87 : cF 87 := fun _ _ => by simp [go_sem]
theorem cF88 : cF 88 := fun _ _ => by simp [go_sem]
theorem bs_130_1 {x0 : Operand} {v0_0 v0_1 v0_2 : Value} (h0 : evS σ x0 = some (.agg #[v0_0, v0_1, v0_2]))  (a : Act) (ha : Env n σ a) : (execOp a.eval ⟨dst, .buildSlice 130 1 #[(0, x0)], ty, pos, af, g⟩).run Try.prog w = .ok (.value (.slice (some ⟨w.heap.size, 0, none⟩) 1 1)) (w.alloc (.cells #[v0_0, v0_1, v0_2] 134)) := by
 simp only [execOp, List.map_toArray, List.map_cons, List.map_nil, ha.eval h0]
 go_simp
end
/-- cargoes as numbers -/
def jsI (js : List Nat) : List Int := js.map fun c => ((c : Nat) : Int)
theorem jsI_len {js : List Nat} : (jsI js).length = js.length := List.length_map _
theorem jsI_at {js : List Nat} {i : Nat} (h : i < js.length) : (jsI js).getD i 0 = ((js.getD i 0 : Nat) : Int) := map_getD h
theorem kcost_nn {ru : Rules} (hro : RulesOk ru) (many : Nat) : ∀ k, 0 ≤ (yardOf ru many).cost k := fun k => (kcost_bd hro k).1
theorem best_more {Y : Nat → List Sx} {i : Nat} {lp : List Pr} {pb : Pl} {A : Option Addr} {c : Nat} (hl : lp.length = i) (h : ∀ k, k < i → IsBest (Y k) ((lp.map (·.1)).getD k pl0)) (hb : IsBest (Y i) pb) : ∀ k, k < i + 1 → IsBest (Y k) (((lp ++ [(pb, A, c)]).map (·.1)).getD k pl0) := fun k hk => by
 rw [List.map_append];have hl2 : (lp.map (·.1)).length = i := by rw [List.length_map, hl]
 rcases Nat.lt_or_ge k i with h1 | h1
 ·rw [List.getD_eq_getElem?_getD, List.getElem?_append_left (by omega), ← List.getD_eq_getElem?_getD]
  exact h k h1
 ·obtain rfl : k = i := by omega
  rw [List.getD_eq_getElem?_getD, List.getElem?_append_right (by omega), hl2, Nat.sub_self]
  exact hb
set_option maxHeartbeats 2000000 in
theorem plans_any {ru : Rules} {ua up : List Value} {vl va vp vk : Value} {w : World} {B : Nat} (hr : RdRules w B vl va vp vk ru ua up) (hB : B ≤ w.heap.size) (hro : RulesOk ru) {sf : List (List Tr)} (hs : FlOk sf) {many : Nat} (hm : many ≤ 3) {js : List Nat} (hjs : ∀ i, i < js.length → js.getD i 0 < ru.levels.length) (hjl : js.length ≤ 10) {vj : Value} {C : Nat} (hv : Rd w C 1 vj js.length (ints (jsI js))) (hC : C ≤ w.heap.size) :
  Calls Try.prog 69 #[rulesV vl va vp vk ru, flV sf, .int .i64 (many : Nat), vj] w fun e w' => (∃ v lp, e = .returned v ∧ OwnPls w' w.heap.size v lp ∧ Bests (yardOf ru many) js sf (lp.map (·.1))) ∧ Below w.heap.size w w' := by
 obtain ⟨Al, cl, Aa, ca, Ap, cp, Ak, ck, rfl, rfl, rfl, rfl⟩ := hr.sh4;obtain ⟨Aj, cj, rfl, _⟩ := hv.shape;have hbw := Below.refl w.heap.size w
 unfold rulesV
 refine EC.enter 37 Try.func69 rfl rfl rfl (EC.seq (EC.region (EL.newP (bx_116 rfl) rfl ?_)));intro g1 w1 q1 hb1 hg1 hl1;have bhbw_1 := Nat.le_trans hbw.size hg1;replace hbw := bo_ hbw hb1;clear hb1 hg1 hl1;refine EL.newP (x_boxA rfl) rfl ?_;intro g2 w2 q2 hb2 hg2 hl2;have n1_2 := q1.na hg2;have bhbw_2 := Nat.le_trans hbw.size hg2;replace q1 := q1.bl hb2;replace hbw := bo_ hbw hb2;clear hb2 hg2 hl2;refine EL.as rfl rfl (EL.nil (EX.seq (EC.seq (EC.region (EL.newFront (base := w.heap.size) (j := 0) rfl ?_)))));intro mb w3 hF hb3 hob;replace hob := Nat.le_trans hbw.size hob;replace q1 := q1.bl hb3;replace q2 := q2.bl hb3;replace hbw := bo_ hbw hb3;clear hb3;refine EL.val (x_loadA rfl (q2.range (PartAt.whole _)) Try.underlying150 rfl (sz_150.trans (congrArg some hs.fl.len.symm))) rfl (EL.val x_plan0 rfl ?_);obtain ⟨w4, F2, hrun, hg4, hf2, k1, k2, k3⟩ := hF.store (by decide) hs (p := pl0) ⟨rfl, Int.le_refl _, Int.le_refl _, Int.le_refl _, Int.le_refl _⟩ PlV.nil
 refine EL.mapIns rfl rfl rfl hrun ?_;replace q1 := blk_map2 q1 hF hg4;replace q2 := blk_map2 q2 hF hg4;replace hbw := hbw.trans (below_blk hg4 hob hbw.size);clear hF;have hF := hf2;clear hf2;have hfo : FrontOf (compl (extY (yardOf ru many)) [] (sf, pl0)) F2 := front_one k1 k2;clear hrun hg4 k1 k2 k3;refine EL.mv rfl rfl (EL.as rfl rfl (EL.nil (EX.seq (EC.seq (EC.seq (EC.region (EL.mv rfl rfl (EL.val (ln_22 rfl) rfl (EL.mv rfl rfl ?_)))))))));refine EL.nil (EX.seq (EC.block ?_));refine EC.loopD [8, 9, 11, 18, 19, 20, 21, 22, 23, 24, 25, 26, 27, 28, 29, 30, 31, 32, 33, 34, 35] (fun x : Nat × Nat × Value × List Pr => [(18, .int .i64 (x.1 : Nat)), (9, .map (some x.2.1)), (8, x.2.2.1)]) (fun x W => x.1 ≤ js.length ∧ x.2.2.2.length = x.1 ∧ (∃ F n, Front W w.heap.size x.2.1 n x.1 F ∧ n ≤ 15 ^ x.1 ∧ FrontOf (compl (extY (yardOf ru many)) (js.take x.1) (sf, pl0)) F) ∧ OwnPls W w.heap.size x.2.2.1 x.2.2.2 ∧ (∀ i, i < x.1 → IsBest (compl (extY (yardOf ru many)) (js.take (i + 1)) (sf, pl0)) ((x.2.2.2.map (·.1)).getD i pl0)) ∧ Blk W g1 116 #[.slice Al ru.levels.length cl, .int .i64 ru.fade.lo, .int .i64 ru.fade.hi, .slice Aa ru.allow.length ca, .slice Ap ru.apart.length cp, .slice Ak ru.kinds.length ck] ∧ Below w.heap.size w W) (fun x => js.length - x.1) (0, mb, .slice none 0 0, []) ⟨Nat.zero_le _, rfl, ⟨_, _, hF, by simp, hfo⟩, OwnPls.nil, fun i hi => absurd hi (by simp), q1, hbw⟩ ⟨rfl, rfl, rfl, trivial⟩ ?_
 clear hF hfo q1 hbw hob
 rintro ⟨i, mb1, v, lp⟩ wx ⟨hi, hlp, ⟨F, n, hF, hn, hfo⟩, hP, hB1, q1, hbw⟩
 dsimp only at hi hlp hF hn hfo hP hB1
 by_cases hlt : i < js.length
 ·
  obtain ⟨bj, oj, ej, _, hjc⟩ := ints_cells (jsI js) i (by rw [jsI_len]; exact hlt) wx C _ _ _ (hv.below (hbw.mono hC))
  rw [jsI_at hlt] at hjc
  cases ej
  have hn2 : n ≤ 15 ^ 10 := Nat.le_trans hn (Nat.pow_le_pow_right (by decide) (by omega))
  have hcg := hjs i hlt;have hts : js.take (i + 1) = js.take i ++ [js.getD i 0] := by rw [List.take_succ_eq_append_getElem hlt, getD_in hlt]
  refine EC.seq (EC.region ?_);refine EL.val (x_lss rfl rfl (decide_eq_true (show (((i : Nat) : Int) < ((js.length : Nat) : Int)) by omega))) rfl ?_
  refine EL.nil (EX.seq (EC.seq (EC.yes rfl (EC.skip (EX.seq (EC.seq (EC.block (EC.seq (EC.region ?_)))))))));refine EL.val (ix_22 rfl rfl hlt) rfl (EL.val (ld_3 rfl hjc) rfl (EL.as rfl rfl (EL.nil (EX.seq (EC.seq (EC.seq (EC.region (EL.val (ld_116 rfl (q1.at (j := 0) rfl) (q1.at (j := 1) rfl) (q1.at (j := 2) rfl) (q1.at (j := 3) rfl) (q1.at (j := 4) rfl) (q1.at (j := 5) rfl)) rfl (EL.mv rfl rfl ?_)))))))));refine EL.mv rfl rfl (EL.mv rfl rfl ?_);refine EL.call (cA4 cF87 rfl rfl rfl rfl) rfl (next_any (hr.below (hbw.mono hB)) (Nat.le_trans hB hbw.size) hro hF hbw.size (by omega) (by omega) hm hcg) ?_
  rintro e w5 ⟨⟨ob, F2, n2, rfl, hF2, hn3, hfo2, hob⟩, hc5⟩
  refine ⟨_, rfl, ?_⟩;clear hF;replace q1 := q1.bl hc5;replace hP := hP.below hc5;replace hbw := bo_ hbw hc5;clear hc5;have hF := hF2;clear hF2;have hfo3 : FrontOf (compl (extY (yardOf ru many)) (js.take (i + 1)) (sf, pl0)) F2 := by rw [hts]; exact front_next (kcost_nn hro many) hfo hfo2
  refine EL.as rfl rfl (EL.nil (EX.seq (EC.seq (EC.region (EL.mv rfl rfl ?_)))));obtain ⟨m, hlen, hm0⟩ := hF.count;refine EL.val (x_lenM rfl hlen) rfl ?_
  by_cases hF0 : F2 = []
  ·
   refine EL.val (x_eql (r := true) rfl rfl (decide_eq_true (by rw [hm0.2 hF0]; rfl))) rfl ?_
   refine EL.nil (EX.seq (EC.yes rfl (EC.exit (EX.seq_exit (EX.blk_other rfl (EX.seq_exit (EX.seq_exit (EX.blk_here (EX.seq ?_)))))))));refine EC.seq (EC.region (EL.mv rfl rfl (EL.as rfl rfl (EL.nil (EX.seq (EC.ret ?_))))))
   exact EX.done (res1 rfl rfl) ⟨⟨_, lp, rfl, hP, bests_end (by rw [List.length_map, hlp]; exact hB1) (by rw [List.length_map, hlp]; exact hi) (fun _ => by rw [List.length_map, hlp]; exact hfo3.nil.1 hF0)⟩, hbw⟩
  ·
   refine EL.val (x_eql (r := false) rfl rfl (decide_eq_false (by have : m ≠ 0 := fun h => hF0 (hm0.1 h); omega))) rfl ?_
   refine EL.nil (EX.seq (EC.no rfl (EC.skip (EX.seq (EC.region (EL.mv rfl rfl (EL.mv rfl rfl ?_)))))));refine EL.call (cA1 cF88 rfl) rfl (best_any hF hF0 (by omega)) ?_
   rintro e w6 ⟨⟨pb, spb, Ab, cb, rfl, hob2, hin, hle⟩, hc6⟩
   refine ⟨_, rfl, ?_⟩;replace q1 := q1.bl hc6;replace hP := hP.below hc6;replace hF := hF.below hc6;replace hbw := bo_ hbw hc6;clear hc6;have hbest : IsBest (compl (extY (yardOf ru many)) (js.take (i + 1)) (sf, pl0)) pb := hfo3.best.2 ⟨⟨spb, hin⟩, hle⟩;refine EL.newS (bs_130_1 rfl) rfl ?_;intro g7 w7 q7 hb7 hg7 hl7;have n1_7 := q1.na hg7;have bhbw_7 := Nat.le_trans hbw.size hg7;replace q1 := q1.bl hb7;replace hP := hP.below hb7;replace hF := hF.below hb7;replace hob2 := own_below hob2 hb7 (Nat.le_refl _);replace hbw := bo_ hbw hb7;clear hb7 hg7 hl7;refine EL.push pl_elem rfl rfl hP.own (rd_one (l := [.slice Ab pb.steps.length cb, .int .i64 pb.washes, .int .i64 pb.cost]) q7 rfl) (by intro u hu; simp only [List.mem_cons, List.not_mem_nil, or_false] at hu; rcases hu with rfl | rfl | rfl <;> rfl) (by omega) rfl hbw.size rfl ?_
   intro v8 w8 ho2_ hgr hb_ hat;replace q1 := blk_grown q1 hP.own rfl hgr;replace hF := hF.push hP.own hgr;replace hP := hP.push (x := (pb, Ab, cb)) ho2_ hgr hob2;replace hbw := hbw.trans hb_;clear ho2_ hgr hb_ hat hob2;refine EL.as rfl rfl (EL.nil (EX.blk (EX.seq (EC.region ?_))));refine EL.val (x_add rfl rfl (c := ((i + 1 : Nat) : Int)) ((IntWalk.i64_in _ ⟨by first | omega | (simp only; omega), by first | omega | (simp only; omega)⟩).trans (by first | omega | (simp only; omega)))) rfl ?_
   refine EL.mv rfl rfl (EL.nil ?_);refine EX.roundD (i + 1, ob, v8, lp ++ [(pb, Ab, cb)]) ⟨rfl, rfl, rfl, trivial⟩ (by repeat first | with_reducible exact .refl _ | refine sp_ rfl ?_ | exact .refl _ | refine sd_ rfl ?_ | refine sn_ ?_) ⟨hlt, by simp [hlp], ⟨_, _, hF, by rw [Nat.pow_succ]; exact Nat.le_trans hn3 (Nat.mul_le_mul_right _ hn), hfo3⟩, hP, best_more hlp hB1 hbest, q1, hbw⟩ (by simp only; omega)
 ·
  have hxe : i = js.length := by omega
  refine EC.seq (EC.region ?_);refine EL.val (x_lss rfl rfl (decide_eq_false (show ¬(((i : Nat) : Int) < ((js.length : Nat) : Int)) by omega))) rfl ?_
  refine EL.nil (EX.seq (EC.seq (EC.no rfl (EC.exit (EX.seq_exit (EX.seq_exit (EX.blk_here (EX.seq (EC.seq ?_)))))))));refine EC.region (EL.mv rfl rfl (EL.as rfl rfl (EL.nil (EX.seq (EC.ret ?_)))))
  exact EX.done (res1 rfl rfl) ⟨⟨_, lp, rfl, hP, bests_end (by rw [List.length_map, hlp]; exact hB1) (by rw [List.length_map, hlp]; exact hi) (fun h => absurd h (by rw [List.length_map, hlp, hxe]; exact Nat.lt_irrefl _))⟩, hbw⟩
def jobsE (ru : Rules) (jobs : List Int) (most : Nat) : Int := if most < jobs.length then 5 else if jobs.all (inB 0 ((ru.levels.length : Nat) - 1 : Int)) = true then 0 else 2
theorem checkJobs_any {ru : Rules} {ua up : List Value} {vl va vp vk : Value} {w : World} {B : Nat} (hr : RdRules w B vl va vp vk ru ua up) (hro : RulesOk ru) {jobs : List Int} {vj : Value} {C : Nat} (hv : Rd w C 1 vj jobs.length (ints jobs)) (hC : C ≤ w.heap.size) {most : Nat} (hmo : most ≤ 100) :
  Calls Try.prog 80 #[rulesV vl va vp vk ru, vj, .int .i64 (most : Nat)] w fun e w' => e = .returned (.int .i64 (jobsE ru jobs most)) ∧ Below w.heap.size w w' := by
 obtain ⟨Al, cl, Aa, ca, Ap, cp, Ak, ck, rfl, rfl, rfl, rfl⟩ := hr.sh4;obtain ⟨Aj, cj, rfl, _⟩ := hv.shape;have hn8 := hro.n8;have hbw := Below.refl w.heap.size w
 unfold rulesV
 refine EC.enter 21 Try.func80 rfl rfl rfl (EC.seq (EC.region (EL.newP (bx_116 rfl) rfl ?_)));intro g1 w1 q1 hb1 hg1 hl1;have bhbw_1 := Nat.le_trans hbw.size hg1;replace hbw := bo_ hbw hb1;clear hb1 hg1 hl1;refine EL.as rfl rfl (EL.nil (EX.seq (EC.seq (EC.block (EC.seq (EC.region (EL.mv rfl rfl (EL.val (ln_22 rfl) rfl (EL.mv rfl rfl ?_)))))))))
 by_cases hml : most < jobs.length
 ·
  refine EL.val (x_gtr (r := true) rfl rfl (decide_eq_true (by omega))) rfl ?_
  refine EL.as rfl rfl (EL.nil (EX.seq (EC.yes rfl (EC.seq (EC.region (EL.as rfl rfl (EL.nil (EX.seq (EC.ret ?_)))))))));refine EX.blk_ret (EX.seq_ret ?_)
  exact EX.done (res1 rfl rfl) ⟨by unfold jobsE; rw [if_pos hml], hbw⟩
 ·
  refine EL.val (x_gtr (r := false) rfl rfl (decide_eq_false (by omega))) rfl ?_
  refine EL.as rfl rfl (EL.nil (EX.seq (EC.no rfl (EC.seq (EC.region (EL.val (fa_116_0 rfl) rfl (EL.val (fa_28_0 rfl) rfl (EL.val (ld_22 rfl (q1.at (j := 0) rfl)) rfl (EL.val (ln_22 rfl) rfl ?_)))))))));refine EL.val (x_sub rfl rfl (c := (ru.levels.length : Nat) - 1) (IntWalk.i64_in _ ⟨by omega, by omega⟩)) rfl ?_
  refine EL.mv rfl rfl ?_
  cases hk : jobs.all (inB 0 ((ru.levels.length : Nat) - 1 : Int))
  ·
   refine EL.call (cA3 cF63 rfl rfl rfl) rfl (within_to hk _ _ C (hv.below (hbw.mono hC)) (Nat.le_trans hC hbw.size) (by omega)) ?_
   rintro e w2 ⟨rfl, hc2⟩
   refine ⟨_, rfl, ?_⟩;replace q1 := q1.bl hc2;replace hbw := bo_ hbw hc2;clear hc2;refine EL.val (x_not rfl) rfl (EL.as rfl rfl (EL.nil (EX.seq (EC.yes rfl (EC.seq (EC.region (EL.as rfl rfl (EL.nil (EX.seq ?_)))))))));refine EC.ret (EX.blk_ret (EX.seq_ret ?_))
   exact EX.done (res1 rfl rfl) ⟨by unfold jobsE; rw [if_neg hml, hk]; rfl, hbw⟩
  ·
   refine EL.call (cA3 cF63 rfl rfl rfl) rfl (within_to hk _ _ C (hv.below (hbw.mono hC)) (Nat.le_trans hC hbw.size) (by omega)) ?_
   rintro e w3 ⟨rfl, hc3⟩
   refine ⟨_, rfl, ?_⟩;replace q1 := q1.bl hc3;replace hbw := bo_ hbw hc3;clear hc3;refine EL.val (x_not rfl) rfl (EL.as rfl rfl (EL.nil (EX.seq (EC.no rfl (EC.skip (EX.blk (EX.seq (EC.seq (EC.region ?_)))))))));refine EL.as rfl rfl (EL.nil (EX.seq (EC.ret ?_)))
   exact EX.done (res1 rfl rfl) ⟨by unfold jobsE; rw [if_neg hml, hk]; rfl, hbw⟩
section
variable {n : Nat} {σ : Sg} {w : World} {dst : Option Tmp} {ty : TypeId} {pos : String} {af : Array Edge} {g : Option (Nat × Bool)} {x y z : Operand} {at' : Array TypeId}
theorem cF80 : cF 80 := fun _ _ => by simp [go_sem]
theorem cF69 : cF 69 := fun _ _ => by simp [go_sem]
theorem ln_130 {A : Option Addr} {m c : Nat} (hx : evS σ x = some (.slice A m c)) : Gives Try.prog n σ w ⟨dst, .call { callee := .builtin .len, args := #[x], argTypes := #[130] }, ty, pos, af, g⟩ (.int .i64 (m : Int)) := fun a ha => by
 simp only [execOp, resolve, List.map_toArray, List.map_cons, List.map_nil, ha.eval hx]
 simp [go_sem]
theorem cF55 : cF 55 := fun _ _ => by simp [go_sem]
theorem ix_130 {b o m c k : Nat} (hx : evS σ x = some (.slice (some ⟨b, o, none⟩) m c)) (hy : evS σ y = some (.int .i64 (k : Int))) (hk : k < m) : Gives Try.prog n σ w ⟨dst, .indexAddr 130 x y, ty, pos, af, g⟩ (.pointer (some ⟨b, o + k * 3, none⟩)) := fun a ha => by
 have k0 : (0 : Int) ≤ (k : Int) := Int.natCast_nonneg _;have k1 : (k : Int) < (m : Int) := by omega
 simp only [execOp, ha.eval hx, ha.eval hy]
 simp [go_sem, k0, k1]
end
theorem jobs_ok {ru : Rules} {jobs : List Int} {most : Nat} (h : jobsE ru jobs most = 0) : jsI (jobs.map Int.toNat) = jobs ∧ (∀ i, i < (jobs.map Int.toNat).length → (jobs.map Int.toNat).getD i 0 < ru.levels.length) ∧ (jobs.map Int.toNat).length ≤ most := by
 unfold jobsE at h
 split at h
 ·omega
 ·rename_i hl
  split at h
  ·rename_i ha
   have hk : ∀ x ∈ jobs, 0 ≤ x ∧ x < ru.levels.length := fun x hx => by
    have := List.all_eq_true.1 ha x hx;rw [inB_iff] at this
    omega
   refine ⟨?_, fun i hi => ?_, by rw [List.length_map]; omega⟩
   ·unfold jsI
    rw [List.map_map]
    conv => rhs; rw [← List.map_id jobs]
    exact List.map_congr_left fun x hx => by have := hk x hx; simp only [Function.comp, id]; omega
   ·rw [List.length_map] at hi
    rw [map_getD (d := 0) hi, getD_in hi];have := hk jobs[i] (List.getElem_mem hi)
    omega
  ·omega
def depS (ru : Rules) (l : List Ev) (jobs : List Int) : Nat := depthR (extY (yardOf ru 1)) (jobs.map Int.toNat) ([tkE ru l, tank0, tank0], pl0)
def errS (ru : Rules) (l : List Ev) (jobs : List Int) : Int := if refE ru l = 0 then jobsE ru jobs 10 else refE ru l
def codeS (ru : Rules) (l : List Ev) (jobs : List Int) : Int := if errS ru l jobs = 0 then (if depS ru l jobs < jobs.length then 7 else 0) else errS ru l jobs
def atS (ru : Rules) (l : List Ev) (jobs : List Int) : Nat := if errS ru l jobs = 0 then (if depS ru l jobs < jobs.length then depS ru l jobs else 0) else 0
theorem single_e {ru : Rules} {l : List Ev} {jobs : List Int} {v : Value} {c : Int} {a : Nat} (hc : codeS ru l jobs = c) (ha : atS ru l jobs = a) : Ending.returned (.tuple #[v, .int .i64 (a : Nat), .int .i64 c]) = .returned (.tuple #[v, .int .i64 ((atS ru l jobs) : Nat), .int .i64 (codeS ru l jobs)]) := by rw [hc, ha]
set_option maxHeartbeats 1000000 in
theorem single_any {ru : Rules} {ua up : List Value} {vl va vp vk : Value} {w : World} {B : Nat} (hr : RdRules w B vl va vp vk ru ua up) (hB : B ≤ w.heap.size) (hs : Short ru) {l : List Ev} {v : Value} (hl : Rd w B 2 v l.length (evsC l)) (hn : l.length ≤ 1048576) {jobs : List Int} {vj : Value} (hv : Rd w B 1 vj jobs.length (ints jobs)) (hjn : jobs.length ≤ 9223372036854775807) :
  Calls Try.prog 55 #[rulesV vl va vp vk ru, v, vj] w fun e w' => (∃ v' lp, e = .returned (.tuple #[v', .int .i64 ((atS ru l jobs) : Nat), .int .i64 (codeS ru l jobs)]) ∧ OwnPls w' w.heap.size v' lp ∧
   (codeS ru l jobs = 0 → lp.length = jobs.length ∧ ∀ i, i < lp.length → IsBest (compl (extY (yardOf ru 1)) ((jobs.map Int.toNat).take (i + 1)) ([tkE ru l, tank0, tank0], pl0)) ((lp.map (·.1)).getD i pl0)) ∧ (codeS ru l jobs ≠ 0 → lp = []) ∧ lp.length ≤ 10) ∧ Below w.heap.size w w' := by
 obtain ⟨Al, cl, Aa, ca, Ap, cp, Ak, ck, rfl, rfl, rfl, rfl⟩ := hr.sh4;obtain ⟨Ae, ce, rfl, _⟩ := hl.shape;obtain ⟨Aj, cj, rfl, _⟩ := hv.shape;have hbw := Below.refl w.heap.size w
 unfold rulesV
 refine EC.enter 39 Try.func55 rfl rfl rfl (EC.seq (EC.region (EL.newP (bx_28 rfl) rfl ?_)));intro g1 w1 q1 hb1 hg1 hl1;have bhbw_1 := Nat.le_trans hbw.size hg1;replace hbw := bo_ hbw hb1;clear hb1 hg1 hl1;refine EL.as rfl rfl (EL.as rfl rfl (EL.as rfl rfl (EL.nil (EX.seq (EC.seq (EC.region (EL.val (ld_28 rfl (q1.at (j := 0) rfl) (q1.at (j := 1) rfl) (q1.at (j := 2) rfl) (q1.at (j := 3) rfl) (q1.at (j := 4) rfl) (q1.at (j := 5) rfl)) rfl (EL.mv rfl rfl (EL.call (cA2 cF48 rfl rfl) rfl (after_any (hr.below (hbw.mono hB)) (Nat.le_trans hB hbw.size) hs (hl.below (hbw.mono hB)) hn) ?_)))))))))
 rintro e w2 ⟨rfl, hc2⟩
 refine ⟨_, rfl, ?_⟩;replace q1 := q1.bl hc2;replace hbw := bo_ hbw hc2;clear hc2;refine EL.mv rfl rfl (EL.xt rfl rfl rfl (EL.xt rfl rfl rfl (EL.xt rfl rfl rfl (EL.newP al_116 rfl ?_))));intro g3 w3 q3 hb3 hg3 hl3;have n1_3 := q1.na hg3;have bhbw_3 := Nat.le_trans hbw.size hg3;replace q1 := q1.bl hb3;replace hbw := bo_ hbw hb3;clear hb3 hg3 hl3;refine EL.newP al_tank rfl ?_;intro g4 w4 q4 hb4 hg4 hl4;have n1_4 := q1.na hg4;have n3_4 := q3.na hg4;have bhbw_4 := Nat.le_trans hbw.size hg4;replace q1 := q1.bl hb4;replace q3 := q3.bl hb4;replace hbw := bo_ hbw hb4;clear hb4 hg4 hl4;refine EL.store rfl rfl q3 sz_116 rfl rfl rfl rfl ?_;intro w5 hq5 hg5;replace q1 := q1.gr hg5 n1_3;replace q4 := q4.gr hg5 n3_4.symm;replace hbw := below_store hbw hg5 bhbw_3;replace q3 := hq5;clear hg5 hq5;refine EL.store (l' := (tkC (tkE ru l))) rfl rfl q4 sz_120 rfl ((lenV_eq _).trans (tkC_8 (tkE_ok ru l).n8)) (by rw [lenV_eq, Nat.ble_eq]; exact Nat.le_of_eq ((tkC_8 tank0_ok.n8).symm)) (tkC_one _) ?_
 intro w6 hq6 hg6;rw [spl_whole ((tkC_8 (tkE_ok ru l).n8).trans (tkC_8 tank0_ok.n8).symm)] at hq6;replace q1 := q1.gr hg6 n1_4;replace q3 := q3.gr hg6 n3_4;replace hbw := below_store hbw hg6 bhbw_4;replace q4 := hq6;clear hg6 hq6;refine EL.as rfl rfl (EL.nil (EX.seq (EC.seq (EC.seq (EC.region (EL.mv rfl rfl ?_))))))
 by_cases hz : refE ru l = 0
 ·
  refine EL.val (x_eql (r := true) rfl rfl (decide_eq_true hz)) rfl (EL.nil (EX.seq (EC.yes rfl (EC.region (EL.val (ld_116 rfl (q3.at (j := 0) rfl) (q3.at (j := 1) rfl) (q3.at (j := 2) rfl) (q3.at (j := 3) rfl) (q3.at (j := 4) rfl) (q3.at (j := 5) rfl)) rfl (EL.mv rfl rfl ?_))))));obtain ⟨hro, _, _⟩ := ref_ok hz;refine EL.call (cA3 cF80 rfl rfl rfl) rfl (checkJobs_any (hr.below (hbw.mono hB)) hro (hv.below (hbw.mono hB)) (Nat.le_trans hB hbw.size) (most := 10) (by decide)) ?_
  rintro e w7 ⟨rfl, hc7⟩
  refine ⟨_, rfl, ?_⟩;replace q1 := q1.bl hc7;replace q3 := q3.bl hc7;replace q4 := q4.bl hc7;replace hbw := bo_ hbw hc7;clear hc7;refine EL.as rfl rfl (EL.nil (EX.seq (EC.seq (EC.seq (EC.region (EL.mv rfl rfl ?_))))))
  by_cases hj : jobsE ru jobs 10 = 0
  ·
   refine EL.val (x_neq (r := false) rfl rfl (decide_eq_false (fun h => h hj))) rfl ?_
   refine EL.nil (EX.seq (EC.no rfl (EC.skip (EX.seq (EC.seq (EC.seq (EC.region (EL.val (ld_116 rfl (q3.at (j := 0) rfl) (q3.at (j := 1) rfl) (q3.at (j := 2) rfl) (q3.at (j := 3) rfl) (q3.at (j := 4) rfl) (q3.at (j := 5) rfl)) rfl (EL.val (x_loadA rfl (q4.range (PartAt.whole _)) Try.underlying120 rfl (sz_120.trans (congrArg some (tkC_8 (tkE_ok ru l).n8).symm))) rfl ?_)))))))));refine EL.val (x_fleet1 rfl (tkE_ok ru l).n8) rfl (EL.mv rfl rfl ?_);obtain ⟨hj1, hj2, hj3⟩ := jobs_ok hj;refine EL.call (cA4 cF69 rfl rfl rfl rfl) rfl (plans_any (hr.below (hbw.mono hB)) (Nat.le_trans hB hbw.size) hro (fleet1_ok (tkE_ok ru l)) (many := 1) (by decide) (js := jobs.map Int.toNat) hj2 hj3 (C := B) (by rw [List.length_map, hj1]; exact hv.below (hbw.mono hB)) (Nat.le_trans hB hbw.size)) ?_
   rintro e w8 ⟨⟨vp2, lp, rfl, hP, hbs⟩, hc8⟩
   refine ⟨_, rfl, ?_⟩;replace hP := hP.less hbw.size;replace q1 := q1.bl hc8;replace q3 := q3.bl hc8;replace q4 := q4.bl hc8;replace hbw := bo_ hbw hc8;clear hc8;obtain ⟨Aq, cq, rfl, _⟩ := hP.rd.shape;obtain ⟨hb1, hb2⟩ := hbs;rw [List.length_map] at hb1 hb2;refine EL.as rfl rfl (EL.nil (EX.seq (EC.seq (EC.region (EL.mv rfl rfl (EL.val (ln_130 rfl) rfl (EL.mv rfl rfl (EL.val (ln_22 rfl) rfl ?_))))))))
   by_cases hlt : lp.length < jobs.length
   ·
    refine EL.val (x_lss (r := true) rfl rfl (decide_eq_true (by omega))) rfl ?_
    refine EL.nil (EX.seq (EC.yes rfl (EC.seq (EC.region (EL.mv rfl rfl (EL.val (ln_130 rfl) rfl (EL.as rfl rfl (EL.as rfl rfl (EL.as rfl rfl ?_)))))))));refine EL.nil (EX.seq (EC.ret (EX.seq_ret ?_)));have hcd : codeS ru l jobs = 7 := by unfold codeS depS; rw [errS, if_pos hz, if_pos hj, ← hb1, if_pos hlt]
    have hat : atS ru l jobs = lp.length := by unfold atS depS; rw [errS, if_pos hz, if_pos hj, ← hb1, if_pos hlt]
    exact EX.done (res3 rfl rfl rfl rfl) ⟨⟨_, [], single_e hcd hat, OwnPls.nil, fun h => absurd h (by rw [hcd]; decide), fun _ => rfl, by decide⟩, hbw⟩
   ·
    refine EL.val (x_lss (r := false) rfl rfl (decide_eq_false (by omega))) rfl ?_
    refine EL.nil (EX.seq (EC.no rfl (EC.skip (EX.seq (EC.seq (EC.region (EL.mv rfl rfl (EL.as rfl rfl (EL.as rfl rfl ?_)))))))));refine EL.as rfl rfl (EL.nil (EX.seq (EC.ret ?_)));have hcd : codeS ru l jobs = 0 := by unfold codeS depS; rw [errS, if_pos hz, if_pos hj, ← hb1, if_neg hlt]
    have hat : atS ru l jobs = 0 := by unfold atS depS; rw [errS, if_pos hz, if_pos hj, ← hb1, if_neg hlt]
    exact EX.done (res3 rfl rfl rfl rfl) ⟨⟨_, lp, single_e hcd hat, hP, fun _ => ⟨by have := depth_le (ext := extY (yardOf ru 1)) (jobs.map Int.toNat) ([tkE ru l, tank0, tank0], pl0); rw [List.length_map] at this; omega, hb2⟩, fun h => absurd hcd h, by rw [List.length_map] at hj3; have := depth_le (ext := extY (yardOf ru 1)) (jobs.map Int.toNat) ([tkE ru l, tank0, tank0], pl0); rw [List.length_map] at this; omega⟩, hbw⟩
  ·
   refine EL.val (x_neq (r := true) rfl rfl (decide_eq_true hj)) rfl (EL.nil (EX.seq (EC.yes rfl (EC.seq (EC.region (EL.mv rfl rfl (EL.as rfl rfl (EL.as rfl rfl (EL.as rfl rfl ?_)))))))));refine EL.nil (EX.seq (EC.ret (EX.seq_ret ?_)))
   exact EX.done (res3 rfl rfl rfl rfl) ⟨⟨_, [], single_e (by unfold codeS; rw [errS, if_pos hz, if_neg hj]) (by unfold atS; rw [errS, if_pos hz, if_neg hj]), OwnPls.nil, fun h => absurd h (by unfold codeS; rw [errS, if_pos hz, if_neg hj]; exact hj), fun _ => rfl, by decide⟩, hbw⟩
 ·
  refine EL.val (x_eql (r := false) rfl rfl (decide_eq_false hz)) rfl (EL.nil (EX.seq (EC.no rfl (EC.skip (EX.seq (EC.seq (EC.seq (EC.region (EL.mv rfl rfl ?_)))))))));refine EL.val (x_neq (r := true) rfl rfl (decide_eq_true hz)) rfl (EL.nil (EX.seq (EC.yes rfl (EC.seq (EC.region (EL.mv rfl rfl (EL.as rfl rfl (EL.as rfl rfl (EL.as rfl rfl ?_)))))))));refine EL.nil (EX.seq (EC.ret (EX.seq_ret ?_)))
  exact EX.done (res3 rfl rfl rfl rfl) ⟨⟨_, [], single_e (by unfold codeS; rw [errS, if_neg hz, if_neg hz]) (by unfold atS; rw [errS, if_neg hz, if_neg hz]), OwnPls.nil, fun h => absurd h (by unfold codeS; rw [errS, if_neg hz, if_neg hz]; exact hz), fun _ => rfl, by decide⟩, hbw⟩
theorem take_ints {l : List Int} {x : Nat} (h : x < l.length) : ints (l.take (x + 1)) = ints (l.take x) ++ [.int .i64 (l.getD x 0)] := by
 rw [List.take_succ_eq_append_getElem h, getD_in h]
 unfold ints
 rw [List.map_append]
 rfl
theorem res4 {P : Program} {n : Nat} {σ : Sg} {w : World} {fn : Func} {t s r q : Tmp} {v u x y : Value} (h : fn.results = #[.tmp t, .tmp s, .tmp r, .tmp q]) (ht : σ t = some v) (hs : σ s = some u) (hx : σ r = some x) (hy : σ q = some y) (a : Act) (ha : Env n σ a) : (results fn a.tmps).run P w = .ok (.tuple #[v, u, x, y]) w := by
 have h1 : a.tmps.getD t undef = v := ha.eval (x := .tmp t) ht;have h2 : a.tmps.getD s undef = u := ha.eval (x := .tmp s) hs;have h3 : a.tmps.getD r undef = x := ha.eval (x := .tmp r) hx;have h4 : a.tmps.getD q undef = y := ha.eval (x := .tmp q) hy
 simp [results, h]
 rw [Array.getD_eq_getD_getElem?] at h1 h2 h3 h4
 simp [h1, h2, h3, h4]
theorem best_nil {ext : Nat → Sx → List Sx} {s : List (List Tr)} : IsBest (compl ext (([] : List Int).map Int.toNat) (s, pl0)) pl0 := ⟨⟨s, List.mem_singleton.2 rfl⟩, fun x hx => by rw [List.mem_singleton.1 hx, cmp_pl.self]; decide⟩
theorem at_zero {ru : Rules} {l : List Ev} {jobs : List Int} (h : codeS ru l jobs = 0) : atS ru l jobs = 0 := by
 unfold codeS at h
 unfold atS
 split
 ·rename_i he
  rw [if_pos he] at h
  split
  ·rename_i hd
   rw [if_pos hd] at h
   cases h
  ·rfl
 ·rfl
theorem code_ref {ru : Rules} {l : List Ev} {jobs : List Int} (h : codeS ru l jobs = 0) : refE ru l = 0 ∧ jobsE ru jobs 10 = 0 := by
 have he : errS ru l jobs = 0 := by
  unfold codeS at h
  split at h
  ·rename_i he; exact he
  ·exact h
 unfold errS at he
 split at he
 ·rename_i hz; exact ⟨hz, he⟩
 ·rename_i hz; exact absurd he hz
theorem plan_e {ru : Rules} {l : List Ev} {jobs : List Int} {v : Value} {c : Int} (hc : codeS ru l jobs = 0) (ha : atS ru l jobs = 0) : Ending.returned (.tuple #[v, .int .i64 c, .int .i64 0, .int .i64 0]) = .returned (.tuple #[v, .int .i64 c, .int .i64 ((atS ru l jobs) : Nat), .int .i64 (codeS ru l jobs)]) := by rw [hc, ha]; rfl
theorem plan_len {js : List Nat} {s : List (List Tr)} {p : Pl} {ru : Rules} (hro : RulesOk ru) {many : Nat} (h : IsBest (compl (extY (yardOf ru many)) js (s, pl0)) p) : p.steps.length = js.length := by
 obtain ⟨⟨t, ht⟩, _⟩ := h;have h0 : ∀ x ∈ compl (extY (yardOf ru many)) js (s, pl0), x.2.steps.length = js.length := fun x hx => by
  obtain ⟨⟨u, h1, h2⟩, _⟩ := compl_mem (extY_ok _ (kcost_nn hro many)) hx;rw [h1]
  show ([] ++ u).length = _
  rw [List.nil_append, h2]
 exact h0 _ ht
set_option maxHeartbeats 1000000 in
theorem Plan_any {ru : Rules} {ua up : List Value} {vl va vp vk : Value} {w : World} {B : Nat} (hr : RdRules w B vl va vp vk ru ua up) (hB : B ≤ w.heap.size) (hs : Short ru) {l : List Ev} {v : Value} (hl : Rd w B 2 v l.length (evsC l)) (hn : l.length ≤ 1048576) {jobs : List Int} {vj : Value} (hv : Rd w B 1 vj jobs.length (ints jobs)) (hjn : jobs.length ≤ 9223372036854775807) :
  Calls Try.prog 24 #[rulesV vl va vp vk ru, v, vj] w fun e w' => (∃ v' ws c, e = .returned (.tuple #[v', .int .i64 c, .int .i64 ((atS ru l jobs) : Nat), .int .i64 (codeS ru l jobs)]) ∧ w'.ownsRow w.heap.size 3 1 v' ws.length (ints ws) ∧
   (codeS ru l jobs = 0 → ∃ p, IsBest (compl (extY (yardOf ru 1)) (jobs.map Int.toNat) ([tkE ru l, tank0, tank0], pl0)) p ∧ ws = p.steps.map (·.wash) ∧ c = p.cost) ∧ (codeS ru l jobs ≠ 0 → ws = [] ∧ c = 0)) ∧ Below w.heap.size w w' := by
 obtain ⟨Al, cl, Aa, ca, Ap, cp, Ak, ck, rfl, rfl, rfl, rfl⟩ := hr.sh4;obtain ⟨Ae, ce, rfl, _⟩ := hl.shape;obtain ⟨Aj, cj, rfl, _⟩ := hv.shape;have hbw := Below.refl w.heap.size w
 unfold rulesV
 refine EC.enter 53 Try.func24 rfl rfl rfl (EC.seq (EC.region (EL.newP (bx_28 rfl) rfl ?_)));intro g1 w1 q1 hb1 hg1 hl1;have bhbw_1 := Nat.le_trans hbw.size hg1;replace hbw := bo_ hbw hb1;clear hb1 hg1 hl1;refine EL.as rfl rfl (EL.as rfl rfl (EL.as rfl rfl (EL.as rfl rfl (EL.nil (EX.seq (EC.seq (EC.region (EL.val (ld_28 rfl (q1.at (j := 0) rfl) (q1.at (j := 1) rfl) (q1.at (j := 2) rfl) (q1.at (j := 3) rfl) (q1.at (j := 4) rfl) (q1.at (j := 5) rfl)) rfl (EL.mv rfl rfl ?_)))))))));refine EL.mv rfl rfl (EL.call (cA3 cF55 rfl rfl rfl) rfl (single_any (hr.below (hbw.mono hB)) (Nat.le_trans hB hbw.size) hs (hl.below (hbw.mono hB)) hn (hv.below (hbw.mono hB)) hjn) ?_)
 rintro e w2 ⟨⟨v1, lp, rfl, hP, hok, hno, hl10⟩, hc2⟩
 refine ⟨_, rfl, ?_⟩;replace hP := hP.less hbw.size;replace q1 := q1.bl hc2;replace hbw := bo_ hbw hc2;clear hc2;obtain ⟨Aq, cq, rfl, _⟩ := hP.rd.shape;refine EL.mv rfl rfl (EL.xt rfl rfl rfl (EL.xt rfl rfl rfl (EL.xt rfl rfl rfl (EL.as rfl rfl (EL.as rfl rfl (EL.as rfl rfl (EL.nil (EX.seq (EC.seq ?_)))))))));refine EC.seq (EC.region (EL.mv rfl rfl ?_))
 by_cases hc : codeS ru l jobs = 0
 ·
  refine EL.val (x_neq (r := false) rfl rfl (decide_eq_false (fun h => h hc))) rfl ?_
  refine EL.mv rfl rfl (EL.mg rfl rfl rfl rfl (EL.valg rfl rfl (ln_22 rfl) rfl ?_))
  by_cases he : jobs.length = 0
  ·
   refine EL.valg rfl rfl (x_eql (r := true) rfl rfl (decide_eq_true (by omega))) rfl ?_
   refine EL.pf rfl rfl rfl (EL.nil (EX.seq (EC.yes rfl (EC.seq (EC.region (EL.mv rfl rfl (EL.mv rfl rfl (EL.as rfl rfl (EL.as rfl rfl ?_)))))))));refine EL.as rfl rfl (EL.as rfl rfl (EL.nil (EX.seq (EC.ret (EX.seq_ret ?_)))))
   exact EX.done (res4 rfl rfl rfl rfl rfl) ⟨⟨_, [], 0, rfl, World.ownsRow_nil _ _ _ _, fun _ => ⟨pl0, by rw [List.eq_nil_of_length_eq_zero he]; exact best_nil, rfl, rfl⟩, fun h => absurd hc h⟩, hbw⟩
  ·
   refine EL.valg rfl rfl (x_eql (r := false) rfl rfl (decide_eq_false (by omega))) rfl ?_
   refine EL.pf rfl rfl rfl (EL.nil (EX.seq (EC.no rfl (EC.skip (EX.seq (EC.seq (EC.region ?_)))))));obtain ⟨hlj, hbs⟩ := hok hc;obtain ⟨nn, hnn⟩ : ∃ nn, lp.length = nn + 1 := ⟨lp.length - 1, by omega⟩
   have hlast := hbs nn (by omega)
   rw [map_getD (d := pr0) (show nn < lp.length by omega), List.take_of_length_le (by rw [List.length_map]; omega)] at hlast
   have hmem : lp.getD nn pr0 ∈ lp := by rw [getD_in (show nn < lp.length by omega)]; exact List.getElem_mem _
   obtain ⟨⟨pb, Ab, cb⟩, epb⟩ : ∃ z, z = lp.getD nn pr0 := ⟨_, rfl⟩;rw [← epb] at hlast hmem
   dsimp only at hlast
   refine EL.mv rfl rfl (EL.mv rfl rfl (EL.val (ln_130 rfl) rfl ?_));refine EL.val (x_sub rfl rfl (c := ((nn : Nat) : Int)) ((IntWalk.i64_in _ ⟨by omega, by omega⟩).trans (by omega))) rfl ?_
   obtain ⟨bp, op, ep, _, c0, c1, c2⟩ := pls_cells lp nn (by omega) w2 w2.heap.size _ _ _ hP.rd
   rw [← epb] at c0 c1 c2
   dsimp only at c0 c1 c2
   cases ep
   have hst := hP.rows _ hmem
   dsimp only at hst
   have hsr : Rd w2 w2.heap.size 2 _ _ _ := Rd.of_own hst;clear hst;have hbx := Below.refl w2.heap.size w2;refine EL.val (ix_130 rfl rfl (show nn < lp.length by omega)) rfl ?_
   refine EL.val (ld_134 rfl c0 c1 c2) rfl (EL.newP al_134 rfl ?_);intro g3 w3 q3 hb3 hg3 hl3;have n1_3 := q1.na hg3;have bhbw_3 := Nat.le_trans hbw.size hg3;have bhbx_3 := Nat.le_trans hbx.size hg3;replace q1 := q1.bl hb3;replace hbw := bo_ hbw hb3;replace hbx := bo_ hbx hb3;clear hb3 hg3 hl3;refine EL.store rfl rfl q3 sz_134 rfl rfl rfl rfl ?_;intro w4 hq4 hg4;replace q1 := q1.gr hg4 n1_3;replace hbw := below_store hbw hg4 bhbw_3;replace hbx := below_store hbx hg4 bhbx_3;replace q3 := hq4;clear hg4 hq4;refine EL.nil (EX.seq (EC.seq (EC.seq (EC.region (EL.val (fa_134_0 rfl) rfl (EL.val (ld_65 rfl (q3.at (j := 0) rfl)) rfl (EL.val (ln_65 rfl) rfl (EL.mv rfl rfl (EL.nil ?_)))))))));refine EX.seq (EC.block ?_);obtain ⟨ws, ews⟩ : ∃ z, z = pb.steps.map (fun y => y.wash) := ⟨_, rfl⟩
   have hol : ws.length = pb.steps.length := by rw [ews, List.length_map]
   have hpl2 : pb.steps.length ≤ 10 := by have := plan_len (ref_ok (code_ref hc).1).1 hlast; rw [List.length_map] at this; omega
   have hbx0 := hbx;have hcs := Below.refl w4.heap.size w4;have hsz0 := hbw.size;refine EC.loopD [6, 13, 40, 41, 42, 43, 44, 45, 46, 47, 48, 49] (fun x : Nat × Value => [(40, .int .i64 (x.1 : Nat)), (6, x.2)]) (fun x W => x.1 ≤ pb.steps.length ∧ W.ownsRow w4.heap.size 3 1 x.2 x.1 (ints (ws.take x.1)) ∧ Below w4.heap.size w4 W) (fun x => pb.steps.length - x.1) (0, .slice none 0 0) ⟨Nat.zero_le _, World.ownsRow_nil _ _ _ _, hcs⟩ ⟨rfl, rfl, trivial⟩ ?_
   clear hcs
   rintro ⟨x, v6⟩ wx ⟨hx, ho, hcs⟩
   dsimp only at hx ho
   by_cases hlt : x < pb.steps.length
   ·
    obtain ⟨bp3, op3, ep3, _, c3, c4⟩ := sts_cells pb.steps x hlt wx w2.heap.size _ _ _ (hsr.below (hbx.trans (hcs.mono hbx.size)))
    cases ep3
    have hval : (pb.steps.getD x st0).wash = ws.getD x 0 := by rw [ews, map_getD (d := st0) hlt]
    refine EC.seq (EC.region ?_);refine EL.val (x_lss rfl rfl (decide_eq_true (show (((x : Nat) : Int) < ((pb.steps.length : Nat) : Int)) by omega))) rfl ?_
    refine EL.nil (EX.seq (EC.seq (EC.yes rfl (EC.skip (EX.seq (EC.seq (EC.block (EC.seq (EC.region ?_)))))))));refine EL.val (ix_65 rfl rfl hlt) rfl (EL.val (ld_70 rfl c3 c4) rfl (EL.newP al_70 rfl ?_));intro g5 w5 q5 hb5 hg5 hl5;have bhcs_5 := Nat.le_trans hcs.size hg5;replace ho := own_below ho hb5 (Nat.le_refl _);replace hcs := Below.on hcs hb5 hcs.size;clear hb5 hg5 hl5;refine EL.store rfl rfl q5 sz_70 rfl rfl rfl rfl ?_;intro w6 hq6 hg6;replace ho := own_type ho q5 rfl hg6;replace hcs := below_store hcs hg6 bhcs_5;replace q5 := hq6;clear hg6 hq6;refine EL.nil (EX.seq (EC.region (EL.mv rfl rfl (EL.val (fa_70_1 rfl) rfl (EL.val (ld_3 rfl (q5.at (j := 1) rfl)) rfl (EL.newS (bs_22_1 rfl) rfl ?_))))));intro g7 w7 q7 hb7 hg7 hl7;have n5_7 := q5.na hg7;have bhcs_7 := Nat.le_trans hcs.size hg7;replace q5 := q5.bl hb7;replace ho := own_below ho hb7 (Nat.le_refl _);replace hcs := Below.on hcs hb7 hcs.size;clear hb7 hg7 hl7;refine EL.push ir_elem rfl rfl ho (rd_one (l := [.int .i64 (pb.steps.getD x st0).wash]) q7 rfl) (by intro u hu; simp only [List.mem_cons, List.not_mem_nil, or_false] at hu; rcases hu with rfl <;> rfl) (by omega) rfl hcs.size rfl ?_
    intro v8 w8 ho2 hgr hb_ hat;replace q5 := blk_grown q5 ho rfl hgr;replace hcs := hcs.trans hb_;clear ho hgr hb_ hat;have ho := ho2;clear ho2;refine EL.as rfl rfl (EL.nil (EX.blk (EX.seq (EC.region ?_))));refine EL.val (x_add rfl rfl (c := ((x + 1 : Nat) : Int)) ((IntWalk.i64_in _ ⟨by omega, by omega⟩).trans (by omega))) rfl ?_
    refine EL.mv rfl rfl (EL.nil ?_);refine EX.roundD (x + 1, v8) ⟨rfl, rfl, trivial⟩ (by repeat first | with_reducible exact .refl _ | refine sp_ rfl ?_ | exact .refl _ | refine sd_ rfl ?_ | refine sn_ ?_) ⟨hlt, by simp only; rw [take_ints (by rw [hol]; exact hlt)]; exact own_cast ho rfl (by rw [hval]), hcs⟩ (by simp only; omega)
   ·
    have hxe : x = pb.steps.length := by omega
    replace hbw := hbw.trans (hcs.mono hsz0);rw [hxe, List.take_of_length_le (Nat.le_of_eq hol)] at ho;replace ho := own_less ho hsz0;replace q3 := q3.bl hcs;refine EC.seq (EC.region ?_);refine EL.val (x_lss rfl rfl (decide_eq_false (show ¬(((x : Nat) : Int) < ((pb.steps.length : Nat) : Int)) by omega))) rfl ?_
    refine EL.nil (EX.seq (EC.seq (EC.no rfl (EC.exit (EX.seq_exit (EX.seq_exit (EX.blk_here (EX.seq (EC.seq ?_)))))))));have lt_3 := q3.lt;refine EC.regionP [[], [], [1], [0], [0, 1, 2, 3], [0, 1, 2, 3, 4], [0, 1, 2, 3, 4, 5]] 4 [] (phi (fun i_ r => match i_ with | 0 => r 0 = v6 | 1 => r 1 = .pointer (some ⟨g3, 2, none⟩) | 2 => r 2 = .int .i64 pb.cost | 3 => r 3 = v6 | _ => True) []) (by kernel_rfl) rfl rfl (phi_nil) (fun i_ hi_ => ?_) ?_
    ·match i_, hi_ with
     | 0, _ =>
      intro val w1 a hb ha hd;have ha := ha.s0 (d := 6) rfl
      exact hs_val ha rfl rfl (x_move rfl) rfl rfl
     | 1, _ =>
      intro val w1 a hb ha hd;have ha := ha.s0 (d := 11) rfl
      exact hs_val ha rfl rfl (fa_134_2 rfl) rfl rfl
     | 2, _ =>
      intro val w1 a hb ha hd;have e1 : val 1 = _ := hd 1 (memB_mem.1 rfl);have ha := ha.s1 (d := 51) rfl e1
      exact hs_val ha rfl rfl (ld_3 rfl ((q3.below hb q3.lt).at (j := 2) rfl)) rfl rfl
     | 3, _ =>
      intro val w1 a hb ha hd;have e0 : val 0 = _ := hd 0 (memB_mem.1 rfl);have ha := ha.s1 (d := 50) rfl e0
      exact hs_val ha rfl rfl (x_assign rfl) rfl rfl
     | k + 4, h => exact absurd h (by omega)
    ·intro val wR10 hb halc hd
     have e0 : val 0 = _ := hd 0 (by omega)
     have e1 : val 1 = _ := hd 1 (by omega)
     have e2 : val 2 = _ := hd 2 (by omega)
     have e3 : val 3 = _ := hd 3 (by omega)
     refine EL.ends (cs := [_, _, _, _]) ⟨e0, e1, e2, e3, trivial⟩ rfl ?_;replace q3 := q3.bl hb;replace ho := own_below ho hb (Nat.le_refl _);replace hbw := bo_ hbw hb;clear hb;refine EL.as rfl rfl (EL.as rfl rfl (EL.as rfl rfl (EL.nil (EX.seq (EC.ret ?_)))));have hat : atS ru l jobs = 0 := at_zero hc
     exact EX.done (res4 rfl rfl rfl rfl rfl) ⟨⟨_, ws, pb.cost, plan_e hc hat, own_cast ho hol.symm rfl, fun _ => ⟨pb, hlast, ews, rfl⟩, fun h => absurd hc h⟩, hbw⟩
 ·
  refine EL.val (x_neq (r := true) rfl rfl (decide_eq_true hc)) rfl (EL.mv rfl rfl (EL.skip rfl rfl rfl rfl (EL.skip rfl rfl rfl rfl (EL.skip rfl rfl rfl rfl (EL.pt rfl rfl rfl (EL.nil (EX.seq (EC.yes rfl (EC.seq ?_)))))))));refine EC.region (EL.mv rfl rfl (EL.mv rfl rfl (EL.as rfl rfl (EL.as rfl rfl (EL.as rfl rfl (EL.as rfl rfl (EL.nil (EX.seq (EC.ret ?_)))))))));refine EX.seq_ret ?_
  exact EX.done (res4 rfl rfl rfl rfl rfl) ⟨⟨_, [], 0, rfl, World.ownsRow_nil _ _ _ _, fun h => absurd h hc, fun _ => ⟨rfl, rfl⟩⟩, hbw⟩
section
variable {n : Nat} {σ : Sg} {w : World} {dst : Option Tmp} {ty : TypeId} {pos : String} {af : Array Edge} {g : Option (Nat × Bool)} {x y z : Operand} {at' : Array TypeId}
theorem ln_96 {A : Option Addr} {m c : Nat} (hx : evS σ x = some (.slice A m c)) : Gives Try.prog n σ w ⟨dst, .call { callee := .builtin .len, args := #[x], argTypes := #[96] }, ty, pos, af, g⟩ (.int .i64 (m : Int)) := fun a ha => by
 simp only [execOp, resolve, List.map_toArray, List.map_cons, List.map_nil, ha.eval hx]
 simp [go_sem]
theorem ix_96 {b o m c k : Nat} (hx : evS σ x = some (.slice (some ⟨b, o, none⟩) m c)) (hy : evS σ y = some (.int .i64 (k : Int))) (hk : k < m) : Gives Try.prog n σ w ⟨dst, .indexAddr 96 x y, ty, pos, af, g⟩ (.pointer (some ⟨b, o + k, none⟩)) := fun a ha => by
 have k0 : (0 : Int) ≤ (k : Int) := Int.natCast_nonneg _;have k1 : (k : Int) < (m : Int) := by omega
 simp only [execOp, ha.eval hx, ha.eval hy]
 simp [go_sem, k0, k1]
theorem cF68 : cF 68 := fun _ _ => by simp [go_sem]
end
theorem agree_i {σ : Sg} {s : Nat} {b b' : Int} (h : b = b') (hs : σ s = some (.int .i64 b)) : σ s = some (.int .i64 b') := h ▸ hs
/-- the tanks behind the first i histories -/
def fillF (ru : Rules) (tanks : List (List Ev)) (i : Nat) : List (List Tr) := (List.range 3).map fun k => if k < i then tkE ru (tanks.getD k []) else tank0
theorem fillF_ok (ru : Rules) (tanks : List (List Ev)) (i : Nat) : FlOk (fillF ru tanks i) := by
 have hm : ∀ u ∈ fillF ru tanks i, TkOk u := fun u hu => by
  obtain ⟨k, _, rfl⟩ := List.mem_map.1 hu
  split
  ·exact tkE_ok ru _
  ·exact tank0_ok
 exact ⟨⟨by simp [fillF], fun u hu => (hm u hu).n8⟩, hm⟩
theorem fillF_set {ru : Rules} {tanks : List (List Ev)} {i : Nat} (h : i < 3) : (fillF ru tanks i).set i (tkE ru (tanks.getD i [])) = fillF ru tanks (i + 1) := by
 match i, h with
 | 0, _ => rfl
 | 1, _ => rfl
 | 2, _ => rfl
def tanksE (ru : Rules) : List (List Ev) → Int
 | [] => 0
 | l :: ls => if refE ru l = 0 then tanksE ru ls else refE ru l
theorem tanksE_none {ru : Rules} : ∀ {tanks : List (List Ev)}, (∀ k, k < tanks.length → refE ru (tanks.getD k []) = 0) → tanksE ru tanks = 0
 | [], _ => rfl
 | l :: ls, h => by
  have h0 := h 0 (by simp)
  show (if refE ru l = 0 then _ else _) = _
  rw [if_pos (show refE ru l = 0 from h0)]
  exact tanksE_none fun k hk => h (k + 1) (by simpa using hk)
theorem tanksE_at {ru : Rules} : ∀ {tanks : List (List Ev)} {i : Nat}, (∀ k, k < i → refE ru (tanks.getD k []) = 0) → i < tanks.length → refE ru (tanks.getD i []) ≠ 0 → tanksE ru tanks = refE ru (tanks.getD i [])
 | [], _, _, h, _ => by simp at h
 | l :: ls, 0, _, _, hz => if_neg hz
 | l :: ls, i + 1, h, hi, hz => by
  show (if refE ru l = 0 then _ else _) = _
  rw [if_pos (show refE ru l = 0 from h 0 (by omega))]
  exact tanksE_at (i := i) (fun k hk => h (k + 1) (by omega)) (by simpa using hi) hz
def yardE (ru : Rules) (tanks : List (List Ev)) (jobs : List Int) : Int := if rulesB ru = true then (if 3 < tanks.length then 5 else if tanks.length = 0 then 4 else if tanksE ru tanks = 0 then jobsE ru jobs 6 else tanksE ru tanks) else 2
theorem yard_e {ru : Rules} {tanks : List (List Ev)} {jobs : List Int} {a b : Value} {c : Int} (h : yardE ru tanks jobs = c) : Ending.returned (.tuple #[a, b, .int .i64 c]) = .returned (.tuple #[a, b, .int .i64 (yardE ru tanks jobs)]) := by rw [h]
set_option maxHeartbeats 2000000 in
theorem yard_any {ru : Rules} {ua up : List Value} {vl va vp vk : Value} {w : World} {B : Nat} (hr : RdRules w B vl va vp vk ru ua up) (hB : B ≤ w.heap.size) (hs : Short ru) {tanks : List (List Ev)} {vt : Value} {ut : List Value} (ht : RdLL evC 2 w B vt tanks ut) (htn : ∀ i, i < tanks.length → (tanks.getD i []).length ≤ 1048576) (htl : tanks.length ≤ 9223372036854775807) {jobs : List Int} {vj : Value} (hv : Rd w B 1 vj jobs.length (ints jobs)) (hjn : jobs.length ≤ 9223372036854775807) :
  Calls Try.prog 68 #[rulesV vl va vp vk ru, vt, vj] w fun e w' => (∃ sf, e = .returned (.tuple #[rulesV vl va vp vk ru, flV sf, .int .i64 (yardE ru tanks jobs)]) ∧ FlOk sf ∧ (yardE ru tanks jobs = 0 → sf = fillF ru tanks tanks.length)) ∧ Below w.heap.size w w' := by
 obtain ⟨Al, cl, Aa, ca, Ap, cp, Ak, ck, rfl, rfl, rfl, rfl⟩ := hr.sh4;obtain ⟨At, ct, rfl, _⟩ := ht.rd.shape;obtain ⟨Aj, cj, rfl, _⟩ := hv.shape;have hbw := Below.refl w.heap.size w
 unfold rulesV
 refine EC.enter 61 Try.func68 rfl rfl rfl (EC.seq (EC.region (EL.newP (bx_28 rfl) rfl ?_)));intro g1 w1 q1 hb1 hg1 hl1;have bhbw_1 := Nat.le_trans hbw.size hg1;replace hbw := bo_ hbw hb1;clear hb1 hg1 hl1;refine EL.newP al_116 rfl ?_;intro g2 w2 q2 hb2 hg2 hl2;have n1_2 := q1.na hg2;have bhbw_2 := Nat.le_trans hbw.size hg2;replace q1 := q1.bl hb2;replace hbw := bo_ hbw hb2;clear hb2 hg2 hl2;refine EL.newP al_fleet rfl ?_;intro g3 w3 q3 hb3 hg3 hl3;have n1_3 := q1.na hg3;have n2_3 := q2.na hg3;have bhbw_3 := Nat.le_trans hbw.size hg3;replace q1 := q1.bl hb3;replace q2 := q2.bl hb3;replace hbw := bo_ hbw hb3;clear hb3 hg3 hl3;refine EL.as rfl rfl (EL.nil (EX.seq (EC.seq (EC.region (EL.val (ld_28 rfl (q1.at (j := 0) rfl) (q1.at (j := 1) rfl) (q1.at (j := 2) rfl) (q1.at (j := 3) rfl) (q1.at (j := 4) rfl) (q1.at (j := 5) rfl)) rfl ?_)))))
 cases hrb : rulesB ru
 ·
  have hop := open_any (hr.below (hbw.mono hB)) (Nat.le_trans hB hbw.size) hs;rw [hrb] at hop;refine EL.call (cA1 cF74 rfl) rfl (hop) ?_
  rintro e w4 ⟨rfl, hc4⟩
  refine ⟨_, rfl, ?_⟩;replace q1 := q1.bl hc4;replace q2 := q2.bl hc4;replace q3 := q3.bl hc4;replace hbw := bo_ hbw hc4;clear hc4;refine EL.mv rfl rfl (EL.xt rfl rfl rfl (EL.xt rfl rfl rfl (EL.store rfl rfl q2 sz_116 rfl rfl rfl rfl ?_)));intro w5 hq5 hg5;replace q1 := q1.gr hg5 n1_2;replace q3 := q3.gr hg5 n2_3.symm;replace hbw := below_store hbw hg5 bhbw_2;replace q2 := hq5;clear hg5 hq5;refine EL.as rfl rfl (EL.nil (EX.seq (EC.seq (EC.block (EC.seq (EC.region (EL.mv rfl rfl ?_)))))));refine EL.val (x_neq (r := true) rfl rfl (by decide)) rfl ?_
  refine EL.as rfl rfl (EL.nil (EX.seq (EC.yes rfl (EC.seq ?_))));have lt_1 := q1.lt;have lt_2 := q2.lt;have lt_3 := q3.lt;refine EC.regionS [[], [], [], [0], [0, 1, 3], [0, 1, 2, 3, 4]] 5 [] [3, 4] (fun fl w_ => Touch w5 w_ [g2, g3] ∧ Blk w_ g2 116 #[.slice Al ru.levels.length cl, .int .i64 ru.fade.lo, .int .i64 ru.fade.hi, .slice Aa ru.allow.length ca, .slice Ap ru.apart.length cp, .slice Ak ru.kinds.length ck] ∧ Blk w_ g3 150 (flC [tank0, tank0, tank0]).toArray) (phiS (fun i_ r => match i_ with | 0 => r 0 = .agg #[.slice Al ru.levels.length cl, .int .i64 ru.fade.lo, .int .i64 ru.fade.hi, .slice Aa ru.allow.length ca, .slice Ap ru.apart.length cp, .slice Ak ru.kinds.length ck] | 1 => r 1 = .agg (flC [tank0, tank0, tank0]).toArray | 2 => r 2 = .int .i64 2 | _ => True) []) (by kernel_rfl) rfl rfl (by intro i hi; simp at hi; rcases hi with rfl | rfl <;> exact ⟨by simp, by omega⟩) ⟨fun _ _ => ⟨Touch.start _ _, q2, q3⟩, fun _ _ _ ⟨hT, h6, h7⟩ hb => ⟨hT.below hb, h6.below hb h6.lt, h7.below hb h7.lt⟩, fun _ _ h => h.1.size⟩ phiS_nil (fun i_ hi_ hs_ => ?_) (fun i_ hi_ => ?_) ?_
  ·match i_, hi_ with
   | 0, _ =>
    intro val fl w1 a hb ha hd hfl;obtain ⟨hT, h6, h7⟩ := hb;have ha := ha.s0 (d := 6) rfl
    exact ss_val ha rfl rfl (ld_116 rfl (h6.at (j := 0) rfl) (h6.at (j := 1) rfl) (h6.at (j := 2) rfl) (h6.at (j := 3) rfl) (h6.at (j := 4) rfl) (h6.at (j := 5) rfl)) rfl rfl
   | 1, _ =>
    intro val fl w1 a hb ha hd hfl;obtain ⟨hT, h6, h7⟩ := hb;have ha := ha.s0 (d := 7) rfl
    exact ss_val ha rfl rfl (x_loadA rfl (h7.range (PartAt.whole _)) Try.underlying150 rfl (sz_150.trans (congrArg some fl0_len.symm))) rfl rfl
   | 2, _ =>
    intro val fl w1 a hb ha hd hfl;obtain ⟨hT, h6, h7⟩ := hb;have ha := ha.s0 (d := 8) rfl
    exact ss_val ha rfl rfl (x_move rfl) rfl rfl
   | 3, _ =>
    exact absurd (by simp) hs_
   | 4, _ =>
    exact absurd (by simp) hs_
   | k + 5, h => exact absurd h (by omega)
  ·simp only [List.mem_cons, List.not_mem_nil, or_false] at hi_; rcases hi_ with rfl | rfl
   ·
    intro val fl w1 a hb hfi ha hd hfl;obtain ⟨hT, h6, h7⟩ := hb;have e0 : val 0 = _ := hd 0 (memB_mem.1 rfl);have ha := ha.sub (Sub.ins (d := 19) (Sub.ins (d := 6) (Sub.nil _) rfl) (dep_get rfl e0));refine ts_store ha rfl rfl rfl h6 sz_116 rfl rfl rfl rfl ?_;intro w' hq hgr;refine ⟨undef, rfl, hgr.size, ⟨hT.grown hgr (by simp), hq, h7.grown hgr (fun h => n2_3.symm (Option.some.inj h))⟩, trivial, fun j _ hj hn hA => ?_⟩
    exact fun h => h
   ·
    intro val fl w1 a hb hfi ha hd hfl;obtain ⟨hT, h6, h7⟩ := hb;have e1 : val 1 = _ := hd 1 (memB_mem.1 rfl);have ha := ha.sub (Sub.ins (d := 20) (Sub.ins (d := 7) (Sub.nil _) rfl) (dep_get rfl e1));refine ts_store (l' := (flC [tank0, tank0, tank0])) ha rfl rfl rfl h7 sz_150 rfl ((lenV_eq _).trans fl0_len) (by rw [lenV_eq, Nat.ble_eq]; exact Nat.le_of_eq fl0_len.symm) (flC_one _) ?_
    intro w' hq hgr;rw [spl_whole rfl] at hq;refine ⟨undef, rfl, hgr.size, ⟨hT.grown hgr (by simp), h6.grown hgr (fun h => n2_3 (Option.some.inj h)), hq⟩, trivial, fun j _ hj hn hA => ?_⟩
    exact fun h => h
  ·intro val fl wR3 hfl hb halc hd
   obtain ⟨hT, h6, h7⟩ := hb;have e0 : val 0 = _ := hd 0 (by omega)
   have e1 : val 1 = _ := hd 1 (by omega)
   have e2 : val 2 = _ := hd 2 (by omega)
   refine EL.ends (cs := [_, _, _, val 3, val 4]) ⟨e0, e1, e2, rfl, rfl, trivial⟩ rfl ?_;replace q1 := q1.touch hT (by simp only [List.mem_cons, List.not_mem_nil, or_false, not_or]; exact ⟨n1_2, n1_3⟩)
   replace q2 := h6;replace q3 := h7;replace hbw := hT.anchor hbw (by simp only [List.mem_cons, List.not_mem_nil, or_false, forall_eq_or_imp, forall_eq]; exact ⟨bhbw_2, bhbw_3⟩)
   refine EL.as rfl rfl (EL.nil (EX.seq (EC.ret (EX.blk_ret (EX.seq_ret ?_)))));have hye : yardE ru tanks jobs = 2 := by unfold yardE; rw [hrb]; rfl
   exact EX.done (resc2t rfl rfl rfl rfl (lv_116 (q2.at (j := 0) rfl) (q2.at (j := 1) rfl) (q2.at (j := 2) rfl) (q2.at (j := 3) rfl) (q2.at (j := 4) rfl) (q2.at (j := 5) rfl)) (run_loadVar_mid _ _ 0 150 _ _ (q3.range (PartAt.whole _)) Try.underlying150 rfl (sz_150.trans (congrArg some fl0_len.symm)))) ⟨⟨[tank0, tank0, tank0], yard_e hye, (fillF_ok ru tanks 0), fun h => absurd h (by rw [hye]; decide)⟩, hbw⟩
 ·
  have hop := open_any (hr.below (hbw.mono hB)) (Nat.le_trans hB hbw.size) hs;rw [hrb] at hop;refine EL.call (cA1 cF74 rfl) rfl (hop) ?_
  rintro e w6 ⟨rfl, hc6⟩
  refine ⟨_, rfl, ?_⟩;replace q1 := q1.bl hc6;replace q2 := q2.bl hc6;replace q3 := q3.bl hc6;replace hbw := bo_ hbw hc6;clear hc6;refine EL.mv rfl rfl (EL.xt rfl rfl rfl (EL.xt rfl rfl rfl (EL.store rfl rfl q2 sz_116 rfl rfl rfl rfl ?_)));intro w7 hq7 hg7;replace q1 := q1.gr hg7 n1_2;replace q3 := q3.gr hg7 n2_3.symm;replace hbw := below_store hbw hg7 bhbw_2;replace q2 := hq7;clear hg7 hq7;refine EL.as rfl rfl (EL.nil (EX.seq (EC.seq (EC.block (EC.seq (EC.region (EL.mv rfl rfl ?_)))))));refine EL.val (x_neq (r := false) rfl rfl (by decide)) rfl ?_
  refine EL.as rfl rfl (EL.nil (EX.seq (EC.no rfl (EC.seq (EC.region (EL.mv rfl rfl (EL.val (ln_96 rfl) rfl ?_)))))))
  by_cases h3 : 3 < tanks.length
  ·
   refine EL.val (x_gtr (r := true) rfl rfl (decide_eq_true (by omega))) rfl ?_
   refine EL.as rfl rfl (EL.nil (EX.seq (EC.yes rfl (EC.seq ?_))));have lt_1 := q1.lt;have lt_2 := q2.lt;have lt_3 := q3.lt;refine EC.regionS [[], [], [0], [0, 1, 2], [0, 1, 2, 3]] 4 [] [2, 3] (fun fl w_ => Touch w7 w_ [g2, g3] ∧ Blk w_ g2 116 #[.slice Al ru.levels.length cl, .int .i64 ru.fade.lo, .int .i64 ru.fade.hi, .slice Aa ru.allow.length ca, .slice Ap ru.apart.length cp, .slice Ak ru.kinds.length ck] ∧ Blk w_ g3 150 (flC [tank0, tank0, tank0]).toArray) (phiS (fun i_ r => match i_ with | 0 => r 0 = .agg #[.slice Al ru.levels.length cl, .int .i64 ru.fade.lo, .int .i64 ru.fade.hi, .slice Aa ru.allow.length ca, .slice Ap ru.apart.length cp, .slice Ak ru.kinds.length ck] | 1 => r 1 = .agg (flC [tank0, tank0, tank0]).toArray | _ => True) []) (by kernel_rfl) rfl rfl (by intro i hi; simp at hi; rcases hi with rfl | rfl <;> exact ⟨by simp, by omega⟩) ⟨fun _ _ => ⟨Touch.start _ _, q2, q3⟩, fun _ _ _ ⟨hT, h6, h7⟩ hb => ⟨hT.below hb, h6.below hb h6.lt, h7.below hb h7.lt⟩, fun _ _ h => h.1.size⟩ phiS_nil (fun i_ hi_ hs_ => ?_) (fun i_ hi_ => ?_) ?_
   ·match i_, hi_ with
    | 0, _ =>
     intro val fl w1 a hb ha hd hfl;obtain ⟨hT, h6, h7⟩ := hb;have ha := ha.s0 (d := 6) rfl
     exact ss_val ha rfl rfl (ld_116 rfl (h6.at (j := 0) rfl) (h6.at (j := 1) rfl) (h6.at (j := 2) rfl) (h6.at (j := 3) rfl) (h6.at (j := 4) rfl) (h6.at (j := 5) rfl)) rfl rfl
    | 1, _ =>
     intro val fl w1 a hb ha hd hfl;obtain ⟨hT, h6, h7⟩ := hb;have ha := ha.s0 (d := 7) rfl
     exact ss_val ha rfl rfl (x_loadA rfl (h7.range (PartAt.whole _)) Try.underlying150 rfl (sz_150.trans (congrArg some fl0_len.symm))) rfl rfl
    | 2, _ =>
     exact absurd (by simp) hs_
    | 3, _ =>
     exact absurd (by simp) hs_
    | k + 4, h => exact absurd h (by omega)
   ·simp only [List.mem_cons, List.not_mem_nil, or_false] at hi_; rcases hi_ with rfl | rfl
    ·
     intro val fl w1 a hb hfi ha hd hfl;obtain ⟨hT, h6, h7⟩ := hb;have e0 : val 0 = _ := hd 0 (memB_mem.1 rfl);have ha := ha.sub (Sub.ins (d := 26) (Sub.ins (d := 6) (Sub.nil _) rfl) (dep_get rfl e0));refine ts_store ha rfl rfl rfl h6 sz_116 rfl rfl rfl rfl ?_;intro w' hq hgr;refine ⟨undef, rfl, hgr.size, ⟨hT.grown hgr (by simp), hq, h7.grown hgr (fun h => n2_3.symm (Option.some.inj h))⟩, trivial, fun j _ hj hn hA => ?_⟩
     exact fun h => h
    ·
     intro val fl w1 a hb hfi ha hd hfl;obtain ⟨hT, h6, h7⟩ := hb;have e1 : val 1 = _ := hd 1 (memB_mem.1 rfl);have ha := ha.sub (Sub.ins (d := 27) (Sub.ins (d := 7) (Sub.nil _) rfl) (dep_get rfl e1));refine ts_store (l' := (flC [tank0, tank0, tank0])) ha rfl rfl rfl h7 sz_150 rfl ((lenV_eq _).trans fl0_len) (by rw [lenV_eq, Nat.ble_eq]; exact Nat.le_of_eq fl0_len.symm) (flC_one _) ?_
     intro w' hq hgr;rw [spl_whole rfl] at hq;refine ⟨undef, rfl, hgr.size, ⟨hT.grown hgr (by simp), h6.grown hgr (fun h => n2_3 (Option.some.inj h)), hq⟩, trivial, fun j _ hj hn hA => ?_⟩
     exact fun h => h
   ·intro val fl wR5 hfl hb halc hd
    obtain ⟨hT, h6, h7⟩ := hb;have e0 : val 0 = _ := hd 0 (by omega)
    have e1 : val 1 = _ := hd 1 (by omega)
    refine EL.ends (cs := [_, _, val 2, val 3]) ⟨e0, e1, rfl, rfl, trivial⟩ rfl ?_;replace q1 := q1.touch hT (by simp only [List.mem_cons, List.not_mem_nil, or_false, not_or]; exact ⟨n1_2, n1_3⟩)
    replace q2 := h6;replace q3 := h7;replace hbw := hT.anchor hbw (by simp only [List.mem_cons, List.not_mem_nil, or_false, forall_eq_or_imp, forall_eq]; exact ⟨bhbw_2, bhbw_3⟩)
    refine EL.as rfl rfl (EL.nil (EX.seq (EC.ret (EX.blk_ret (EX.seq_ret ?_)))));have hye : yardE ru tanks jobs = 5 := by unfold yardE; rw [hrb, if_pos rfl, if_pos h3]
    exact EX.done (resc2t rfl rfl rfl rfl (lv_116 (q2.at (j := 0) rfl) (q2.at (j := 1) rfl) (q2.at (j := 2) rfl) (q2.at (j := 3) rfl) (q2.at (j := 4) rfl) (q2.at (j := 5) rfl)) (run_loadVar_mid _ _ 0 150 _ _ (q3.range (PartAt.whole _)) Try.underlying150 rfl (sz_150.trans (congrArg some fl0_len.symm)))) ⟨⟨[tank0, tank0, tank0], yard_e hye, (fillF_ok ru tanks 0), fun h => absurd h (by rw [hye]; decide)⟩, hbw⟩
  ·
   refine EL.val (x_gtr (r := false) rfl rfl (decide_eq_false (by omega))) rfl ?_
   refine EL.as rfl rfl (EL.nil (EX.seq (EC.no rfl (EC.seq (EC.region (EL.mv rfl rfl (EL.val (ln_96 rfl) rfl ?_)))))))
   by_cases h0 : tanks.length = 0
   ·
    refine EL.val (x_eql (r := true) rfl rfl (decide_eq_true (by omega))) rfl ?_
    refine EL.as rfl rfl (EL.nil (EX.seq (EC.yes rfl (EC.seq ?_))));have lt_1 := q1.lt;have lt_2 := q2.lt;have lt_3 := q3.lt;refine EC.regionS [[], [], [0], [0, 1, 2], [0, 1, 2, 3]] 4 [] [2, 3] (fun fl w_ => Touch w7 w_ [g2, g3] ∧ Blk w_ g2 116 #[.slice Al ru.levels.length cl, .int .i64 ru.fade.lo, .int .i64 ru.fade.hi, .slice Aa ru.allow.length ca, .slice Ap ru.apart.length cp, .slice Ak ru.kinds.length ck] ∧ Blk w_ g3 150 (flC [tank0, tank0, tank0]).toArray) (phiS (fun i_ r => match i_ with | 0 => r 0 = .agg #[.slice Al ru.levels.length cl, .int .i64 ru.fade.lo, .int .i64 ru.fade.hi, .slice Aa ru.allow.length ca, .slice Ap ru.apart.length cp, .slice Ak ru.kinds.length ck] | 1 => r 1 = .agg (flC [tank0, tank0, tank0]).toArray | _ => True) []) (by kernel_rfl) rfl rfl (by intro i hi; simp at hi; rcases hi with rfl | rfl <;> exact ⟨by simp, by omega⟩) ⟨fun _ _ => ⟨Touch.start _ _, q2, q3⟩, fun _ _ _ ⟨hT, h6, h7⟩ hb => ⟨hT.below hb, h6.below hb h6.lt, h7.below hb h7.lt⟩, fun _ _ h => h.1.size⟩ phiS_nil (fun i_ hi_ hs_ => ?_) (fun i_ hi_ => ?_) ?_
    ·match i_, hi_ with
     | 0, _ =>
      intro val fl w1 a hb ha hd hfl;obtain ⟨hT, h6, h7⟩ := hb;have ha := ha.s0 (d := 6) rfl
      exact ss_val ha rfl rfl (ld_116 rfl (h6.at (j := 0) rfl) (h6.at (j := 1) rfl) (h6.at (j := 2) rfl) (h6.at (j := 3) rfl) (h6.at (j := 4) rfl) (h6.at (j := 5) rfl)) rfl rfl
     | 1, _ =>
      intro val fl w1 a hb ha hd hfl;obtain ⟨hT, h6, h7⟩ := hb;have ha := ha.s0 (d := 7) rfl
      exact ss_val ha rfl rfl (x_loadA rfl (h7.range (PartAt.whole _)) Try.underlying150 rfl (sz_150.trans (congrArg some fl0_len.symm))) rfl rfl
     | 2, _ =>
      exact absurd (by simp) hs_
     | 3, _ =>
      exact absurd (by simp) hs_
     | k + 4, h => exact absurd h (by omega)
    ·simp only [List.mem_cons, List.not_mem_nil, or_false] at hi_; rcases hi_ with rfl | rfl
     ·
      intro val fl w1 a hb hfi ha hd hfl;obtain ⟨hT, h6, h7⟩ := hb;have e0 : val 0 = _ := hd 0 (memB_mem.1 rfl);have ha := ha.sub (Sub.ins (d := 32) (Sub.ins (d := 6) (Sub.nil _) rfl) (dep_get rfl e0));refine ts_store ha rfl rfl rfl h6 sz_116 rfl rfl rfl rfl ?_;intro w' hq hgr;refine ⟨undef, rfl, hgr.size, ⟨hT.grown hgr (by simp), hq, h7.grown hgr (fun h => n2_3.symm (Option.some.inj h))⟩, trivial, fun j _ hj hn hA => ?_⟩
      exact fun h => h
     ·
      intro val fl w1 a hb hfi ha hd hfl;obtain ⟨hT, h6, h7⟩ := hb;have e1 : val 1 = _ := hd 1 (memB_mem.1 rfl);have ha := ha.sub (Sub.ins (d := 33) (Sub.ins (d := 7) (Sub.nil _) rfl) (dep_get rfl e1));refine ts_store (l' := (flC [tank0, tank0, tank0])) ha rfl rfl rfl h7 sz_150 rfl ((lenV_eq _).trans fl0_len) (by rw [lenV_eq, Nat.ble_eq]; exact Nat.le_of_eq fl0_len.symm) (flC_one _) ?_
      intro w' hq hgr;rw [spl_whole rfl] at hq;refine ⟨undef, rfl, hgr.size, ⟨hT.grown hgr (by simp), h6.grown hgr (fun h => n2_3 (Option.some.inj h)), hq⟩, trivial, fun j _ hj hn hA => ?_⟩
      exact fun h => h
    ·intro val fl wR7 hfl hb halc hd
     obtain ⟨hT, h6, h7⟩ := hb;have e0 : val 0 = _ := hd 0 (by omega)
     have e1 : val 1 = _ := hd 1 (by omega)
     refine EL.ends (cs := [_, _, val 2, val 3]) ⟨e0, e1, rfl, rfl, trivial⟩ rfl ?_;replace q1 := q1.touch hT (by simp only [List.mem_cons, List.not_mem_nil, or_false, not_or]; exact ⟨n1_2, n1_3⟩)
     replace q2 := h6;replace q3 := h7;replace hbw := hT.anchor hbw (by simp only [List.mem_cons, List.not_mem_nil, or_false, forall_eq_or_imp, forall_eq]; exact ⟨bhbw_2, bhbw_3⟩)
     refine EL.as rfl rfl (EL.nil (EX.seq (EC.ret (EX.blk_ret (EX.seq_ret ?_)))));have hye : yardE ru tanks jobs = 4 := by unfold yardE; rw [hrb, if_pos rfl, if_neg h3, if_pos h0]
     exact EX.done (resc2t rfl rfl rfl rfl (lv_116 (q2.at (j := 0) rfl) (q2.at (j := 1) rfl) (q2.at (j := 2) rfl) (q2.at (j := 3) rfl) (q2.at (j := 4) rfl) (q2.at (j := 5) rfl)) (run_loadVar_mid _ _ 0 150 _ _ (q3.range (PartAt.whole _)) Try.underlying150 rfl (sz_150.trans (congrArg some fl0_len.symm)))) ⟨⟨[tank0, tank0, tank0], yard_e hye, (fillF_ok ru tanks 0), fun h => absurd h (by rw [hye]; decide)⟩, hbw⟩
   ·
    refine EL.val (x_eql (r := false) rfl rfl (decide_eq_false (by omega))) rfl ?_
    refine EL.as rfl rfl (EL.nil (EX.seq (EC.no rfl (EC.skip (EX.blk (EX.seq (EC.seq (EC.seq (EC.region ?_)))))))));refine EL.mv rfl rfl (EL.val (ln_96 rfl) rfl (EL.mv rfl rfl (EL.nil (EX.seq (EC.block ?_)))));have hro := rules_ok hrb;refine EC.loopD [8, 9, 10, 36, 37, 38, 39, 40, 41, 42, 43, 44, 45, 46, 47, 48, 49, 50, 51, 52, 53, 54, 55] (fun x : Nat => [(36, .int .i64 (x : Nat)), (8, .int .i64 0)]) (fun x W => x ≤ tanks.length ∧ (∀ k, k < x → refE ru (tanks.getD k []) = 0) ∧ Blk W g1 28 #[.slice Al ru.levels.length cl, .int .i64 ru.fade.lo, .int .i64 ru.fade.hi, .slice Aa ru.allow.length ca, .slice Ap ru.apart.length cp, .slice Ak ru.kinds.length ck] ∧ Blk W g2 116 #[.slice Al ru.levels.length cl, .int .i64 ru.fade.lo, .int .i64 ru.fade.hi, .slice Aa ru.allow.length ca, .slice Ap ru.apart.length cp, .slice Ak ru.kinds.length ck] ∧ Blk W g3 150 (flC (fillF ru tanks x)).toArray ∧ Below w.heap.size w W) (fun x => tanks.length - x) 0 ⟨Nat.zero_le _, fun k hk => absurd hk (by omega), q1, q2, q3, hbw⟩ ⟨rfl, rfl, trivial⟩ ?_
    clear q1 q2 q3 hbw
    rintro i wx ⟨hi, hpre, q1, q2, q3, hbw⟩
    by_cases hlt : i < tanks.length
    ·
     have hi3 : i < 3 := by omega
     obtain ⟨bt, ot, et, _, htc⟩ := vals_cells ut i (by rw [ht.len]; exact hlt) wx B _ _ _ (ht.rd.below (hbw.mono hB))
     cases et
     refine EC.seq (EC.region ?_);refine EL.val (x_lss rfl rfl (decide_eq_true (show (((i : Nat) : Int) < ((tanks.length : Nat) : Int)) by omega))) rfl ?_
     refine EL.nil (EX.seq (EC.seq (EC.yes rfl (EC.skip (EX.seq (EC.seq (EC.block (EC.seq (EC.region ?_)))))))));refine EL.mv rfl rfl (EL.val (ix_96 rfl rfl hlt) rfl (EL.val (ld_29 rfl htc) rfl (EL.as rfl rfl (EL.as rfl rfl (EL.nil (EX.seq (EC.seq (EC.region (EL.mv rfl rfl ?_)))))))));refine EL.val (ld_28 rfl (q1.at (j := 0) rfl) (q1.at (j := 1) rfl) (q1.at (j := 2) rfl) (q1.at (j := 3) rfl) (q1.at (j := 4) rfl) (q1.at (j := 5) rfl)) rfl (EL.mv rfl rfl (EL.call (cA2 cF48 rfl rfl) rfl (after_any (hr.below (hbw.mono hB)) (Nat.le_trans hB hbw.size) hs ((ht.row i hlt).below (hbw.mono hB)) (htn i hlt)) ?_))
     rintro e w8 ⟨rfl, hc8⟩
     refine ⟨_, rfl, ?_⟩;replace q1 := q1.bl hc8;replace q2 := q2.bl hc8;replace q3 := q3.bl hc8;replace hbw := bo_ hbw hc8;clear hc8;refine EL.mv rfl rfl (EL.xt rfl rfl rfl (EL.xt rfl rfl rfl (EL.xt rfl rfl rfl (EL.val (ixa_150 rfl rfl hi3) rfl ?_))));refine EL.store (l' := tkC (tkE ru (tanks.getD i []))) rfl rfl q3 sz_120 rfl ((lenV_eq _).trans (tkC_8 (tkE_ok ru _).n8)) (by rw [lenV_eq, Nat.ble_eq, (fillF_ok ru tanks _).fl.len]; omega) (tkC_one _) ?_
     intro w9 hq9 hg9;rw [Nat.zero_add, tk_set (fillF_ok ru tanks _).fl hi3 (tkE_ok ru _).n8, fillF_set hi3] at hq9;replace q1 := q1.gr hg9 n1_3;replace q2 := q2.gr hg9 n2_3;replace hbw := below_store hbw hg9 bhbw_3;replace q3 := hq9;clear hg9 hq9;refine EL.as rfl rfl (EL.nil (EX.seq (EC.seq (EC.region (EL.mv rfl rfl ?_)))))
     by_cases hz : refE ru (tanks.getD i []) = 0
     ·
      refine EL.val (x_neq (r := false) rfl rfl (decide_eq_false (fun h => h hz))) rfl ?_
      refine EL.nil (EX.seq (EC.no rfl (EC.skip (EX.blk (EX.seq (EC.region ?_))))));refine EL.val (x_add rfl rfl (c := ((i + 1 : Nat) : Int)) ((IntWalk.i64_in _ ⟨by first | omega | (simp only; omega), by first | omega | (simp only; omega)⟩).trans (by first | omega | (simp only; omega)))) rfl ?_
      refine EL.mv rfl rfl (EL.nil ?_);refine EX.roundD (i + 1) ⟨rfl, agree_i hz rfl, trivial⟩ (by repeat first | with_reducible exact .refl _ | refine sp_ rfl ?_ | exact .refl _ | refine sd_ rfl ?_ | refine sn_ ?_) ⟨hlt, (fun k hk => by rcases Nat.lt_or_ge k i with h | h; exact hpre k h; rw [show k = i by omega]; exact hz), q1, q2, q3, hbw⟩ (by omega)
     ·
      refine EL.val (x_neq (r := true) rfl rfl (decide_eq_true hz)) rfl (EL.nil (EX.seq (EC.yes rfl (EC.seq ?_))));have lt_1 := q1.lt;have lt_2 := q2.lt;have lt_3 := q3.lt;refine EC.regionS [[], [], [], [0], [0, 1, 3], [0, 1, 2, 3, 4]] 5 [] [3, 4] (fun fl w_ => Touch w9 w_ [g2, g3] ∧ Blk w_ g2 116 #[.slice Al ru.levels.length cl, .int .i64 ru.fade.lo, .int .i64 ru.fade.hi, .slice Aa ru.allow.length ca, .slice Ap ru.apart.length cp, .slice Ak ru.kinds.length ck] ∧ Blk w_ g3 150 (flC (fillF ru tanks (i + 1))).toArray) (phiS (fun i_ r => match i_ with | 0 => r 0 = .agg #[.slice Al ru.levels.length cl, .int .i64 ru.fade.lo, .int .i64 ru.fade.hi, .slice Aa ru.allow.length ca, .slice Ap ru.apart.length cp, .slice Ak ru.kinds.length ck] | 1 => r 1 = .agg (flC (fillF ru tanks (i + 1))).toArray | 2 => r 2 = .int .i64 (refE ru (tanks.getD i [])) | _ => True) []) (by kernel_rfl) rfl rfl (by intro i hi; simp at hi; rcases hi with rfl | rfl <;> exact ⟨by simp, by omega⟩) ⟨fun _ _ => ⟨Touch.start _ _, q2, q3⟩, fun _ _ _ ⟨hT, h6, h7⟩ hb => ⟨hT.below hb, h6.below hb h6.lt, h7.below hb h7.lt⟩, fun _ _ h => h.1.size⟩ phiS_nil (fun i_ hi_ hs_ => ?_) (fun i_ hi_ => ?_) ?_
      ·match i_, hi_ with
       | 0, _ =>
        intro val fl w1 a hb ha hd hfl;obtain ⟨hT, h6, h7⟩ := hb;have ha := ha.s0 (d := 6) rfl
        exact ss_val ha rfl rfl (ld_116 rfl (h6.at (j := 0) rfl) (h6.at (j := 1) rfl) (h6.at (j := 2) rfl) (h6.at (j := 3) rfl) (h6.at (j := 4) rfl) (h6.at (j := 5) rfl)) rfl rfl
       | 1, _ =>
        intro val fl w1 a hb ha hd hfl;obtain ⟨hT, h6, h7⟩ := hb;have ha := ha.s0 (d := 7) rfl
        exact ss_val ha rfl rfl (x_loadA rfl (h7.range (PartAt.whole _)) Try.underlying150 rfl (sz_150.trans (congrArg some (fillF_ok ru tanks _).fl.len.symm))) rfl rfl
       | 2, _ =>
        intro val fl w1 a hb ha hd hfl;obtain ⟨hT, h6, h7⟩ := hb;have ha := ha.s0 (d := 8) rfl
        exact ss_val ha rfl rfl (x_move rfl) rfl rfl
       | 3, _ =>
        exact absurd (by simp) hs_
       | 4, _ =>
        exact absurd (by simp) hs_
       | k + 5, h => exact absurd h (by omega)
      ·simp only [List.mem_cons, List.not_mem_nil, or_false] at hi_; rcases hi_ with rfl | rfl
       ·
        intro val fl w1 a hb hfi ha hd hfl;obtain ⟨hT, h6, h7⟩ := hb;have e0 : val 0 = _ := hd 0 (memB_mem.1 rfl);have ha := ha.sub (Sub.ins (d := 52) (Sub.ins (d := 6) (Sub.nil _) rfl) (dep_get rfl e0));refine ts_store ha rfl rfl rfl h6 sz_116 rfl rfl rfl rfl ?_;intro w' hq hgr;refine ⟨undef, rfl, hgr.size, ⟨hT.grown hgr (by simp), hq, h7.grown hgr (fun h => n2_3.symm (Option.some.inj h))⟩, trivial, fun j _ hj hn hA => ?_⟩
        exact fun h => h
       ·
        intro val fl w1 a hb hfi ha hd hfl;obtain ⟨hT, h6, h7⟩ := hb;have e1 : val 1 = _ := hd 1 (memB_mem.1 rfl);have ha := ha.sub (Sub.ins (d := 53) (Sub.ins (d := 7) (Sub.nil _) rfl) (dep_get rfl e1));refine ts_store (l' := (flC (fillF ru tanks (i + 1)))) ha rfl rfl rfl h7 sz_150 rfl ((lenV_eq _).trans (fillF_ok ru tanks _).fl.len) (by rw [lenV_eq, Nat.ble_eq]; exact Nat.le_of_eq (fillF_ok ru tanks _).fl.len.symm) (flC_one _) ?_
        intro w' hq hgr;rw [spl_whole rfl] at hq;refine ⟨undef, rfl, hgr.size, ⟨hT.grown hgr (by simp), h6.grown hgr (fun h => n2_3 (Option.some.inj h)), hq⟩, trivial, fun j _ hj hn hA => ?_⟩
        exact fun h => h
      ·intro val fl wR13 hfl hb halc hd
       obtain ⟨hT, h6, h7⟩ := hb;have e0 : val 0 = _ := hd 0 (by omega)
       have e1 : val 1 = _ := hd 1 (by omega)
       have e2 : val 2 = _ := hd 2 (by omega)
       refine EL.ends (cs := [_, _, _, val 3, val 4]) ⟨e0, e1, e2, rfl, rfl, trivial⟩ rfl ?_;replace q1 := q1.touch hT (by simp only [List.mem_cons, List.not_mem_nil, or_false, not_or]; exact ⟨n1_2, n1_3⟩)
       replace q2 := h6;replace q3 := h7;replace hbw := hT.anchor hbw (by simp only [List.mem_cons, List.not_mem_nil, or_false, forall_eq_or_imp, forall_eq]; exact ⟨bhbw_2, bhbw_3⟩)
       refine EL.as rfl rfl (EL.nil (EX.seq (EC.ret (EX.blk_ret (EX.seq_ret (EX.seq_ret (EX.blk_ret (EX.seq_ret ?_))))))));have hye : yardE ru tanks jobs = refE ru (tanks.getD i []) := by unfold yardE; rw [hrb, if_pos rfl, if_neg h3, if_neg h0, tanksE_at hpre hlt hz, if_neg hz]
       exact EX.done (resc2t rfl rfl rfl rfl (lv_116 (q2.at (j := 0) rfl) (q2.at (j := 1) rfl) (q2.at (j := 2) rfl) (q2.at (j := 3) rfl) (q2.at (j := 4) rfl) (q2.at (j := 5) rfl)) (run_loadVar_mid _ _ 0 150 _ _ (q3.range (PartAt.whole _)) Try.underlying150 rfl (sz_150.trans (congrArg some (fillF_ok ru tanks _).fl.len.symm)))) ⟨⟨(fillF ru tanks (i + 1)), yard_e hye, (fillF_ok ru tanks _), fun h => absurd h (by rw [hye]; exact hz)⟩, hbw⟩
    ·
     obtain rfl : i = tanks.length := by omega
     refine EC.seq (EC.region ?_);refine EL.val (x_lss rfl rfl (decide_eq_false (show ¬(((tanks.length : Nat) : Int) < ((tanks.length : Nat) : Int)) by omega))) rfl ?_
     refine EL.nil (EX.seq (EC.seq (EC.no rfl (EC.exit (EX.seq_exit (EX.seq_exit (EX.blk_here (EX.seq (EC.seq ?_)))))))));have lt_1 := q1.lt;have lt_2 := q2.lt;have lt_3 := q3.lt;refine EC.regionS [[], [], [], [], [2, 3], [0, 2, 3, 4], [0, 1, 2, 3, 4, 5], [0, 1, 2, 3, 4, 5, 6]] 7 [] [5, 6] (fun fl w_ => Touch wx w_ [g2, g3] ∧ Blk w_ g2 116 #[.slice Al ru.levels.length cl, .int .i64 ru.fade.lo, .int .i64 ru.fade.hi, .slice Aa ru.allow.length ca, .slice Ap ru.apart.length cp, .slice Ak ru.kinds.length ck] ∧ Blk w_ g3 150 (flC (fillF ru tanks tanks.length)).toArray) (phiS (fun i_ r => match i_ with | 0 => r 0 = .agg #[.slice Al ru.levels.length cl, .int .i64 ru.fade.lo, .int .i64 ru.fade.hi, .slice Aa ru.allow.length ca, .slice Ap ru.apart.length cp, .slice Ak ru.kinds.length ck] | 1 => r 1 = .agg (flC (fillF ru tanks tanks.length)).toArray | 2 => r 2 = .agg #[.slice Al ru.levels.length cl, .int .i64 ru.fade.lo, .int .i64 ru.fade.hi, .slice Aa ru.allow.length ca, .slice Ap ru.apart.length cp, .slice Ak ru.kinds.length ck] | 3 => r 3 = .slice Aj jobs.length cj | 4 => r 4 = .int .i64 (jobsE ru jobs 6) | _ => True) []) (by kernel_rfl) rfl rfl (by intro i hi; simp at hi; rcases hi with rfl | rfl <;> exact ⟨by simp, by omega⟩) ⟨fun _ _ => ⟨Touch.start _ _, q2, q3⟩, fun _ _ _ ⟨hT, h6, h7⟩ hb => ⟨hT.below hb, h6.below hb h6.lt, h7.below hb h7.lt⟩, fun _ _ h => h.1.size⟩ phiS_nil (fun i_ hi_ hs_ => ?_) (fun i_ hi_ => ?_) ?_
     ·match i_, hi_ with
      | 0, _ =>
       intro val fl w1 a hb ha hd hfl;obtain ⟨hT, h6, h7⟩ := hb;have ha := ha.s0 (d := 6) rfl
       exact ss_val ha rfl rfl (ld_116 rfl (h6.at (j := 0) rfl) (h6.at (j := 1) rfl) (h6.at (j := 2) rfl) (h6.at (j := 3) rfl) (h6.at (j := 4) rfl) (h6.at (j := 5) rfl)) rfl rfl
      | 1, _ =>
       intro val fl w1 a hb ha hd hfl;obtain ⟨hT, h6, h7⟩ := hb;have ha := ha.s0 (d := 7) rfl
       exact ss_val ha rfl rfl (x_loadA rfl (h7.range (PartAt.whole _)) Try.underlying150 rfl (sz_150.trans (congrArg some (fillF_ok ru tanks _).fl.len.symm))) rfl rfl
      | 2, _ =>
       intro val fl w1 a hb ha hd hfl;obtain ⟨hT, h6, h7⟩ := hb;have ha := ha.s0 (d := 6) rfl
       exact ss_val ha rfl rfl (ld_116 rfl (h6.at (j := 0) rfl) (h6.at (j := 1) rfl) (h6.at (j := 2) rfl) (h6.at (j := 3) rfl) (h6.at (j := 4) rfl) (h6.at (j := 5) rfl)) rfl rfl
      | 3, _ =>
       intro val fl w1 a hb ha hd hfl;obtain ⟨hT, h6, h7⟩ := hb;have ha := ha.s0 (d := 2) rfl
       exact ss_val ha rfl rfl (x_move rfl) rfl rfl
      | 4, _ =>
       intro val fl w1 a hb ha hd hfl;obtain ⟨hT, h6, h7⟩ := hb;have e2 : val 2 = _ := hd 2 (memB_mem.1 rfl);have e3 : val 3 = _ := hd 3 (memB_mem.1 rfl);have ha := ha.s2 (d := 59) (e := 58) rfl e3 rfl e2;have hbw1 := hT.anchor hbw (by simp only [List.mem_cons, List.not_mem_nil, or_false, forall_eq_or_imp, forall_eq]; exact ⟨bhbw_2, bhbw_3⟩)
       refine ss_call ha rfl rfl (cA3 cF80 rfl rfl rfl) (checkJobs_any (hr.below (hbw1.mono hB)) hro (hv.below (hbw1.mono hB)) (Nat.le_trans hB hbw1.size) (most := 6) (by decide)) rfl ?_
       rintro e w' ⟨rfl, hb'⟩
       exact ⟨_, rfl, hb', rfl⟩
      | 5, _ =>
       exact absurd (by simp) hs_
      | 6, _ =>
       exact absurd (by simp) hs_
      | k + 7, h => exact absurd h (by omega)
     ·simp only [List.mem_cons, List.not_mem_nil, or_false] at hi_; rcases hi_ with rfl | rfl
      ·
       intro val fl w1 a hb hfi ha hd hfl;obtain ⟨hT, h6, h7⟩ := hb;have e0 : val 0 = _ := hd 0 (memB_mem.1 rfl);have ha := ha.sub (Sub.ins (d := 56) (Sub.ins (d := 6) (Sub.nil _) rfl) (dep_get rfl e0));refine ts_store ha rfl rfl rfl h6 sz_116 rfl rfl rfl rfl ?_;intro w' hq hgr;refine ⟨undef, rfl, hgr.size, ⟨hT.grown hgr (by simp), hq, h7.grown hgr (fun h => n2_3.symm (Option.some.inj h))⟩, trivial, fun j _ hj hn hA => ?_⟩
       exact fun h => h
      ·
       intro val fl w1 a hb hfi ha hd hfl;obtain ⟨hT, h6, h7⟩ := hb;have e1 : val 1 = _ := hd 1 (memB_mem.1 rfl);have ha := ha.sub (Sub.ins (d := 57) (Sub.ins (d := 7) (Sub.nil _) rfl) (dep_get rfl e1));refine ts_store (l' := (flC (fillF ru tanks tanks.length))) ha rfl rfl rfl h7 sz_150 rfl ((lenV_eq _).trans (fillF_ok ru tanks _).fl.len) (by rw [lenV_eq, Nat.ble_eq]; exact Nat.le_of_eq (fillF_ok ru tanks _).fl.len.symm) (flC_one _) ?_
       intro w' hq hgr;rw [spl_whole rfl] at hq;refine ⟨undef, rfl, hgr.size, ⟨hT.grown hgr (by simp), h6.grown hgr (fun h => n2_3 (Option.some.inj h)), hq⟩, trivial, fun j _ hj hn hA => ?_⟩
       exact fun h => h
     ·intro val fl wR15 hfl hb halc hd
      obtain ⟨hT, h6, h7⟩ := hb;have e0 : val 0 = _ := hd 0 (by omega)
      have e1 : val 1 = _ := hd 1 (by omega)
      have e2 : val 2 = _ := hd 2 (by omega)
      have e3 : val 3 = _ := hd 3 (by omega)
      have e4 : val 4 = _ := hd 4 (by omega)
      refine EL.ends (cs := [_, _, _, _, _, val 5, val 6]) ⟨e0, e1, e2, e3, e4, rfl, rfl, trivial⟩ rfl ?_;replace q1 := q1.touch hT (by simp only [List.mem_cons, List.not_mem_nil, or_false, not_or]; exact ⟨n1_2, n1_3⟩)
      replace q2 := h6;replace q3 := h7;replace hbw := hT.anchor hbw (by simp only [List.mem_cons, List.not_mem_nil, or_false, forall_eq_or_imp, forall_eq]; exact ⟨bhbw_2, bhbw_3⟩)
      refine EL.as rfl rfl (EL.nil (EX.seq (EC.ret ?_)));have hye : yardE ru tanks jobs = jobsE ru jobs 6 := by unfold yardE; rw [hrb, if_pos rfl, if_neg h3, if_neg h0, tanksE_none hpre, if_pos rfl]
      exact EX.done (resc2t rfl rfl rfl rfl (lv_116 (q2.at (j := 0) rfl) (q2.at (j := 1) rfl) (q2.at (j := 2) rfl) (q2.at (j := 3) rfl) (q2.at (j := 4) rfl) (q2.at (j := 5) rfl)) (run_loadVar_mid _ _ 0 150 _ _ (q3.range (PartAt.whole _)) Try.underlying150 rfl (sz_150.trans (congrArg some (fillF_ok ru tanks _).fl.len.symm)))) ⟨⟨(fillF ru tanks tanks.length), yard_e hye, (fillF_ok ru tanks _), fun _ => rfl⟩, hbw⟩
theorem yard_ok {ru : Rules} {tanks : List (List Ev)} {jobs : List Int} (h : yardE ru tanks jobs = 0) : RulesOk ru ∧ tanks.length ≤ 3 ∧ jobsE ru jobs 6 = 0 := by
 unfold yardE at h
 split at h
 ·rename_i hrb
  split at h
  ·omega
  ·rename_i h3
   split at h
   ·omega
   ·split at h
    ·exact ⟨rules_ok hrb, by omega, h⟩
    ·rename_i hz; exact absurd h hz
 ·omega
def depF (ru : Rules) (tanks : List (List Ev)) (jobs : List Int) : Nat := depthR (extY (yardOf ru tanks.length)) (jobs.map Int.toNat) (fillF ru tanks tanks.length, pl0)
def codeF (ru : Rules) (tanks : List (List Ev)) (jobs : List Int) : Int := if yardE ru tanks jobs = 0 then (if depF ru tanks jobs < jobs.length then 7 else 0) else yardE ru tanks jobs
def atF (ru : Rules) (tanks : List (List Ev)) (jobs : List Int) : Nat := if yardE ru tanks jobs = 0 then (if depF ru tanks jobs < jobs.length then depF ru tanks jobs else 0) else 0
theorem fleet_e {ru : Rules} {tanks : List (List Ev)} {jobs : List Int} {v : Value} {x c : Int} {a : Nat} (ha : atF ru tanks jobs = a) (hc : codeF ru tanks jobs = c) : Ending.returned (.tuple #[v, .int .i64 x, .int .i64 (a : Nat), .int .i64 c]) = .returned (.tuple #[v, .int .i64 x, .int .i64 ((atF ru tanks jobs) : Nat), .int .i64 (codeF ru tanks jobs)]) := by rw [hc, ha]
set_option maxHeartbeats 1000000 in
theorem Fleet_any {ru : Rules} {ua up : List Value} {vl va vp vk : Value} {w : World} {B : Nat} (hr : RdRules w B vl va vp vk ru ua up) (hB : B ≤ w.heap.size) (hs : Short ru) {tanks : List (List Ev)} {vt : Value} {ut : List Value} (ht : RdLL evC 2 w B vt tanks ut) (htn : ∀ i, i < tanks.length → (tanks.getD i []).length ≤ 1048576) (htl : tanks.length ≤ 9223372036854775807) {jobs : List Int} {vj : Value} (hv : Rd w B 1 vj jobs.length (ints jobs)) (hjn : jobs.length ≤ 9223372036854775807) :
  Calls Try.prog 38 #[rulesV vl va vp vk ru, vt, vj] w fun e w' => (∃ v' st c, e = .returned (.tuple #[v', .int .i64 c, .int .i64 ((atF ru tanks jobs) : Nat), .int .i64 (codeF ru tanks jobs)]) ∧ w'.ownsRow w.heap.size 70 2 v' st.length (stsC st) ∧
   (codeF ru tanks jobs = 0 → ∃ p, IsBest (compl (extY (yardOf ru tanks.length)) (jobs.map Int.toNat) (fillF ru tanks tanks.length, pl0)) p ∧ st = p.steps ∧ c = p.cost) ∧ (codeF ru tanks jobs ≠ 0 → st = [] ∧ c = 0)) ∧ Below w.heap.size w w' := by
 obtain ⟨Al, cl, Aa, ca, Ap, cp, Ak, ck, rfl, rfl, rfl, rfl⟩ := hr.sh4;obtain ⟨At, ct, rfl, _⟩ := ht.rd.shape;obtain ⟨Aj, cj, rfl, _⟩ := hv.shape;have hbw := Below.refl w.heap.size w
 unfold rulesV
 refine EC.enter 53 Try.func38 rfl rfl rfl (EC.seq (EC.region (EL.newP (bx_28 rfl) rfl ?_)));intro g1 w1 q1 hb1 hg1 hl1;have bhbw_1 := Nat.le_trans hbw.size hg1;replace hbw := bo_ hbw hb1;clear hb1 hg1 hl1;refine EL.as rfl rfl (EL.as rfl rfl (EL.as rfl rfl (EL.as rfl rfl (EL.nil (EX.seq (EC.seq (EC.region (EL.val (ld_28 rfl (q1.at (j := 0) rfl) (q1.at (j := 1) rfl) (q1.at (j := 2) rfl) (q1.at (j := 3) rfl) (q1.at (j := 4) rfl) (q1.at (j := 5) rfl)) rfl (EL.mv rfl rfl ?_)))))))));refine EL.mv rfl rfl (EL.call (cA3 cF68 rfl rfl rfl) rfl (yard_any (hr.below (hbw.mono hB)) (Nat.le_trans hB hbw.size) hs (ht.below (hbw.mono hB)) htn htl (hv.below (hbw.mono hB)) hjn) ?_)
 rintro e w2 ⟨⟨sf, rfl, hsf, hyf⟩, hc2⟩
 refine ⟨_, rfl, ?_⟩;replace q1 := q1.bl hc2;replace hbw := bo_ hbw hc2;clear hc2;refine EL.mv rfl rfl (EL.xt rfl rfl rfl (EL.xt rfl rfl rfl (EL.xt rfl rfl rfl (EL.newP al_116 rfl ?_))));intro g3 w3 q3 hb3 hg3 hl3;have n1_3 := q1.na hg3;have bhbw_3 := Nat.le_trans hbw.size hg3;replace q1 := q1.bl hb3;replace hbw := bo_ hbw hb3;clear hb3 hg3 hl3;refine EL.newP al_fleet rfl ?_;intro g4 w4 q4 hb4 hg4 hl4;have n1_4 := q1.na hg4;have n3_4 := q3.na hg4;have bhbw_4 := Nat.le_trans hbw.size hg4;replace q1 := q1.bl hb4;replace q3 := q3.bl hb4;replace hbw := bo_ hbw hb4;clear hb4 hg4 hl4;refine EL.store rfl rfl q3 sz_116 rfl rfl rfl rfl ?_;intro w5 hq5 hg5;replace q1 := q1.gr hg5 n1_3;replace q4 := q4.gr hg5 n3_4.symm;replace hbw := below_store hbw hg5 bhbw_3;replace q3 := hq5;clear hg5 hq5;refine EL.store (l' := (flC sf)) rfl rfl q4 sz_150 rfl ((lenV_eq _).trans hsf.fl.len) (by rw [lenV_eq, Nat.ble_eq]; exact Nat.le_of_eq (fl0_len.symm)) (flC_one _) ?_
 intro w6 hq6 hg6;rw [spl_whole (hsf.fl.len.trans fl0_len.symm)] at hq6;replace q1 := q1.gr hg6 n1_4;replace q3 := q3.gr hg6 n3_4;replace hbw := below_store hbw hg6 bhbw_4;replace q4 := hq6;clear hg6 hq6;refine EL.as rfl rfl (EL.nil (EX.seq (EC.seq (EC.seq (EC.region (EL.mv rfl rfl ?_))))))
 by_cases hc : yardE ru tanks jobs = 0
 ·
  refine EL.val (x_neq (r := false) rfl rfl (decide_eq_false (fun h => h hc))) rfl ?_
  refine EL.mv rfl rfl (EL.mg rfl rfl rfl rfl (EL.valg rfl rfl (ln_22 rfl) rfl ?_))
  by_cases he : jobs.length = 0
  ·
   refine EL.valg rfl rfl (x_eql (r := true) rfl rfl (decide_eq_true (by omega))) rfl ?_
   refine EL.pf rfl rfl rfl (EL.nil (EX.seq (EC.yes rfl (EC.seq (EC.region (EL.mv rfl rfl (EL.as rfl rfl (EL.as rfl rfl (EL.as rfl rfl ?_)))))))));refine EL.as rfl rfl (EL.nil (EX.seq (EC.ret (EX.seq_ret ?_))))
   exact EX.done (res4 rfl rfl rfl rfl rfl) ⟨⟨_, [], 0, fleet_e (a := 0) (c := yardE ru tanks jobs) (by unfold atF; rw [if_pos hc, if_neg (by omega)]) (by unfold codeF; rw [if_pos hc, if_neg (by omega), hc]), World.ownsRow_nil _ _ _ _, fun _ => ⟨pl0, by rw [List.eq_nil_of_length_eq_zero he]; exact best_nil, rfl, rfl⟩, fun h => absurd (by unfold codeF; rw [if_pos hc, if_neg (by omega)]) h⟩, hbw⟩
  ·
   refine EL.valg rfl rfl (x_eql (r := false) rfl rfl (decide_eq_false (by omega))) rfl ?_
   refine EL.pf rfl rfl rfl (EL.nil (EX.seq (EC.no rfl (EC.skip (EX.seq (EC.seq (EC.region (EL.val (ld_116 rfl (q3.at (j := 0) rfl) (q3.at (j := 1) rfl) (q3.at (j := 2) rfl) (q3.at (j := 3) rfl) (q3.at (j := 4) rfl) (q3.at (j := 5) rfl)) rfl (EL.val (x_loadA rfl (q4.range (PartAt.whole _)) Try.underlying150 rfl (sz_150.trans (congrArg some hsf.fl.len.symm))) rfl ?_)))))))));refine EL.mv rfl rfl (EL.val (ln_96 rfl) rfl (EL.mv rfl rfl ?_));obtain ⟨hro, ht3, hjz⟩ := yard_ok hc;obtain ⟨hj1, hj2, hj3⟩ := jobs_ok hjz;obtain rfl := hyf hc;refine EL.call (cA4 cF69 rfl rfl rfl rfl) rfl (plans_any (hr.below (hbw.mono hB)) (Nat.le_trans hB hbw.size) hro (fillF_ok ru tanks _) (many := tanks.length) ht3 (js := jobs.map Int.toNat) hj2 (by omega) (C := B) (by rw [List.length_map, hj1]; exact hv.below (hbw.mono hB)) (Nat.le_trans hB hbw.size)) ?_
   rintro e w7 ⟨⟨vp2, lp, rfl, hP, hbs⟩, hc7⟩
   refine ⟨_, rfl, ?_⟩;replace hP := hP.less hbw.size;replace q1 := q1.bl hc7;replace q3 := q3.bl hc7;replace q4 := q4.bl hc7;replace hbw := bo_ hbw hc7;clear hc7;obtain ⟨Aq, cq, rfl, _⟩ := hP.rd.shape;obtain ⟨hb1, hb2⟩ := hbs;rw [List.length_map] at hb1 hb2;have hl10 : lp.length ≤ jobs.length := by have := depth_le (ext := extY (yardOf ru tanks.length)) (jobs.map Int.toNat) (fillF ru tanks tanks.length, pl0); rw [List.length_map] at this; omega
   rw [List.length_map] at hj3;refine EL.as rfl rfl (EL.nil (EX.seq (EC.seq (EC.seq (EC.region (EL.mv rfl rfl (EL.val (ln_130 rfl) rfl (EL.mv rfl rfl (EL.val (ln_22 rfl) rfl ?_)))))))))
   by_cases hlt : lp.length < jobs.length
   ·
    refine EL.val (x_lss (r := true) rfl rfl (decide_eq_true (by omega))) rfl ?_
    refine EL.nil (EX.seq (EC.yes rfl (EC.seq (EC.region (EL.mv rfl rfl (EL.val (ln_130 rfl) rfl (EL.as rfl rfl (EL.as rfl rfl (EL.as rfl rfl ?_)))))))));refine EL.as rfl rfl (EL.nil (EX.seq (EC.ret (EX.seq_ret ?_))));have hcd : codeF ru tanks jobs = 7 := by unfold codeF depF; rw [if_pos hc, ← hb1, if_pos hlt]
    have hat : atF ru tanks jobs = lp.length := by unfold atF depF; rw [if_pos hc, ← hb1, if_pos hlt]
    exact EX.done (res4 rfl rfl rfl rfl rfl) ⟨⟨_, [], 0, fleet_e hat hcd, World.ownsRow_nil _ _ _ _, fun h => absurd h (by rw [hcd]; decide), fun _ => ⟨rfl, rfl⟩⟩, hbw⟩
   ·
    refine EL.val (x_lss (r := false) rfl rfl (decide_eq_false (by omega))) rfl ?_
    refine EL.nil (EX.seq (EC.no rfl (EC.skip (EX.seq (EC.seq (EC.region ?_))))));obtain ⟨nn, hnn⟩ : ∃ nn, lp.length = nn + 1 := ⟨lp.length - 1, by omega⟩
    have hlast := hb2 nn (by omega)
    rw [map_getD (d := pr0) (show nn < lp.length by omega), List.take_of_length_le (by rw [List.length_map]; omega)] at hlast
    have hmem : lp.getD nn pr0 ∈ lp := by rw [getD_in (show nn < lp.length by omega)]; exact List.getElem_mem _
    obtain ⟨⟨pb, Ab, cb⟩, epb⟩ : ∃ z, z = lp.getD nn pr0 := ⟨_, rfl⟩;rw [← epb] at hlast hmem
    dsimp only at hlast
    refine EL.mv rfl rfl (EL.mv rfl rfl (EL.val (ln_130 rfl) rfl ?_));refine EL.val (x_sub rfl rfl (c := ((nn : Nat) : Int)) ((IntWalk.i64_in _ ⟨by omega, by omega⟩).trans (by omega))) rfl ?_
    obtain ⟨bp, op, ep, _, c0, c1, c2⟩ := pls_cells lp nn (by omega) w7 w7.heap.size _ _ _ hP.rd
    rw [← epb] at c0 c1 c2
    dsimp only at c0 c1 c2
    cases ep
    have hst := hP.rows _ hmem
    dsimp only at hst
    refine EL.val (ix_130 rfl rfl (show nn < lp.length by omega)) rfl ?_
    refine EL.val (ld_134 rfl c0 c1 c2) rfl (EL.newP al_134 rfl ?_);intro g8 w8 q8 hb8 hg8 hl8;have n1_8 := q1.na hg8;have n3_8 := q3.na hg8;have n4_8 := q4.na hg8;have bhbw_8 := Nat.le_trans hbw.size hg8;replace q1 := q1.bl hb8;replace q3 := q3.bl hb8;replace q4 := q4.bl hb8;replace hst := own_below hst hb8 (Nat.le_refl _);replace hbw := bo_ hbw hb8;clear hb8 hg8 hl8;refine EL.store rfl rfl q8 sz_134 rfl rfl rfl rfl ?_;intro w9 hq9 hg9;replace q1 := q1.gr hg9 n1_8;replace q3 := q3.gr hg9 n3_8;replace q4 := q4.gr hg9 n4_8;replace hst := own_type hst q8 rfl hg9;replace hbw := below_store hbw hg9 bhbw_8;replace q8 := hq9;clear hg9 hq9;refine EL.nil (EX.seq (EC.seq ?_));have lt_1 := q1.lt;have lt_3 := q3.lt;have lt_4 := q4.lt;have lt_8 := q8.lt;refine EC.regionP [[], [0], [], [2], [0, 1], [0, 1, 2, 3, 4], [0, 1, 2, 3, 4, 5], [0, 1, 2, 3, 4, 5, 6]] 5 [] (phi (fun i_ r => match i_ with | 0 => r 0 = .pointer (some ⟨g8, 0, none⟩) | 1 => r 1 = .slice Ab pb.steps.length cb | 2 => r 2 = .pointer (some ⟨g8, 2, none⟩) | 3 => r 3 = .int .i64 pb.cost | 4 => r 4 = .slice Ab pb.steps.length cb | _ => True) []) (by kernel_rfl) rfl rfl (phi_nil) (fun i_ hi_ => ?_) ?_
    ·match i_, hi_ with
     | 0, _ =>
      intro val w1 a hb ha hd;have ha := ha.s0 (d := 13) rfl
      exact hs_val ha rfl rfl (fa_134_0 rfl) rfl rfl
     | 1, _ =>
      intro val w1 a hb ha hd;have e0 : val 0 = _ := hd 0 (memB_mem.1 rfl);have ha := ha.s1 (d := 49) rfl e0
      exact hs_val ha rfl rfl (ld_65 rfl ((q8.below hb q8.lt).at (j := 0) rfl)) rfl rfl
     | 2, _ =>
      intro val w1 a hb ha hd;have ha := ha.s0 (d := 13) rfl
      exact hs_val ha rfl rfl (fa_134_2 rfl) rfl rfl
     | 3, _ =>
      intro val w1 a hb ha hd;have e2 : val 2 = _ := hd 2 (memB_mem.1 rfl);have ha := ha.s1 (d := 51) rfl e2
      exact hs_val ha rfl rfl (ld_3 rfl ((q8.below hb q8.lt).at (j := 2) rfl)) rfl rfl
     | 4, _ =>
      intro val w1 a hb ha hd;have e1 : val 1 = _ := hd 1 (memB_mem.1 rfl);have ha := ha.s1 (d := 50) rfl e1
      exact hs_val ha rfl rfl (x_assign rfl) rfl rfl
     | k + 5, h => exact absurd h (by omega)
    ·intro val wR8 hb halc hd
     have e0 : val 0 = _ := hd 0 (by omega)
     have e1 : val 1 = _ := hd 1 (by omega)
     have e2 : val 2 = _ := hd 2 (by omega)
     have e3 : val 3 = _ := hd 3 (by omega)
     have e4 : val 4 = _ := hd 4 (by omega)
     refine EL.ends (cs := [_, _, _, _, _]) ⟨e0, e1, e2, e3, e4, trivial⟩ rfl ?_;replace q1 := q1.bl hb;replace q3 := q3.bl hb;replace q4 := q4.bl hb;replace q8 := q8.bl hb;replace hst := own_below hst hb (Nat.le_refl _);replace hbw := bo_ hbw hb;clear hb;refine EL.as rfl rfl (EL.as rfl rfl (EL.as rfl rfl (EL.nil (EX.seq (EC.ret ?_)))));have hcd : codeF ru tanks jobs = 0 := by unfold codeF depF; rw [if_pos hc, ← hb1, if_neg hlt]
     have hat : atF ru tanks jobs = 0 := by unfold atF depF; rw [if_pos hc, ← hb1, if_neg hlt]
     exact EX.done (res4 rfl rfl rfl rfl rfl) ⟨⟨_, pb.steps, pb.cost, fleet_e hat hcd, hst, fun _ => ⟨pb, hlast, rfl, rfl⟩, fun h => absurd hcd h⟩, hbw⟩
 ·
  refine EL.val (x_neq (r := true) rfl rfl (decide_eq_true hc)) rfl (EL.mv rfl rfl (EL.skip rfl rfl rfl rfl (EL.skip rfl rfl rfl rfl (EL.skip rfl rfl rfl rfl (EL.pt rfl rfl rfl (EL.nil (EX.seq (EC.yes rfl (EC.seq ?_)))))))));refine EC.region (EL.mv rfl rfl (EL.as rfl rfl (EL.as rfl rfl (EL.as rfl rfl (EL.as rfl rfl (EL.nil (EX.seq (EC.ret (EX.seq_ret ?_)))))))))
  exact EX.done (res4 rfl rfl rfl rfl rfl) ⟨⟨_, [], 0, fleet_e (by unfold atF; rw [if_neg hc]) (by unfold codeF; rw [if_neg hc]), World.ownsRow_nil _ _ _ _, fun h => absurd h (by unfold codeF; rw [if_neg hc]; exact hc), fun _ => ⟨rfl, rfl⟩⟩, hbw⟩
section
variable {n : Nat} {σ : Sg} {w : World} {dst : Option Tmp} {ty : TypeId} {pos : String} {af : Array Edge} {g : Option (Nat × Bool)} {x y z : Operand} {at' : Array TypeId}
theorem cF56 : cF 56 := fun _ _ => by simp [go_sem]
theorem cF66 : cF 66 := fun _ _ => by simp [go_sem]
theorem cF67 : cF 67 := fun _ _ => by simp [go_sem]
end
theorem in_to {n lo hi : Int} {b : Bool} (h : inB lo hi n = b) (w : World) : Calls Try.prog 56 #[.int .i64 n, .int .i64 lo, .int .i64 hi] w fun e w' => e = .returned (.bool b) ∧ Below w.heap.size w w' := by
 have hbw := Below.refl w.heap.size w;refine EC.enter 15 Try.func56 rfl rfl rfl (EC.seq (EC.region (EL.as rfl rfl (EL.nil (EX.seq (EC.seq (EC.region (EL.mv rfl rfl (EL.mv rfl rfl ?_)))))))))
 by_cases h1 : lo ≤ n
 ·
  refine EL.val (x_geq (r := true) rfl rfl (decide_eq_true (by omega))) rfl ?_
  refine EL.mv rfl rfl (EL.mg rfl rfl rfl rfl (EL.mg rfl rfl rfl rfl ?_))
  by_cases h2 : n ≤ hi
  ·
   refine EL.valg rfl rfl (x_leq (r := true) rfl rfl (decide_eq_true (by omega))) rfl ?_
   refine EL.pt rfl rfl rfl (EL.as rfl rfl (EL.nil (EX.seq (EC.ret ?_))))
   exact EX.done (res1 rfl rfl) ⟨by rw [← h]; rw [inB_iff.2 ⟨h1, h2⟩], hbw⟩
  ·
   refine EL.valg rfl rfl (x_leq (r := false) rfl rfl (decide_eq_false (by omega))) rfl ?_
   refine EL.pt rfl rfl rfl (EL.as rfl rfl (EL.nil (EX.seq (EC.ret ?_))))
   exact EX.done (res1 rfl rfl) ⟨by rw [← h]; rw [show inB lo hi n = false from Bool.eq_false_iff.2 (fun h => by rw [inB_iff] at h; omega)], hbw⟩
 ·
  refine EL.val (x_geq (r := false) rfl rfl (decide_eq_false (by omega))) rfl ?_
  refine EL.mv rfl rfl (EL.skip rfl rfl rfl rfl (EL.skip rfl rfl rfl rfl (EL.skip rfl rfl rfl rfl (EL.pf rfl rfl rfl (EL.as rfl rfl (EL.nil (EX.seq (EC.ret ?_))))))))
  exact EX.done (res1 rfl rfl) ⟨by rw [← h]; rw [show inB lo hi n = false from Bool.eq_false_iff.2 (fun h => by rw [inB_iff] at h; omega)], hbw⟩
theorem bounds_to {x : Bd} {b : Bool} (h : bdB x = b) (w : World) : Calls Try.prog 66 #[.agg #[.int .i64 x.lo, .int .i64 x.hi], .int .i64 1000000] w fun e w' => e = .returned (.bool b) ∧ Below w.heap.size w w' := by
 have hbw := Below.refl w.heap.size w;refine EC.enter 21 Try.func66 rfl rfl rfl (EC.seq (EC.region (EL.newP (bx_24 rfl) rfl ?_)));intro g1 w1 q1 hb1 hg1 hl1;have bhbw_1 := Nat.le_trans hbw.size hg1;replace hbw := bo_ hbw hb1;clear hb1 hg1 hl1;refine EL.as rfl rfl (EL.nil (EX.seq (EC.seq (EC.region (EL.val (fa_24_0 rfl) rfl (EL.val (ld_3 rfl (q1.at (j := 0) rfl)) rfl ?_))))))
 by_cases h1 : 0 ≤ x.lo
 ·
  refine EL.val (x_geq (r := true) rfl rfl (decide_eq_true (by omega))) rfl ?_
  refine EL.mv rfl rfl (EL.valg rfl rfl (fa_24_0 rfl) rfl (EL.valg rfl rfl (ld_3 rfl (q1.at (j := 0) rfl)) rfl (EL.valg rfl rfl (fa_24_1 rfl) rfl (EL.valg rfl rfl (ld_3 rfl (q1.at (j := 1) rfl)) rfl ?_))))
  by_cases h2 : x.lo ≤ x.hi
  ·
   refine EL.valg rfl rfl (x_leq (r := true) rfl rfl (decide_eq_true (by omega))) rfl ?_
   refine EL.pt rfl rfl rfl (EL.mv rfl rfl (EL.valg rfl rfl (fa_24_1 rfl) rfl (EL.valg rfl rfl (ld_3 rfl (q1.at (j := 1) rfl)) rfl (EL.mg rfl rfl rfl rfl ?_))))
   by_cases h3 : x.hi ≤ 1000000
   ·
    refine EL.valg rfl rfl (x_leq (r := true) rfl rfl (decide_eq_true (by omega))) rfl ?_
    refine EL.pt rfl rfl rfl (EL.as rfl rfl (EL.nil (EX.seq (EC.ret ?_))))
    exact EX.done (res1 rfl rfl) ⟨by rw [← h]; rw [bdB_iff.2 ⟨h1, h2, h3⟩], hbw⟩
   ·
    refine EL.valg rfl rfl (x_leq (r := false) rfl rfl (decide_eq_false (by omega))) rfl ?_
    refine EL.pt rfl rfl rfl (EL.as rfl rfl (EL.nil (EX.seq (EC.ret ?_))))
    exact EX.done (res1 rfl rfl) ⟨by rw [← h]; rw [show bdB x = false from Bool.eq_false_iff.2 (fun h => by rw [bdB_iff] at h; omega)], hbw⟩
  ·
   refine EL.valg rfl rfl (x_leq (r := false) rfl rfl (decide_eq_false (by omega))) rfl ?_
   refine EL.pt rfl rfl rfl (EL.mv rfl rfl (EL.skip rfl rfl rfl rfl (EL.skip rfl rfl rfl rfl (EL.skip rfl rfl rfl rfl (EL.skip rfl rfl rfl rfl (EL.pf rfl rfl rfl (EL.as rfl rfl (EL.nil (EX.seq ?_)))))))));refine EC.ret ?_
   exact EX.done (res1 rfl rfl) ⟨by rw [← h]; rw [show bdB x = false from Bool.eq_false_iff.2 (fun h => by rw [bdB_iff] at h; omega)], hbw⟩
 ·
  refine EL.val (x_geq (r := false) rfl rfl (decide_eq_false (by omega))) rfl ?_
  refine EL.mv rfl rfl (EL.skip rfl rfl rfl rfl (EL.skip rfl rfl rfl rfl (EL.skip rfl rfl rfl rfl (EL.skip rfl rfl rfl rfl (EL.skip rfl rfl rfl rfl (EL.pf rfl rfl rfl (EL.mv rfl rfl (EL.skip rfl rfl rfl rfl (EL.skip rfl rfl rfl rfl ?_)))))))));refine EL.skip rfl rfl rfl rfl (EL.skip rfl rfl rfl rfl (EL.pf rfl rfl rfl (EL.as rfl rfl (EL.nil (EX.seq (EC.ret ?_))))))
  exact EX.done (res1 rfl rfl) ⟨by rw [← h]; rw [show bdB x = false from Bool.eq_false_iff.2 (fun h => by rw [bdB_iff] at h; omega)], hbw⟩
section
variable {tt : List (List Int)} {n : Nat} {m : Int}
theorem sq_no1 (h : tt.length ≠ n) : sqB tt n m = false := by unfold sqB; simp [h]
theorem sq_no2 {i : Nat} (hi : i < n) (h : (tt.getD i []).length ≠ n) : sqB tt n m = false := Bool.eq_false_iff.2 fun e => by
 unfold sqB at e
 rw [Bool.and_eq_true, decide_eq_true_eq] at e;have := List.all_eq_true.1 e.2 (tt.getD i []) (by rw [getD_in (by omega)]; exact List.getElem_mem _)
 rw [Bool.and_eq_true, decide_eq_true_eq] at this
 exact h this.1
theorem sq_no3 {i k : Nat} (hi : i < n) (hk : k < n) (h : inB 0 m ((tt.getD i []).getD k 0) = false) : sqB tt n m = false := Bool.eq_false_iff.2 fun e => by
 unfold sqB at e
 rw [Bool.and_eq_true, decide_eq_true_eq] at e;have := List.all_eq_true.1 e.2 (tt.getD i []) (by rw [getD_in (by omega)]; exact List.getElem_mem _)
 rw [Bool.and_eq_true, decide_eq_true_eq] at this;have h2 := List.all_eq_true.1 this.2 ((tt.getD i []).getD k 0) (by rw [getD_in (show k < (tt.getD i []).length by omega)]; exact List.getElem_mem _)
 rw [h] at h2
 cases h2
theorem sq_row {row : List Int} (hr : row.length = n) (h : ∀ k, k < n → inB 0 m (row.getD k 0) = true) : row.all (inB 0 m) = true := List.all_eq_true.2 fun x hx => by
 obtain ⟨k, hk, rfl⟩ := List.getElem_of_mem hx;have := h k (by omega)
 rwa [getD_in hk] at this
theorem sq_yes (hn : tt.length = n) (h : ∀ i, i < n → (tt.getD i []).length = n ∧ (tt.getD i []).all (inB 0 m) = true) : sqB tt n m = true := by
 unfold sqB
 rw [Bool.and_eq_true, decide_eq_true_eq];refine ⟨hn, List.all_eq_true.2 fun x hx => ?_⟩
 obtain ⟨i, hi, rfl⟩ := List.getElem_of_mem hx;have := h i (by omega)
 rw [getD_in hi] at this;rw [this.2, this.1, Bool.and_true]
 exact decide_eq_true rfl
end
theorem square_to {tt : List (List Int)} {n : Nat} {m : Int} {b : Bool} (h : sqB tt n m = b) {vt : Value} {ut : List Value} {w : World} {B : Nat} (ht : RdLL iC 1 w B vt tt ut) (hB : B ≤ w.heap.size) (htn : tt.length ≤ 1048576) (hnn : n ≤ 1048576) :
  Calls Try.prog 67 #[vt, .int .i64 (n : Nat), .int .i64 m] w fun e w' => e = .returned (.bool b) ∧ Below w.heap.size w w' := by
 obtain ⟨At, ct, rfl, _⟩ := ht.rd.shape;have hbw := Below.refl w.heap.size w;refine EC.enter 40 Try.func67 rfl rfl rfl (EC.seq (EC.region (EL.as rfl rfl (EL.nil (EX.seq (EC.seq (EC.seq (EC.region (EL.mv rfl rfl ?_)))))))));refine EL.val (ln_25 rfl) rfl (EL.mv rfl rfl ?_)
 by_cases hn : tt.length = n
 ·
  refine EL.val (x_neq (r := false) rfl rfl (decide_eq_false (by omega))) rfl ?_
  refine EL.nil (EX.seq (EC.no rfl (EC.skip (EX.seq (EC.seq (EC.seq (EC.region (EL.as rfl rfl (EL.nil ?_)))))))));refine EX.seq (EC.block ?_);refine EC.loopD [6, 7, 8, 13, 14, 15, 16, 17, 18, 19, 20, 21, 22, 23, 24, 25, 26, 27, 28, 29, 30, 31, 32, 33, 34, 35, 36, 37, 38, 39] (fun x : Nat => [(7, .int .i64 (x : Nat))]) (fun x W => x ≤ n ∧ (∀ i, i < x → (tt.getD i []).length = n ∧ (tt.getD i []).all (inB 0 m) = true) ∧ Below w.heap.size w W) (fun x => n - x) 0 ⟨Nat.zero_le _, fun i hi => absurd hi (by omega), hbw⟩ ⟨rfl, trivial⟩ ?_
  clear hbw
  rintro i wx ⟨hi, hall, hbw⟩
  by_cases hlt : i < n
  ·
   have hlt_ : i < tt.length := by omega
   obtain ⟨bt, ot, et, _, htc⟩ := vals_cells ut i (by rw [ht.len]; exact hlt_) wx B _ _ _ (ht.rd.below (hbw.mono hB))
   cases et
   have hrr := (ht.row i hlt_);rw [← ints_flat] at hrr;obtain ⟨Ai, ci, ei, _⟩ := hrr.shape;rw [ei] at htc hrr;refine EC.seq (EC.seq (EC.region (EL.mv rfl rfl (EL.mv rfl rfl ?_))));refine EL.val (x_lss rfl rfl (decide_eq_true (show (((i : Nat) : Int) < ((n : Nat) : Int)) by omega))) rfl ?_
   refine EL.nil (EX.seq (EC.yes rfl (EC.skip (EX.seq (EC.seq (EC.block (EC.seq (EC.seq (EC.region ?_)))))))));refine EL.mv rfl rfl (EL.mv rfl rfl (EL.val (ix_25 rfl rfl hlt_) rfl (EL.val (ld_22 rfl htc) rfl (EL.val (ln_22 rfl) rfl (EL.mv rfl rfl ?_)))))
   by_cases hrow : (tt.getD i []).length = n
   ·
    refine EL.val (x_neq (r := false) rfl rfl (decide_eq_false (by omega))) rfl ?_
    refine EL.nil (EX.seq (EC.no rfl (EC.skip (EX.seq (EC.seq (EC.region (EL.as rfl rfl (EL.nil (EX.seq ?_)))))))));refine EC.block ?_;refine EC.loopD [6, 8, 25, 26, 27, 28, 29, 30, 31, 32, 33, 34, 35, 36, 37, 38, 39] (fun x : Nat => [(8, .int .i64 (x : Nat))]) (fun x W => x ≤ n ∧ (∀ k, k < x → inB 0 m ((tt.getD i []).getD k 0) = true) ∧ Below w.heap.size w W) (fun x => n - x) 0 ⟨Nat.zero_le _, fun k hk => absurd hk (by omega), hbw⟩ ⟨rfl, trivial⟩ ?_
    clear hbw htc
    rintro k wk ⟨hk, hall2, hbw⟩
    by_cases hlt2 : k < n
    ·
     obtain ⟨bt2, ot2, et2, _, htc⟩ := vals_cells ut i (by rw [ht.len]; exact hlt_) wk B _ _ _ (ht.rd.below (hbw.mono hB))
     cases et2
     rw [ei] at htc;obtain ⟨bi, oi, ebi, _, hc0⟩ := ints_cells (tt.getD i []) k (by omega) wk B _ _ _ (hrr.below (hbw.mono hB))
     cases ebi
     refine EC.seq (EC.seq (EC.region (EL.mv rfl rfl (EL.mv rfl rfl ?_))));refine EL.val (x_lss rfl rfl (decide_eq_true (show (((k : Nat) : Int) < ((n : Nat) : Int)) by omega))) rfl ?_
     refine EL.nil (EX.seq (EC.yes rfl (EC.skip (EX.seq (EC.seq (EC.block (EC.seq (EC.region (EL.mv rfl rfl ?_)))))))));refine EL.mv rfl rfl (EL.val (ix_25 rfl rfl hlt_) rfl (EL.val (ld_22 rfl htc) rfl (EL.mv rfl rfl ?_)));refine EL.val (ix_22 rfl rfl (show k < (tt.getD i []).length by omega)) rfl ?_
     refine EL.val (ld_3 rfl hc0) rfl (EL.mv rfl rfl ?_)
     cases hin : inB 0 m ((tt.getD i []).getD k 0)
     ·
      refine EL.call (cA3 cF56 rfl rfl rfl) rfl (in_to hin _) ?_
      rintro e w1 ⟨rfl, hc1⟩
      refine ⟨_, rfl, ?_⟩;replace hbw := bo_ hbw hc1;clear hc1;refine EL.val (x_not rfl) rfl (EL.nil (EX.seq (EC.yes rfl (EC.seq (EC.region (EL.as rfl rfl (EL.nil (EX.seq (EC.ret ?_)))))))));refine EX.blk_ret (EX.seq_ret (EX.seq_ret (EX.blk_ret (EX.blk_ret (EX.seq_ret (EX.seq_ret (EX.blk_ret (EX.seq_ret ?_))))))))
      exact EX.done (res1 rfl rfl) ⟨by rw [← h, sq_no3 hlt hlt2 hin], hbw⟩
     ·
      refine EL.call (cA3 cF56 rfl rfl rfl) rfl (in_to hin _) ?_
      rintro e w2 ⟨rfl, hc2⟩
      refine ⟨_, rfl, ?_⟩;replace hbw := bo_ hbw hc2;clear hc2;refine EL.val (x_not rfl) rfl (EL.nil (EX.seq (EC.no rfl (EC.skip (EX.blk (EX.seq (EC.region (EL.mv rfl rfl ?_))))))));refine EL.val (x_add rfl rfl (c := ((k + 1 : Nat) : Int)) ((IntWalk.i64_in _ ⟨by first | omega | (simp only; omega), by first | omega | (simp only; omega)⟩).trans (by first | omega | (simp only; omega)))) rfl ?_
      refine EL.as rfl rfl (EL.nil ?_);refine EX.roundD (k + 1) ⟨rfl, trivial⟩ (by repeat first | with_reducible exact .refl _ | refine sp_ rfl ?_ | exact .refl _ | refine sd_ rfl ?_ | refine sn_ ?_) ⟨hlt2, (fun j hj => by rcases Nat.lt_or_ge j k with h0 | h0; exact hall2 j h0; rw [show j = k by omega]; exact hin), hbw⟩ (by omega)
    ·
     have hkn : k = n := by omega
     have hal : (tt.getD i []).all (inB 0 m) = true := sq_row hrow (hkn ▸ hall2);refine EC.seq (EC.seq (EC.region (EL.mv rfl rfl (EL.mv rfl rfl ?_))));refine EL.val (x_lss rfl rfl (decide_eq_false (show ¬(((k : Nat) : Int) < ((n : Nat) : Int)) by omega))) rfl ?_
     refine EL.nil (EX.seq (EC.no rfl (EC.exit (EX.seq_exit (EX.seq_exit (EX.blk_here (EX.blk (EX.seq (EC.region ?_)))))))));refine EL.mv rfl rfl ?_;refine EL.val (x_add rfl rfl (c := ((i + 1 : Nat) : Int)) ((IntWalk.i64_in _ ⟨by first | omega | (simp only; omega), by first | omega | (simp only; omega)⟩).trans (by first | omega | (simp only; omega)))) rfl ?_
     refine EL.as rfl rfl (EL.nil ?_);refine EX.roundD (i + 1) ⟨rfl, trivial⟩ (by repeat first | with_reducible exact .refl _ | refine sp_ rfl ?_ | exact .refl _ | refine sd_ rfl ?_ | refine sn_ ?_) ⟨hlt, (fun j hj => by rcases Nat.lt_or_ge j i with h0 | h0; exact hall j h0; rw [show j = i by omega]; exact ⟨hrow, hal⟩), hbw⟩ (by omega)
   ·
    refine EL.val (x_neq (r := true) rfl rfl (decide_eq_true (by omega))) rfl ?_
    refine EL.nil (EX.seq (EC.yes rfl (EC.seq (EC.region (EL.as rfl rfl (EL.nil (EX.seq (EC.ret (EX.seq_ret ?_)))))))));refine EX.blk_ret (EX.seq_ret (EX.seq_ret (EX.blk_ret (EX.seq_ret ?_))))
    exact EX.done (res1 rfl rfl) ⟨by rw [← h, sq_no2 hlt hrow], hbw⟩
  ·
   obtain rfl : i = n := by omega
   refine EC.seq (EC.seq (EC.region (EL.mv rfl rfl (EL.mv rfl rfl ?_))));refine EL.val (x_lss rfl rfl (decide_eq_false (show ¬(((i : Nat) : Int) < ((i : Nat) : Int)) by omega))) rfl ?_
   refine EL.nil (EX.seq (EC.no rfl (EC.exit (EX.seq_exit (EX.seq_exit (EX.blk_here (EX.seq (EC.seq (EC.region ?_)))))))));refine EL.as rfl rfl (EL.nil (EX.seq (EC.ret ?_)))
   exact EX.done (res1 rfl rfl) ⟨by rw [← h, sq_yes hn hall], hbw⟩
 ·
  refine EL.val (x_neq (r := true) rfl rfl (decide_eq_true (by omega))) rfl ?_
  refine EL.nil (EX.seq (EC.yes rfl (EC.seq (EC.region (EL.as rfl rfl (EL.nil (EX.seq (EC.ret (EX.seq_ret ?_)))))))))
  exact EX.done (res1 rfl rfl) ⟨by rw [← h, sq_no1 hn], hbw⟩
theorem all_idx {α : Type} {l : List α} {p : α → Bool} {d : α} (h : ∀ i, i < l.length → p (l.getD i d) = true) : l.all p = true := List.all_eq_true.2 fun x hx => by
 obtain ⟨k, hk, rfl⟩ := List.getElem_of_mem hx;have := h k hk
 rwa [getD_in hk] at this
theorem rules_lev {ru : Rules} (h : rulesB ru = true) (i : Nat) (hi : i < ru.levels.length) : inB 0 1000000 (ru.levels.getD i 0) = true := by
 unfold rulesB at h
 simp only [Bool.and_eq_true] at h
 exact List.all_eq_true.1 h.2.1 _ (by rw [getD_in hi]; exact List.getElem_mem _)
theorem rules_kd {ru : Rules} (h : rulesB ru = true) (i : Nat) (hi : i < ru.kinds.length) : kdB (ru.kinds.getD i kd0) = true := by
 unfold rulesB at h
 simp only [Bool.and_eq_true] at h
 exact List.all_eq_true.1 h.2.2.2.2.2.2 _ (by rw [getD_in hi]; exact List.getElem_mem _)
set_option maxHeartbeats 1000000 in
theorem Rules_to {ru : Rules} {ua up : List Value} {vl va vp vk : Value} {w : World} {B : Nat} (hr : RdRules w B vl va vp vk ru ua up) (hB : B ≤ w.heap.size) (hs : Short ru) {b : Bool} (h : rulesB ru = b) :
  Calls Try.prog 35 #[rulesV vl va vp vk ru] w fun e w' => e = .returned (.bool b) ∧ Below w.heap.size w w' := by
 have hs_ := hs;obtain ⟨Al, cl, Aa, ca, Ap, cp, Ak, ck, rfl, rfl, rfl, rfl⟩ := hr.sh4;obtain ⟨z1, z2, z3, z4⟩ := hs_;have hbw := Below.refl w.heap.size w
 unfold rulesV
 refine EC.enter 85 Try.func35 rfl rfl rfl (EC.seq (EC.region (EL.newP (bx_28 rfl) rfl ?_)));intro g1 w1 q1 hb1 hg1 hl1;have bhbw_1 := Nat.le_trans hbw.size hg1;replace hbw := bo_ hbw hb1;clear hb1 hg1 hl1;refine EL.as rfl rfl (EL.nil (EX.seq (EC.seq (EC.region (EL.val (fa_28_0 rfl) rfl (EL.val (ld_22 rfl (q1.at (j := 0) rfl)) rfl (EL.val (ln_22 rfl) rfl (EL.as rfl rfl (EL.nil ?_)))))))));refine EX.seq (EC.seq (EC.seq (EC.region (EL.mv rfl rfl ?_))))
 cases gg1 : inB 1 8 (ru.levels.length : Nat)
 ·
  refine EL.call (cA3 cF56 rfl rfl rfl) rfl (in_to gg1 _) ?_
  rintro e w2 ⟨rfl, hc2⟩
  refine ⟨_, rfl, ?_⟩;replace q1 := q1.bl hc2;replace hbw := bo_ hbw hc2;clear hc2;refine EL.val (x_not rfl) rfl (EL.mv rfl rfl (EL.skip rfl rfl rfl rfl (EL.skip rfl rfl rfl rfl (EL.skip rfl rfl rfl rfl (EL.skip rfl rfl rfl rfl (EL.pt rfl rfl rfl (EL.mv rfl rfl (EL.skip rfl rfl rfl rfl (EL.skip rfl rfl rfl rfl ?_)))))))));refine EL.skip rfl rfl rfl rfl (EL.skip rfl rfl rfl rfl (EL.pt rfl rfl rfl (EL.mv rfl rfl (EL.skip rfl rfl rfl rfl (EL.skip rfl rfl rfl rfl (EL.skip rfl rfl rfl rfl (EL.skip rfl rfl rfl rfl (EL.skip rfl rfl rfl rfl (EL.pt rfl rfl rfl ?_)))))))));refine EL.mv rfl rfl (EL.skip rfl rfl rfl rfl (EL.skip rfl rfl rfl rfl (EL.skip rfl rfl rfl rfl (EL.skip rfl rfl rfl rfl (EL.skip rfl rfl rfl rfl (EL.pt rfl rfl rfl (EL.nil (EX.seq (EC.yes rfl ?_)))))))));refine EC.seq (EC.region (EL.as rfl rfl (EL.nil (EX.seq (EC.ret (EX.seq_ret ?_))))));have hres : rulesB ru = false := by unfold rulesB; rw [gg1]; rfl
  exact EX.done (res1 rfl rfl) ⟨by rw [← h, hres], hbw⟩
 ·
  refine EL.call (cA3 cF56 rfl rfl rfl) rfl (in_to gg1 _) ?_
  rintro e w3 ⟨rfl, hc3⟩
  refine ⟨_, rfl, ?_⟩;replace q1 := q1.bl hc3;replace hbw := bo_ hbw hc3;clear hc3;refine EL.val (x_not rfl) rfl (EL.mv rfl rfl (EL.valg rfl rfl (fa_28_4 rfl) rfl (EL.valg rfl rfl (ld_26 rfl (q1.at (j := 5) rfl)) rfl (EL.valg rfl rfl (ln_26 rfl) rfl ?_))))
  by_cases gg2 : ru.kinds.length ≤ 4
  ·
   refine EL.valg rfl rfl (x_gtr (r := false) rfl rfl (decide_eq_false (by omega))) rfl ?_
   refine EL.pf rfl rfl rfl (EL.mv rfl rfl (EL.valg rfl rfl (fa_28_1 rfl) rfl (EL.valg rfl rfl (ld_24 rfl (q1.at (j := 1) rfl) (q1.at (j := 2) rfl)) rfl ?_)))
   cases gg3 : bdB ru.fade
   ·
    refine EL.callg rfl rfl (cA2 cF66 rfl rfl) rfl (bounds_to gg3 _) ?_
    rintro e w4 ⟨rfl, hc4⟩
    refine ⟨_, rfl, ?_⟩;replace q1 := q1.bl hc4;replace hbw := bo_ hbw hc4;clear hc4;refine EL.valg rfl rfl (x_not rfl) rfl (EL.pf rfl rfl rfl (EL.mv rfl rfl (EL.skip rfl rfl rfl rfl (EL.skip rfl rfl rfl rfl (EL.skip rfl rfl rfl rfl (EL.skip rfl rfl rfl rfl (EL.skip rfl rfl rfl rfl (EL.pt rfl rfl rfl (EL.mv rfl rfl ?_)))))))));refine EL.skip rfl rfl rfl rfl (EL.skip rfl rfl rfl rfl (EL.skip rfl rfl rfl rfl (EL.skip rfl rfl rfl rfl (EL.skip rfl rfl rfl rfl (EL.pt rfl rfl rfl (EL.nil (EX.seq (EC.yes rfl (EC.seq ?_)))))))));refine EC.region (EL.as rfl rfl (EL.nil (EX.seq (EC.ret (EX.seq_ret ?_)))));have hres : rulesB ru = false := by unfold rulesB; simp [gg3]
    exact EX.done (res1 rfl rfl) ⟨by rw [← h, hres], hbw⟩
   ·
    refine EL.callg rfl rfl (cA2 cF66 rfl rfl) rfl (bounds_to gg3 _) ?_
    rintro e w5 ⟨rfl, hc5⟩
    refine ⟨_, rfl, ?_⟩;replace q1 := q1.bl hc5;replace hbw := bo_ hbw hc5;clear hc5;refine EL.valg rfl rfl (x_not rfl) rfl (EL.pf rfl rfl rfl (EL.mv rfl rfl (EL.valg rfl rfl (fa_28_2 rfl) rfl (EL.valg rfl rfl (ld_25 rfl (q1.at (j := 3) rfl)) rfl (EL.mg rfl rfl rfl rfl ?_)))))
    cases gg4 : sqB ru.allow ru.levels.length 1000000
    ·
     refine EL.callg rfl rfl (cA3 cF67 rfl rfl rfl) rfl (square_to gg4 (hr.below (hbw.mono hB)).allow (Nat.le_trans hB hbw.size) hs.a hs.n) ?_
     rintro e w6 ⟨rfl, hc6⟩
     refine ⟨_, rfl, ?_⟩;replace q1 := q1.bl hc6;replace hbw := bo_ hbw hc6;clear hc6;refine EL.valg rfl rfl (x_not rfl) rfl (EL.pf rfl rfl rfl (EL.mv rfl rfl (EL.skip rfl rfl rfl rfl (EL.skip rfl rfl rfl rfl (EL.skip rfl rfl rfl rfl (EL.skip rfl rfl rfl rfl (EL.skip rfl rfl rfl rfl (EL.pt rfl rfl rfl (EL.nil ?_)))))))));refine EX.seq (EC.yes rfl (EC.seq (EC.region (EL.as rfl rfl (EL.nil (EX.seq (EC.ret (EX.seq_ret ?_))))))));have hres : rulesB ru = false := by unfold rulesB; simp [gg4]
     exact EX.done (res1 rfl rfl) ⟨by rw [← h, hres], hbw⟩
    ·
     refine EL.callg rfl rfl (cA3 cF67 rfl rfl rfl) rfl (square_to gg4 (hr.below (hbw.mono hB)).allow (Nat.le_trans hB hbw.size) hs.a hs.n) ?_
     rintro e w7 ⟨rfl, hc7⟩
     refine ⟨_, rfl, ?_⟩;replace q1 := q1.bl hc7;replace hbw := bo_ hbw hc7;clear hc7;refine EL.valg rfl rfl (x_not rfl) rfl (EL.pf rfl rfl rfl (EL.mv rfl rfl (EL.valg rfl rfl (fa_28_3 rfl) rfl (EL.valg rfl rfl (ld_25 rfl (q1.at (j := 4) rfl)) rfl (EL.mg rfl rfl rfl rfl ?_)))))
     cases gg5 : sqB ru.apart ru.levels.length 10
     ·
      refine EL.callg rfl rfl (cA3 cF67 rfl rfl rfl) rfl (square_to gg5 (hr.below (hbw.mono hB)).apart (Nat.le_trans hB hbw.size) hs.p hs.n) ?_
      rintro e w8 ⟨rfl, hc8⟩
      refine ⟨_, rfl, ?_⟩;replace q1 := q1.bl hc8;replace hbw := bo_ hbw hc8;clear hc8;refine EL.valg rfl rfl (x_not rfl) rfl (EL.pf rfl rfl rfl (EL.nil (EX.seq (EC.yes rfl (EC.seq (EC.region (EL.as rfl rfl (EL.nil (EX.seq ?_)))))))));refine EC.ret (EX.seq_ret ?_);have hres : rulesB ru = false := by unfold rulesB; simp [gg5]
      exact EX.done (res1 rfl rfl) ⟨by rw [← h, hres], hbw⟩
     ·
      refine EL.callg rfl rfl (cA3 cF67 rfl rfl rfl) rfl (square_to gg5 (hr.below (hbw.mono hB)).apart (Nat.le_trans hB hbw.size) hs.p hs.n) ?_
      rintro e w9 ⟨rfl, hc9⟩
      refine ⟨_, rfl, ?_⟩;replace q1 := q1.bl hc9;replace hbw := bo_ hbw hc9;clear hc9;refine EL.valg rfl rfl (x_not rfl) rfl (EL.pf rfl rfl rfl (EL.nil (EX.seq (EC.no rfl (EC.skip (EX.seq (EC.seq (EC.seq (EC.region ?_)))))))));refine EL.as rfl rfl (EL.nil (EX.seq (EC.block ?_)));refine EC.loopD [2, 4, 39, 40, 41, 42, 43, 44, 45, 46, 47, 48, 49, 50] (fun x : Nat => [(4, .int .i64 (x : Nat))]) (fun x W => x ≤ ru.levels.length ∧ (∀ i, i < x → inB 0 1000000 (ru.levels.getD i 0) = true) ∧ Blk W g1 28 #[.slice Al ru.levels.length cl, .int .i64 ru.fade.lo, .int .i64 ru.fade.hi, .slice Aa ru.allow.length ca, .slice Ap ru.apart.length cp, .slice Ak ru.kinds.length ck] ∧ Below w.heap.size w W) (fun x => ru.levels.length - x) 0 ⟨Nat.zero_le _, fun i hi => absurd hi (by omega), q1, hbw⟩ ⟨rfl, trivial⟩ ?_
      clear q1 hbw
      rintro i wx ⟨hi, hall, q1, hbw⟩
      by_cases hlt : i < ru.levels.length
      ·
       obtain ⟨bl, ol, el, _, hc0⟩ := ints_cells ru.levels i hlt wx B _ _ _ (hr.below (hbw.mono hB)).levels;refine EC.seq (EC.seq (EC.region (EL.mv rfl rfl (EL.mv rfl rfl ?_))));refine EL.val (x_lss rfl rfl (decide_eq_true (show (((i : Nat) : Int) < ((ru.levels.length : Nat) : Int)) by omega))) rfl ?_
       refine EL.nil (EX.seq (EC.yes rfl (EC.skip (EX.seq (EC.seq (EC.block (EC.seq (EC.region (EL.val (fa_28_0 rfl) rfl ?_)))))))));refine EL.val (ld_22 rfl (q1.at (j := 0) rfl)) rfl (EL.mv rfl rfl ?_);refine EL.val (ix_22 (by show some (Value.slice Al _ _) = _; rw [el]) rfl hlt) rfl ?_
       refine EL.val (ld_3 rfl hc0) rfl ?_
       cases hin : inB 0 1000000 (ru.levels.getD i 0)
       ·
        refine EL.call (cA3 cF56 rfl rfl rfl) rfl (in_to hin _) ?_
        rintro e w10 ⟨rfl, hc10⟩
        refine ⟨_, rfl, ?_⟩;replace q1 := q1.bl hc10;replace hbw := bo_ hbw hc10;clear hc10;refine EL.val (x_not rfl) rfl (EL.nil (EX.seq (EC.yes rfl (EC.seq (EC.region (EL.as rfl rfl (EL.nil (EX.seq (EC.ret ?_)))))))));refine EX.blk_ret (EX.seq_ret (EX.seq_ret (EX.blk_ret (EX.seq_ret ?_))));have hres : rulesB ru = false := by exact Bool.eq_false_iff.2 fun e => by have := rules_lev e i hlt; rw [hin] at this; cases this
        exact EX.done (res1 rfl rfl) ⟨by rw [← h, hres], hbw⟩
       ·
        refine EL.call (cA3 cF56 rfl rfl rfl) rfl (in_to hin _) ?_
        rintro e w11 ⟨rfl, hc11⟩
        refine ⟨_, rfl, ?_⟩;replace q1 := q1.bl hc11;replace hbw := bo_ hbw hc11;clear hc11;refine EL.val (x_not rfl) rfl (EL.nil (EX.seq (EC.no rfl (EC.skip (EX.blk (EX.seq (EC.region (EL.mv rfl rfl ?_))))))));refine EL.val (x_add rfl rfl (c := ((i + 1 : Nat) : Int)) ((IntWalk.i64_in _ ⟨by first | omega | (simp only; omega), by first | omega | (simp only; omega)⟩).trans (by first | omega | (simp only; omega)))) rfl ?_
        refine EL.as rfl rfl (EL.nil ?_);refine EX.roundD (i + 1) ⟨rfl, trivial⟩ (by repeat first | with_reducible exact .refl _ | refine sp_ rfl ?_ | exact .refl _ | refine sd_ rfl ?_ | refine sn_ ?_) ⟨hlt, (fun j hj => by rcases Nat.lt_or_ge j i with h0 | h0; exact hall j h0; rw [show j = i by omega]; exact hin), q1, hbw⟩ (by omega)
      ·
       have hxe : i = ru.levels.length := by omega
       have gg6 : ru.levels.all (inB 0 1000000) = true := sq_row rfl (hxe ▸ hall);refine EC.seq (EC.seq (EC.region (EL.mv rfl rfl (EL.mv rfl rfl ?_))));refine EL.val (x_lss rfl rfl (decide_eq_false (show ¬(((i : Nat) : Int) < ((ru.levels.length : Nat) : Int)) by omega))) rfl ?_
       refine EL.nil (EX.seq (EC.no rfl (EC.exit (EX.seq_exit (EX.seq_exit (EX.blk_here (EX.seq (EC.seq (EC.seq ?_)))))))));refine EC.region (EL.as rfl rfl (EL.nil (EX.seq (EC.block ?_))));refine EC.loopD [2, 5, 6, 51, 52, 53, 54, 55, 56, 57, 58, 59, 60, 61, 62, 63, 64, 65, 66, 67, 68, 69, 70, 71, 72, 73, 74, 75, 76, 77, 78, 79, 80, 81, 82, 83, 84] (fun x : Nat => [(5, .int .i64 (x : Nat))]) (fun x W => x ≤ ru.kinds.length ∧ (∀ i, i < x → kdB (ru.kinds.getD i kd0) = true) ∧ Blk W g1 28 #[.slice Al ru.levels.length cl, .int .i64 ru.fade.lo, .int .i64 ru.fade.hi, .slice Aa ru.allow.length ca, .slice Ap ru.apart.length cp, .slice Ak ru.kinds.length ck] ∧ Below w.heap.size w W) (fun x => ru.kinds.length - x) 0 ⟨Nat.zero_le _, fun i hi => absurd hi (by omega), q1, hbw⟩ ⟨rfl, trivial⟩ ?_
       clear q1 hbw
       rintro k wk ⟨hk, hallk, q1, hbw⟩
       by_cases hltk : k < ru.kinds.length
       ·
        obtain ⟨bk, ok, ek, _, hkd⟩ := kds_cells ru.kinds k hltk wk B _ _ _ (hr.below (hbw.mono hB)).kinds;obtain ⟨kd, ekd⟩ : ∃ z, z = ru.kinds.getD k kd0 := ⟨_, rfl⟩;rw [← ekd] at hkd;refine EC.seq (EC.seq (EC.region (EL.mv rfl rfl (EL.val (fa_28_4 rfl) rfl (EL.val (ld_26 rfl (q1.at (j := 5) rfl)) rfl (EL.val (ln_26 rfl) rfl ?_))))));refine EL.val (x_lss rfl rfl (decide_eq_true (show (((k : Nat) : Int) < ((ru.kinds.length : Nat) : Int)) by omega))) rfl ?_
        refine EL.nil (EX.seq (EC.yes rfl (EC.skip (EX.seq (EC.seq (EC.block (EC.seq (EC.region (EL.val (fa_28_4 rfl) rfl ?_)))))))));refine EL.val (ld_26 rfl (q1.at (j := 5) rfl)) rfl (EL.mv rfl rfl ?_);refine EL.val (ix_26 (by show some (Value.slice Ak _ _) = _; rw [ek]) rfl hltk) rfl ?_
        refine EL.val (ld_52 rfl hkd.c0 hkd.c1 hkd.c2 hkd.c3 hkd.c4) rfl (EL.newP al_52 rfl ?_);intro g12 w12 q12 hb12 hg12 hl12;have n1_12 := q1.na hg12;have bhbw_12 := Nat.le_trans hbw.size hg12;replace q1 := q1.bl hb12;replace hbw := bo_ hbw hb12;clear hb12 hg12 hl12;refine EL.store rfl rfl q12 sz_52 rfl rfl rfl rfl ?_;intro w13 hq13 hg13;replace q1 := q1.gr hg13 n1_12;replace hbw := below_store hbw hg13 bhbw_12;replace q12 := hq13;clear hg13 hq13;refine EL.nil (EX.seq (EC.seq (EC.region (EL.val (fa_52_0 rfl) rfl (EL.val (ld_24 rfl (q12.at (j := 0) rfl) (q12.at (j := 1) rfl)) rfl ?_)))))
        cases k1 : bdB kd.power
        ·
         refine EL.call (cA2 cF66 rfl rfl) rfl (bounds_to k1 _) ?_
         rintro e w14 ⟨rfl, hc14⟩
         refine ⟨_, rfl, ?_⟩;replace q1 := q1.bl hc14;replace q12 := q12.bl hc14;replace hbw := bo_ hbw hc14;clear hc14;refine EL.val (x_not rfl) rfl (EL.mv rfl rfl (EL.skip rfl rfl rfl rfl (EL.skip rfl rfl rfl rfl (EL.skip rfl rfl rfl rfl (EL.skip rfl rfl rfl rfl (EL.pt rfl rfl rfl (EL.mv rfl rfl (EL.skip rfl rfl rfl rfl (EL.skip rfl rfl rfl rfl ?_)))))))));refine EL.skip rfl rfl rfl rfl (EL.skip rfl rfl rfl rfl (EL.pt rfl rfl rfl (EL.mv rfl rfl (EL.skip rfl rfl rfl rfl (EL.skip rfl rfl rfl rfl (EL.skip rfl rfl rfl rfl (EL.skip rfl rfl rfl rfl (EL.pt rfl rfl rfl (EL.nil ?_)))))))));refine EX.seq (EC.yes rfl (EC.seq (EC.region (EL.as rfl rfl (EL.nil (EX.seq (EC.ret (EX.blk_ret (EX.seq_ret ?_)))))))));refine EX.seq_ret (EX.blk_ret (EX.seq_ret ?_));have hres : rulesB ru = false := by exact Bool.eq_false_iff.2 fun e => by have := rules_kd e k hltk; rw [← ekd] at this; simp_all [kdB]
         exact EX.done (res1 rfl rfl) ⟨by rw [← h, hres], hbw⟩
        ·
         refine EL.call (cA2 cF66 rfl rfl) rfl (bounds_to k1 _) ?_
         rintro e w15 ⟨rfl, hc15⟩
         refine ⟨_, rfl, ?_⟩;replace q1 := q1.bl hc15;replace q12 := q12.bl hc15;replace hbw := bo_ hbw hc15;clear hc15;refine EL.val (x_not rfl) rfl (EL.mv rfl rfl (EL.valg rfl rfl (fa_52_1 rfl) rfl (EL.valg rfl rfl (ld_3 rfl (q12.at (j := 2) rfl)) rfl ?_)))
         cases k2 : inB 0 10000 kd.mins
         ·
          refine EL.callg rfl rfl (cA3 cF56 rfl rfl rfl) rfl (in_to k2 _) ?_
          rintro e w16 ⟨rfl, hc16⟩
          refine ⟨_, rfl, ?_⟩;replace q1 := q1.bl hc16;replace q12 := q12.bl hc16;replace hbw := bo_ hbw hc16;clear hc16;refine EL.valg rfl rfl (x_not rfl) rfl (EL.pf rfl rfl rfl (EL.mv rfl rfl (EL.skip rfl rfl rfl rfl (EL.skip rfl rfl rfl rfl (EL.skip rfl rfl rfl rfl (EL.skip rfl rfl rfl rfl (EL.pt rfl rfl rfl (EL.mv rfl rfl (EL.skip rfl rfl rfl rfl ?_)))))))));refine EL.skip rfl rfl rfl rfl (EL.skip rfl rfl rfl rfl (EL.skip rfl rfl rfl rfl (EL.pt rfl rfl rfl (EL.nil (EX.seq (EC.yes rfl (EC.seq (EC.region (EL.as rfl rfl ?_)))))))));refine EL.nil (EX.seq (EC.ret (EX.blk_ret (EX.seq_ret (EX.seq_ret (EX.blk_ret (EX.seq_ret ?_)))))));have hres : rulesB ru = false := by exact Bool.eq_false_iff.2 fun e => by have := rules_kd e k hltk; rw [← ekd] at this; simp_all [kdB]
          exact EX.done (res1 rfl rfl) ⟨by rw [← h, hres], hbw⟩
         ·
          refine EL.callg rfl rfl (cA3 cF56 rfl rfl rfl) rfl (in_to k2 _) ?_
          rintro e w17 ⟨rfl, hc17⟩
          refine ⟨_, rfl, ?_⟩;replace q1 := q1.bl hc17;replace q12 := q12.bl hc17;replace hbw := bo_ hbw hc17;clear hc17;refine EL.valg rfl rfl (x_not rfl) rfl (EL.pf rfl rfl rfl (EL.mv rfl rfl (EL.valg rfl rfl (fa_52_2 rfl) rfl (EL.valg rfl rfl (ld_3 rfl (q12.at (j := 3) rfl)) rfl ?_))))
          cases k3 : inB 0 10000 kd.water
          ·
           refine EL.callg rfl rfl (cA3 cF56 rfl rfl rfl) rfl (in_to k3 _) ?_
           rintro e w18 ⟨rfl, hc18⟩
           refine ⟨_, rfl, ?_⟩;replace q1 := q1.bl hc18;replace q12 := q12.bl hc18;replace hbw := bo_ hbw hc18;clear hc18;refine EL.valg rfl rfl (x_not rfl) rfl (EL.pf rfl rfl rfl (EL.mv rfl rfl (EL.skip rfl rfl rfl rfl (EL.skip rfl rfl rfl rfl (EL.skip rfl rfl rfl rfl (EL.skip rfl rfl rfl rfl (EL.pt rfl rfl rfl (EL.nil (EX.seq ?_)))))))));refine EC.yes rfl (EC.seq (EC.region (EL.as rfl rfl (EL.nil (EX.seq (EC.ret (EX.blk_ret (EX.seq_ret (EX.seq_ret ?_)))))))));refine EX.blk_ret (EX.seq_ret ?_);have hres : rulesB ru = false := by exact Bool.eq_false_iff.2 fun e => by have := rules_kd e k hltk; rw [← ekd] at this; simp_all [kdB]
           exact EX.done (res1 rfl rfl) ⟨by rw [← h, hres], hbw⟩
          ·
           refine EL.callg rfl rfl (cA3 cF56 rfl rfl rfl) rfl (in_to k3 _) ?_
           rintro e w19 ⟨rfl, hc19⟩
           refine ⟨_, rfl, ?_⟩;replace q1 := q1.bl hc19;replace q12 := q12.bl hc19;replace hbw := bo_ hbw hc19;clear hc19;refine EL.valg rfl rfl (x_not rfl) rfl (EL.pf rfl rfl rfl (EL.mv rfl rfl (EL.valg rfl rfl (fa_52_3 rfl) rfl (EL.valg rfl rfl (ld_3 rfl (q12.at (j := 4) rfl)) rfl ?_))))
           cases k4 : inB 0 100000000 kd.cost
           ·
            refine EL.callg rfl rfl (cA3 cF56 rfl rfl rfl) rfl (in_to k4 _) ?_
            rintro e w20 ⟨rfl, hc20⟩
            refine ⟨_, rfl, ?_⟩;replace q1 := q1.bl hc20;replace q12 := q12.bl hc20;replace hbw := bo_ hbw hc20;clear hc20;refine EL.valg rfl rfl (x_not rfl) rfl (EL.pf rfl rfl rfl (EL.nil (EX.seq (EC.yes rfl (EC.seq (EC.region (EL.as rfl rfl (EL.nil (EX.seq ?_)))))))));refine EC.ret (EX.blk_ret (EX.seq_ret (EX.seq_ret (EX.blk_ret (EX.seq_ret ?_)))));have hres : rulesB ru = false := by exact Bool.eq_false_iff.2 fun e => by have := rules_kd e k hltk; rw [← ekd] at this; simp_all [kdB]
            exact EX.done (res1 rfl rfl) ⟨by rw [← h, hres], hbw⟩
           ·
            refine EL.callg rfl rfl (cA3 cF56 rfl rfl rfl) rfl (in_to k4 _) ?_
            rintro e w21 ⟨rfl, hc21⟩
            refine ⟨_, rfl, ?_⟩;replace q1 := q1.bl hc21;replace q12 := q12.bl hc21;replace hbw := bo_ hbw hc21;clear hc21;refine EL.valg rfl rfl (x_not rfl) rfl (EL.pf rfl rfl rfl (EL.nil (EX.seq (EC.no rfl (EC.skip (EX.blk (EX.seq (EC.region (EL.mv rfl rfl ?_)))))))));refine EL.val (x_add rfl rfl (c := ((k + 1 : Nat) : Int)) ((IntWalk.i64_in _ ⟨by first | omega | (simp only; omega), by first | omega | (simp only; omega)⟩).trans (by first | omega | (simp only; omega)))) rfl ?_
            refine EL.as rfl rfl (EL.nil ?_);refine EX.roundD (k + 1) ⟨rfl, trivial⟩ (by repeat first | with_reducible exact .refl _ | refine sp_ rfl ?_ | exact .refl _ | refine sd_ rfl ?_ | refine sn_ ?_) ⟨hltk, (fun j hj => by rcases Nat.lt_or_ge j k with h0 | h0; exact hallk j h0; rw [show j = k by omega, ← ekd]; simp [kdB, k1, k2, k3, k4]), q1, hbw⟩ (by omega)
       ·
        have hxk : k = ru.kinds.length := by omega
        have gg7 : ru.kinds.all kdB = true := all_idx (hxk ▸ hallk);refine EC.seq (EC.seq (EC.region (EL.mv rfl rfl (EL.val (fa_28_4 rfl) rfl (EL.val (ld_26 rfl (q1.at (j := 5) rfl)) rfl (EL.val (ln_26 rfl) rfl ?_))))));refine EL.val (x_lss rfl rfl (decide_eq_false (show ¬(((k : Nat) : Int) < ((ru.kinds.length : Nat) : Int)) by omega))) rfl ?_
        refine EL.nil (EX.seq (EC.no rfl (EC.exit (EX.seq_exit (EX.seq_exit (EX.blk_here (EX.seq (EC.seq (EC.region ?_)))))))));refine EL.as rfl rfl (EL.nil (EX.seq (EC.ret ?_)));have hres : rulesB ru = true := by unfold rulesB; simp [gg1, gg2, gg3, gg4, gg5, gg6, gg7]
        exact EX.done (res1 rfl rfl) ⟨by rw [← h, hres], hbw⟩
  ·
   refine EL.valg rfl rfl (x_gtr (r := true) rfl rfl (decide_eq_true (by omega))) rfl ?_
   refine EL.pf rfl rfl rfl (EL.mv rfl rfl (EL.skip rfl rfl rfl rfl (EL.skip rfl rfl rfl rfl (EL.skip rfl rfl rfl rfl (EL.skip rfl rfl rfl rfl (EL.pt rfl rfl rfl (EL.mv rfl rfl (EL.skip rfl rfl rfl rfl (EL.skip rfl rfl rfl rfl ?_)))))))));refine EL.skip rfl rfl rfl rfl (EL.skip rfl rfl rfl rfl (EL.skip rfl rfl rfl rfl (EL.pt rfl rfl rfl (EL.mv rfl rfl (EL.skip rfl rfl rfl rfl (EL.skip rfl rfl rfl rfl (EL.skip rfl rfl rfl rfl (EL.skip rfl rfl rfl rfl (EL.skip rfl rfl rfl rfl ?_)))))))));refine EL.pt rfl rfl rfl (EL.nil (EX.seq (EC.yes rfl (EC.seq (EC.region (EL.as rfl rfl (EL.nil (EX.seq (EC.ret ?_)))))))));refine EX.seq_ret ?_;have hres : rulesB ru = false := by unfold rulesB; simp [gg2]
   exact EX.done (res1 rfl rfl) ⟨by rw [← h, hres], hbw⟩
set_option maxHeartbeats 1000000 in
theorem History_any {ru : Rules} {ua up : List Value} {vl va vp vk : Value} {w : World} {B : Nat} (hr : RdRules w B vl va vp vk ru ua up) (hB : B ≤ w.heap.size) (hs : Short ru) {l : List Ev} {v : Value} (hl : Rd w B 2 v l.length (evsC l)) (hn : l.length ≤ 1048576) :
  Calls Try.prog 53 #[rulesV vl va vp vk ru, v] w fun e w' => e = .returned (.int .i64 (histE ru l)) ∧ Below w.heap.size w w' := by
 have hs_ := hs;obtain ⟨Al, cl, Aa, ca, Ap, cp, Ak, ck, rfl, rfl, rfl, rfl⟩ := hr.sh4;obtain ⟨Ae, ce, rfl, _⟩ := hl.shape;obtain ⟨z1, z2, z3, z4⟩ := hs_;have hbw := Below.refl w.heap.size w
 unfold rulesV
 refine EC.enter 55 Try.func53 rfl rfl rfl (EC.seq (EC.region (EL.newP (bx_28 rfl) rfl ?_)));intro g1 w1 q1 hb1 hg1 hl1;have bhbw_1 := Nat.le_trans hbw.size hg1;replace hbw := bo_ hbw hb1;clear hb1 hg1 hl1;refine EL.as rfl rfl (EL.nil (EX.seq (EC.seq (EC.seq (EC.region (EL.mv rfl rfl (EL.val (ln_29 rfl) rfl ?_)))))))
 by_cases hl100 : 100 < l.length
 ·
  refine EL.val (x_gtr (r := true) rfl rfl (decide_eq_true (by omega))) rfl ?_
  refine EL.nil (EX.seq (EC.yes rfl (EC.seq (EC.region (EL.as rfl rfl (EL.nil (EX.seq (EC.ret (EX.seq_ret ?_)))))))));have hres : histE ru l = 5 := by unfold histE; rw [if_pos hl100]
  exact EX.done (res1 rfl rfl) ⟨by rw [hres], hbw⟩
 ·
  refine EL.val (x_gtr (r := false) rfl rfl (decide_eq_false (by omega))) rfl ?_
  refine EL.nil (EX.seq (EC.no rfl (EC.skip (EX.seq (EC.seq (EC.seq (EC.region (EL.as rfl rfl (EL.nil ?_)))))))));refine EX.seq (EC.block ?_);refine EC.loopD [4, 5, 9, 10, 11, 12, 13, 14, 15, 16, 17, 18, 19, 20, 21, 22, 23, 24, 25, 26, 27, 28, 29, 30, 31, 32, 33, 34, 35, 36, 37, 38, 39, 40, 41, 42, 43, 44, 45, 46, 47, 48, 49, 50, 51, 52, 53, 54] (fun x : Nat => [(5, .int .i64 (x : Nat))]) (fun x W => x ≤ l.length ∧ (∀ i, i < x → evB ru (l.getD i ev0) = true) ∧ Blk W g1 28 #[.slice Al ru.levels.length cl, .int .i64 ru.fade.lo, .int .i64 ru.fade.hi, .slice Aa ru.allow.length ca, .slice Ap ru.apart.length cp, .slice Ak ru.kinds.length ck] ∧ Below w.heap.size w W) (fun x => l.length - x) 0 ⟨Nat.zero_le _, fun i hi => absurd hi (by omega), q1, hbw⟩ ⟨rfl, trivial⟩ ?_
  clear q1 hbw
  rintro i wx ⟨hi, hall, q1, hbw⟩
  by_cases hlt : i < l.length
  ·
   obtain ⟨be, oe, ee, _, c0, c1⟩ := evs_cells l i hlt wx B _ _ _ (hl.below (hbw.mono hB))
   cases ee
   obtain ⟨ev, eev⟩ : ∃ z, z = l.getD i ev0 := ⟨_, rfl⟩;rw [← eev] at c0 c1
   by_cases k1 : ev.kind = 1
   ·
    cases h1 : inB 0 ((ru.levels.length : Nat) - 1 : Int) ev.number
    ·
     refine EC.seq (EC.seq (EC.region (EL.mv rfl rfl (EL.mv rfl rfl (EL.val (ln_29 rfl) rfl ?_)))));refine EL.val (x_lss rfl rfl (decide_eq_true (show (((i : Nat) : Int) < ((l.length : Nat) : Int)) by omega))) rfl ?_
     refine EL.nil (EX.seq (EC.yes rfl (EC.skip (EX.seq (EC.seq (EC.block (EC.seq ?_)))))));refine EC.regionQ (by kernel_rfl) (by kernel_rfl) ?_
     refine EQ.mv rfl rfl (EQ.mv rfl rfl ?_);refine EQ.val (fun _ hw => (ix_29 rfl rfl hlt)) rfl ?_
     refine EQ.val (fun _ hw => (fa_50_0 rfl)) rfl ?_
     refine EQ.val (fun _ hw => (ld_48 rfl (below_load hw c0))) rfl ?_
     refine EQ.val (fun _ hw => (x_eql (r := true) rfl rfl (decide_eq_true k1))) rfl ?_
     refine EQ.mv rfl rfl (EQ.mg rfl rfl rfl rfl (EQ.mg rfl rfl rfl rfl ?_));refine EQ.valg rfl rfl (fun _ hw => (ix_29 rfl rfl hlt)) rfl ?_
     refine EQ.valg rfl rfl (fun _ hw => (fa_50_1 rfl)) rfl ?_
     refine EQ.valg rfl rfl (fun _ hw => (ld_3 rfl (below_load hw c1))) rfl ?_
     refine EQ.valg rfl rfl (fun _ hw => (fa_28_0 rfl)) rfl ?_
     refine EQ.valg rfl rfl (fun _ hw => (ld_22 rfl (below_load hw (q1.at (j := 0) rfl)))) rfl ?_
     refine EQ.valg rfl rfl (fun _ hw => (ln_22 rfl)) rfl ?_
     refine EQ.valg rfl rfl (fun _ hw => (x_sub rfl rfl (c := (ru.levels.length : Nat) - 1) (IntWalk.i64_in _ ⟨by omega, by omega⟩))) rfl ?_
     refine EQ.callg rfl rfl (fun _ _ _ ha => cA3 cF56 rfl rfl rfl _ ha) rfl (fun W hw => (in_to h1 W).mono fun e w' h => ⟨h.1, hw.trans (h.2.mono hw.size)⟩) ?_
     refine EQ.val (fun _ hw => (x_pick_t rfl rfl)) rfl ?_
     refine EQ.val (fun _ hw => (x_not rfl)) rfl ?_
     refine EQ.mv rfl rfl (EQ.mg rfl rfl rfl rfl (EQ.mg rfl rfl rfl rfl ?_));refine EQ.valg rfl rfl (fun _ hw => (ix_29 rfl rfl hlt)) rfl ?_
     refine EQ.valg rfl rfl (fun _ hw => (fa_50_0 rfl)) rfl ?_
     refine EQ.valg rfl rfl (fun _ hw => (ld_48 rfl (below_load hw c0))) rfl ?_
     refine EQ.valg rfl rfl (fun _ hw => (x_eql (r := false) rfl rfl (decide_eq_false (by omega)))) rfl ?_
     refine EQ.mg rfl rfl rfl rfl (EQ.skip rfl rfl rfl rfl (EQ.skip rfl rfl rfl rfl (EQ.skip rfl rfl rfl rfl (EQ.skip rfl rfl rfl rfl (EQ.skip rfl rfl rfl rfl (EQ.skip rfl rfl rfl rfl (EQ.skip rfl rfl rfl rfl (EQ.skip rfl rfl rfl rfl (EQ.skip rfl rfl rfl rfl ?_)))))))));refine EQ.skip rfl rfl rfl rfl ?_;refine EQ.valg rfl rfl (fun _ hw => (x_pick_f rfl rfl)) rfl ?_
     refine EQ.valg rfl rfl (fun _ hw => (x_not rfl)) rfl ?_
     refine EQ.val (fun _ hw => (x_pick_t rfl rfl)) rfl ?_
     refine EQ.fin (fun w2 hw_ => ?_)
     replace q1 := q1.bl hw_;replace hbw := bo_ hbw hw_;clear hw_;refine EX.seq (EC.yes rfl (EC.seq (EC.region (EL.as rfl rfl (EL.nil (EX.seq (EC.ret (EX.blk_ret (EX.seq_ret ?_)))))))));refine EX.seq_ret (EX.blk_ret (EX.seq_ret ?_));have hres : histE ru l = 2 := by unfold histE; rw [if_neg hl100, if_neg (fun ha => by have e := List.all_eq_true.1 ha ev (by rw [eev, getD_in hlt]; exact List.getElem_mem _); unfold evB at e; rw [h1] at e; simp at e; omega)]
     exact EX.done (res1 rfl rfl) ⟨by rw [hres], hbw⟩
    ·
     refine EC.seq (EC.seq (EC.region (EL.mv rfl rfl (EL.mv rfl rfl (EL.val (ln_29 rfl) rfl ?_)))));refine EL.val (x_lss rfl rfl (decide_eq_true (show (((i : Nat) : Int) < ((l.length : Nat) : Int)) by omega))) rfl ?_
     refine EL.nil (EX.seq (EC.yes rfl (EC.skip (EX.seq (EC.seq (EC.block (EC.seq ?_)))))));refine EC.regionQ (by kernel_rfl) (by kernel_rfl) ?_
     refine EQ.mv rfl rfl (EQ.mv rfl rfl ?_);refine EQ.val (fun _ hw => (ix_29 rfl rfl hlt)) rfl ?_
     refine EQ.val (fun _ hw => (fa_50_0 rfl)) rfl ?_
     refine EQ.val (fun _ hw => (ld_48 rfl (below_load hw c0))) rfl ?_
     refine EQ.val (fun _ hw => (x_eql (r := true) rfl rfl (decide_eq_true k1))) rfl ?_
     refine EQ.mv rfl rfl (EQ.mg rfl rfl rfl rfl (EQ.mg rfl rfl rfl rfl ?_));refine EQ.valg rfl rfl (fun _ hw => (ix_29 rfl rfl hlt)) rfl ?_
     refine EQ.valg rfl rfl (fun _ hw => (fa_50_1 rfl)) rfl ?_
     refine EQ.valg rfl rfl (fun _ hw => (ld_3 rfl (below_load hw c1))) rfl ?_
     refine EQ.valg rfl rfl (fun _ hw => (fa_28_0 rfl)) rfl ?_
     refine EQ.valg rfl rfl (fun _ hw => (ld_22 rfl (below_load hw (q1.at (j := 0) rfl)))) rfl ?_
     refine EQ.valg rfl rfl (fun _ hw => (ln_22 rfl)) rfl ?_
     refine EQ.valg rfl rfl (fun _ hw => (x_sub rfl rfl (c := (ru.levels.length : Nat) - 1) (IntWalk.i64_in _ ⟨by omega, by omega⟩))) rfl ?_
     refine EQ.callg rfl rfl (fun _ _ _ ha => cA3 cF56 rfl rfl rfl _ ha) rfl (fun W hw => (in_to h1 W).mono fun e w' h => ⟨h.1, hw.trans (h.2.mono hw.size)⟩) ?_
     refine EQ.val (fun _ hw => (x_pick_t rfl rfl)) rfl ?_
     refine EQ.val (fun _ hw => (x_not rfl)) rfl ?_
     refine EQ.mv rfl rfl (EQ.skip rfl rfl rfl rfl (EQ.skip rfl rfl rfl rfl (EQ.skip rfl rfl rfl rfl (EQ.skip rfl rfl rfl rfl (EQ.skip rfl rfl rfl rfl (EQ.skip rfl rfl rfl rfl (EQ.skip rfl rfl rfl rfl (EQ.skip rfl rfl rfl rfl (EQ.skip rfl rfl rfl rfl ?_)))))))));refine EQ.skip rfl rfl rfl rfl (EQ.skip rfl rfl rfl rfl (EQ.skip rfl rfl rfl rfl (EQ.skip rfl rfl rfl rfl (EQ.skip rfl rfl rfl rfl (EQ.skip rfl rfl rfl rfl (EQ.skip rfl rfl rfl rfl (EQ.skip rfl rfl rfl rfl (EQ.skip rfl rfl rfl rfl (EQ.skip rfl rfl rfl rfl ?_)))))))));refine EQ.val (fun _ hw => (x_pick_f rfl rfl)) rfl ?_
     refine EQ.fin (fun w3 hw_ => ?_)
     replace q1 := q1.bl hw_;replace hbw := bo_ hbw hw_;clear hw_;refine EX.seq (EC.no rfl (EC.skip (EX.blk (EX.seq (EC.region (EL.mv rfl rfl ?_))))));refine EL.val (x_add rfl rfl (c := ((i + 1 : Nat) : Int)) ((IntWalk.i64_in _ ⟨by first | omega | (simp only; omega), by first | omega | (simp only; omega)⟩).trans (by first | omega | (simp only; omega)))) rfl ?_
     refine EL.as rfl rfl (EL.nil ?_);have hev : evB ru ev = true := by unfold evB; rw [h1, decide_eq_true k1]; rfl
     refine EX.roundD (i + 1) ⟨rfl, trivial⟩ (by repeat first | with_reducible exact .refl _ | refine sp_ rfl ?_ | exact .refl _ | refine sd_ rfl ?_ | refine sn_ ?_) ⟨hlt, (fun j hj => by rcases Nat.lt_or_ge j i with h0 | h0; exact hall j h0; rw [show j = i by omega, ← eev]; exact hev), q1, hbw⟩ (by omega)
   ·
    by_cases k2 : ev.kind = 2
    ·
     cases h2 : inB 0 ((ru.kinds.length : Nat) - 1 : Int) ev.number
     ·
      refine EC.seq (EC.seq (EC.region (EL.mv rfl rfl (EL.mv rfl rfl (EL.val (ln_29 rfl) rfl ?_)))));refine EL.val (x_lss rfl rfl (decide_eq_true (show (((i : Nat) : Int) < ((l.length : Nat) : Int)) by omega))) rfl ?_
      refine EL.nil (EX.seq (EC.yes rfl (EC.skip (EX.seq (EC.seq (EC.block (EC.seq ?_)))))));refine EC.regionQ (by kernel_rfl) (by kernel_rfl) ?_
      refine EQ.mv rfl rfl (EQ.mv rfl rfl ?_);refine EQ.val (fun _ hw => (ix_29 rfl rfl hlt)) rfl ?_
      refine EQ.val (fun _ hw => (fa_50_0 rfl)) rfl ?_
      refine EQ.val (fun _ hw => (ld_48 rfl (below_load hw c0))) rfl ?_
      refine EQ.val (fun _ hw => (x_eql (r := false) rfl rfl (decide_eq_false k1))) rfl ?_
      refine EQ.mv rfl rfl (EQ.skip rfl rfl rfl rfl (EQ.skip rfl rfl rfl rfl (EQ.skip rfl rfl rfl rfl (EQ.skip rfl rfl rfl rfl (EQ.skip rfl rfl rfl rfl (EQ.skip rfl rfl rfl rfl (EQ.skip rfl rfl rfl rfl (EQ.skip rfl rfl rfl rfl (EQ.skip rfl rfl rfl rfl ?_)))))))));refine EQ.skip rfl rfl rfl rfl ?_;refine EQ.val (fun _ hw => (x_pick_f rfl rfl)) rfl ?_
      refine EQ.val (fun _ hw => (x_not rfl)) rfl ?_
      refine EQ.mv rfl rfl (EQ.mg rfl rfl rfl rfl (EQ.mg rfl rfl rfl rfl ?_));refine EQ.valg rfl rfl (fun _ hw => (ix_29 rfl rfl hlt)) rfl ?_
      refine EQ.valg rfl rfl (fun _ hw => (fa_50_0 rfl)) rfl ?_
      refine EQ.valg rfl rfl (fun _ hw => (ld_48 rfl (below_load hw c0))) rfl ?_
      refine EQ.valg rfl rfl (fun _ hw => (x_eql (r := true) rfl rfl (decide_eq_true k2))) rfl ?_
      refine EQ.mg rfl rfl rfl rfl (EQ.mg rfl rfl rfl rfl (EQ.mg rfl rfl rfl rfl ?_));refine EQ.valg rfl rfl (fun _ hw => (ix_29 rfl rfl hlt)) rfl ?_
      refine EQ.valg rfl rfl (fun _ hw => (fa_50_1 rfl)) rfl ?_
      refine EQ.valg rfl rfl (fun _ hw => (ld_3 rfl (below_load hw c1))) rfl ?_
      refine EQ.valg rfl rfl (fun _ hw => (fa_28_4 rfl)) rfl ?_
      refine EQ.valg rfl rfl (fun _ hw => (ld_26 rfl (below_load hw (q1.at (j := 5) rfl)))) rfl ?_
      refine EQ.valg rfl rfl (fun _ hw => (ln_26 rfl)) rfl ?_
      refine EQ.valg rfl rfl (fun _ hw => (x_sub rfl rfl (c := (ru.kinds.length : Nat) - 1) (IntWalk.i64_in _ ⟨by omega, by omega⟩))) rfl ?_
      refine EQ.callg rfl rfl (fun _ _ _ ha => cA3 cF56 rfl rfl rfl _ ha) rfl (fun W hw => (in_to h2 W).mono fun e w' h => ⟨h.1, hw.trans (h.2.mono hw.size)⟩) ?_
      refine EQ.valg rfl rfl (fun _ hw => (x_pick_t rfl rfl)) rfl ?_
      refine EQ.valg rfl rfl (fun _ hw => (x_not rfl)) rfl ?_
      refine EQ.val (fun _ hw => (x_pick_t rfl rfl)) rfl ?_
      refine EQ.fin (fun w4 hw_ => ?_)
      replace q1 := q1.bl hw_;replace hbw := bo_ hbw hw_;clear hw_;refine EX.seq (EC.yes rfl (EC.seq (EC.region (EL.as rfl rfl (EL.nil (EX.seq (EC.ret (EX.blk_ret (EX.seq_ret ?_)))))))));refine EX.seq_ret (EX.blk_ret (EX.seq_ret ?_));have hres : histE ru l = 2 := by unfold histE; rw [if_neg hl100, if_neg (fun ha => by have e := List.all_eq_true.1 ha ev (by rw [eev, getD_in hlt]; exact List.getElem_mem _); unfold evB at e; rw [h2] at e; simp at e; omega)]
      exact EX.done (res1 rfl rfl) ⟨by rw [hres], hbw⟩
     ·
      refine EC.seq (EC.seq (EC.region (EL.mv rfl rfl (EL.mv rfl rfl (EL.val (ln_29 rfl) rfl ?_)))));refine EL.val (x_lss rfl rfl (decide_eq_true (show (((i : Nat) : Int) < ((l.length : Nat) : Int)) by omega))) rfl ?_
      refine EL.nil (EX.seq (EC.yes rfl (EC.skip (EX.seq (EC.seq (EC.block (EC.seq ?_)))))));refine EC.regionQ (by kernel_rfl) (by kernel_rfl) ?_
      refine EQ.mv rfl rfl (EQ.mv rfl rfl ?_);refine EQ.val (fun _ hw => (ix_29 rfl rfl hlt)) rfl ?_
      refine EQ.val (fun _ hw => (fa_50_0 rfl)) rfl ?_
      refine EQ.val (fun _ hw => (ld_48 rfl (below_load hw c0))) rfl ?_
      refine EQ.val (fun _ hw => (x_eql (r := false) rfl rfl (decide_eq_false k1))) rfl ?_
      refine EQ.mv rfl rfl (EQ.skip rfl rfl rfl rfl (EQ.skip rfl rfl rfl rfl (EQ.skip rfl rfl rfl rfl (EQ.skip rfl rfl rfl rfl (EQ.skip rfl rfl rfl rfl (EQ.skip rfl rfl rfl rfl (EQ.skip rfl rfl rfl rfl (EQ.skip rfl rfl rfl rfl (EQ.skip rfl rfl rfl rfl ?_)))))))));refine EQ.skip rfl rfl rfl rfl ?_;refine EQ.val (fun _ hw => (x_pick_f rfl rfl)) rfl ?_
      refine EQ.val (fun _ hw => (x_not rfl)) rfl ?_
      refine EQ.mv rfl rfl (EQ.mg rfl rfl rfl rfl (EQ.mg rfl rfl rfl rfl ?_));refine EQ.valg rfl rfl (fun _ hw => (ix_29 rfl rfl hlt)) rfl ?_
      refine EQ.valg rfl rfl (fun _ hw => (fa_50_0 rfl)) rfl ?_
      refine EQ.valg rfl rfl (fun _ hw => (ld_48 rfl (below_load hw c0))) rfl ?_
      refine EQ.valg rfl rfl (fun _ hw => (x_eql (r := true) rfl rfl (decide_eq_true k2))) rfl ?_
      refine EQ.mg rfl rfl rfl rfl (EQ.mg rfl rfl rfl rfl (EQ.mg rfl rfl rfl rfl ?_));refine EQ.valg rfl rfl (fun _ hw => (ix_29 rfl rfl hlt)) rfl ?_
      refine EQ.valg rfl rfl (fun _ hw => (fa_50_1 rfl)) rfl ?_
      refine EQ.valg rfl rfl (fun _ hw => (ld_3 rfl (below_load hw c1))) rfl ?_
      refine EQ.valg rfl rfl (fun _ hw => (fa_28_4 rfl)) rfl ?_
      refine EQ.valg rfl rfl (fun _ hw => (ld_26 rfl (below_load hw (q1.at (j := 5) rfl)))) rfl ?_
      refine EQ.valg rfl rfl (fun _ hw => (ln_26 rfl)) rfl ?_
      refine EQ.valg rfl rfl (fun _ hw => (x_sub rfl rfl (c := (ru.kinds.length : Nat) - 1) (IntWalk.i64_in _ ⟨by omega, by omega⟩))) rfl ?_
      refine EQ.callg rfl rfl (fun _ _ _ ha => cA3 cF56 rfl rfl rfl _ ha) rfl (fun W hw => (in_to h2 W).mono fun e w' h => ⟨h.1, hw.trans (h.2.mono hw.size)⟩) ?_
      refine EQ.valg rfl rfl (fun _ hw => (x_pick_t rfl rfl)) rfl ?_
      refine EQ.valg rfl rfl (fun _ hw => (x_not rfl)) rfl ?_
      refine EQ.val (fun _ hw => (x_pick_t rfl rfl)) rfl ?_
      refine EQ.fin (fun w5 hw_ => ?_)
      replace q1 := q1.bl hw_;replace hbw := bo_ hbw hw_;clear hw_;refine EX.seq (EC.no rfl (EC.skip (EX.blk (EX.seq (EC.region (EL.mv rfl rfl ?_))))));refine EL.val (x_add rfl rfl (c := ((i + 1 : Nat) : Int)) ((IntWalk.i64_in _ ⟨by first | omega | (simp only; omega), by first | omega | (simp only; omega)⟩).trans (by first | omega | (simp only; omega)))) rfl ?_
      refine EL.as rfl rfl (EL.nil ?_);have hev : evB ru ev = true := by unfold evB; rw [h2, decide_eq_true k2]; simp
      refine EX.roundD (i + 1) ⟨rfl, trivial⟩ (by repeat first | with_reducible exact .refl _ | refine sp_ rfl ?_ | exact .refl _ | refine sd_ rfl ?_ | refine sn_ ?_) ⟨hlt, (fun j hj => by rcases Nat.lt_or_ge j i with h0 | h0; exact hall j h0; rw [show j = i by omega, ← eev]; exact hev), q1, hbw⟩ (by omega)
    ·
     refine EC.seq (EC.seq (EC.region (EL.mv rfl rfl (EL.mv rfl rfl (EL.val (ln_29 rfl) rfl ?_)))));refine EL.val (x_lss rfl rfl (decide_eq_true (show (((i : Nat) : Int) < ((l.length : Nat) : Int)) by omega))) rfl ?_
     refine EL.nil (EX.seq (EC.yes rfl (EC.skip (EX.seq (EC.seq (EC.block (EC.seq ?_)))))));refine EC.regionQ (by kernel_rfl) (by kernel_rfl) ?_
     refine EQ.mv rfl rfl (EQ.mv rfl rfl ?_);refine EQ.val (fun _ hw => (ix_29 rfl rfl hlt)) rfl ?_
     refine EQ.val (fun _ hw => (fa_50_0 rfl)) rfl ?_
     refine EQ.val (fun _ hw => (ld_48 rfl (below_load hw c0))) rfl ?_
     refine EQ.val (fun _ hw => (x_eql (r := false) rfl rfl (decide_eq_false k1))) rfl ?_
     refine EQ.mv rfl rfl (EQ.skip rfl rfl rfl rfl (EQ.skip rfl rfl rfl rfl (EQ.skip rfl rfl rfl rfl (EQ.skip rfl rfl rfl rfl (EQ.skip rfl rfl rfl rfl (EQ.skip rfl rfl rfl rfl (EQ.skip rfl rfl rfl rfl (EQ.skip rfl rfl rfl rfl (EQ.skip rfl rfl rfl rfl ?_)))))))));refine EQ.skip rfl rfl rfl rfl ?_;refine EQ.val (fun _ hw => (x_pick_f rfl rfl)) rfl ?_
     refine EQ.val (fun _ hw => (x_not rfl)) rfl ?_
     refine EQ.mv rfl rfl (EQ.mg rfl rfl rfl rfl (EQ.mg rfl rfl rfl rfl ?_));refine EQ.valg rfl rfl (fun _ hw => (ix_29 rfl rfl hlt)) rfl ?_
     refine EQ.valg rfl rfl (fun _ hw => (fa_50_0 rfl)) rfl ?_
     refine EQ.valg rfl rfl (fun _ hw => (ld_48 rfl (below_load hw c0))) rfl ?_
     refine EQ.valg rfl rfl (fun _ hw => (x_eql (r := false) rfl rfl (decide_eq_false (by omega)))) rfl ?_
     refine EQ.mg rfl rfl rfl rfl (EQ.skip rfl rfl rfl rfl (EQ.skip rfl rfl rfl rfl (EQ.skip rfl rfl rfl rfl (EQ.skip rfl rfl rfl rfl (EQ.skip rfl rfl rfl rfl (EQ.skip rfl rfl rfl rfl (EQ.skip rfl rfl rfl rfl (EQ.skip rfl rfl rfl rfl (EQ.skip rfl rfl rfl rfl ?_)))))))));refine EQ.skip rfl rfl rfl rfl ?_;refine EQ.valg rfl rfl (fun _ hw => (x_pick_f rfl rfl)) rfl ?_
     refine EQ.valg rfl rfl (fun _ hw => (x_not rfl)) rfl ?_
     refine EQ.val (fun _ hw => (x_pick_t rfl rfl)) rfl ?_
     refine EQ.fin (fun w6 hw_ => ?_)
     replace q1 := q1.bl hw_;replace hbw := bo_ hbw hw_;clear hw_;refine EX.seq (EC.yes rfl (EC.seq (EC.region (EL.as rfl rfl (EL.nil (EX.seq (EC.ret (EX.blk_ret (EX.seq_ret ?_)))))))));refine EX.seq_ret (EX.blk_ret (EX.seq_ret ?_));have hres : histE ru l = 2 := by unfold histE; rw [if_neg hl100, if_neg (fun ha => by have e := List.all_eq_true.1 ha ev (by rw [eev, getD_in hlt]; exact List.getElem_mem _); unfold evB at e; simp at e; omega)]
     exact EX.done (res1 rfl rfl) ⟨by rw [hres], hbw⟩
  ·
   have hxe : i = l.length := by omega
   refine EC.seq (EC.seq (EC.region (EL.mv rfl rfl (EL.mv rfl rfl (EL.val (ln_29 rfl) rfl ?_)))));refine EL.val (x_lss rfl rfl (decide_eq_false (show ¬(((i : Nat) : Int) < ((l.length : Nat) : Int)) by omega))) rfl ?_
   refine EL.nil (EX.seq (EC.no rfl (EC.exit (EX.seq_exit (EX.seq_exit (EX.blk_here (EX.seq (EC.seq (EC.region ?_)))))))));refine EL.as rfl rfl (EL.nil (EX.seq (EC.ret ?_)));have hres : histE ru l = 0 := by unfold histE; rw [if_neg hl100, if_pos (all_idx (d := ev0) (hxe ▸ hall))]
   exact EX.done (res1 rfl rfl) ⟨by rw [hres], hbw⟩
section
variable {n : Nat} {σ : Sg} {w : World} {dst : Option Tmp} {ty : TypeId} {pos : String} {af : Array Edge} {g : Option (Nat × Bool)} {x y z : Operand} {at' : Array TypeId}
theorem al_62 (a : Act) (_ : Env n σ a) : (execOp a.eval ⟨dst, .alloc 62, ty, pos, af, g⟩).run Try.prog w = .ok (.value (.pointer (some ⟨w.heap.size, 0, none⟩))) (w.alloc (.cells #[.slice none 0 0, .slice none 0 0] 62)) := by
 simp only [execOp]
 simp [go_sem]
theorem bd_62_    : Gives Try.prog n σ w ⟨dst, .build 62 #[], ty, pos, af, g⟩ (.agg #[.slice none 0 0, .slice none 0 0]) := fun a _ => by
 simp only [execOp, List.map_toArray, List.map_nil]
 go_simp
theorem sz_62 : (Try.prog.info? 62).map (·.size) = some 2 := by kernel_rfl
theorem fa_62_0 {b o : Nat} (hx : evS σ x = some (.pointer (some ⟨b, o, none⟩))) : Gives Try.prog n σ w ⟨dst, .fieldAddr 62 x 0, ty, pos, af, g⟩ (.pointer (some ⟨b, o, none⟩)) := fun a ha => by
 simp only [execOp, ha.eval hx]
 simp [go_sem]
theorem ld_60 {b o : Nat} {v0 : Value} (hx : evS σ x = some (.pointer (some ⟨b, o, none⟩))) (c0 : w.cell? ⟨b, o, none⟩ = some v0) : Gives Try.prog n σ w ⟨dst, .load 60 x, ty, pos, af, g⟩ (v0) := fun a ha => by
 simp only [execOp, ha.eval hx]
 simp [go_sem, c0]
theorem bd_24_    : Gives Try.prog n σ w ⟨dst, .build 24 #[], ty, pos, af, g⟩ (.agg #[.int .i64 0, .int .i64 0]) := fun a _ => by
 simp only [execOp, List.map_toArray, List.map_nil]
 go_simp
theorem fa_62_1 {b o : Nat} (hx : evS σ x = some (.pointer (some ⟨b, o, none⟩))) : Gives Try.prog n σ w ⟨dst, .fieldAddr 62 x 1, ty, pos, af, g⟩ (.pointer (some ⟨b, o + 1, none⟩)) := fun a ha => by
 simp only [execOp, ha.eval hx]
 simp [go_sem]
theorem sz_60 : (Try.prog.info? 60).map (·.size) = some 1 := by kernel_rfl
theorem sz_22 : (Try.prog.info? 22).map (·.size) = some 1 := by kernel_rfl
theorem ld_62 {b o : Nat} {v0 v1 : Value} (hx : evS σ x = some (.pointer (some ⟨b, o, none⟩))) (c0 : w.cell? ⟨b, o, none⟩ = some v0) (c1 : w.cell? ⟨b, o + 1, none⟩ = some v1) : Gives Try.prog n σ w ⟨dst, .load 62 x, ty, pos, af, g⟩ (.agg #[v0, v1]) := fun a ha => by
 simp only [execOp, ha.eval hx]
 simp [go_sem, c0, c1]
theorem lv_62 {b o : Nat} {v0 v1 : Value} (c0 : w.cell? ⟨b, o, none⟩ = some v0) (c1 : w.cell? ⟨b, o + 1, none⟩ = some v1) : (loadVar 62 ⟨b, o, none⟩).run Try.prog w = .ok (.agg #[v0, v1]) w := by
 simp [go_sem, loadVar, c0, c1]
theorem al_24 (a : Act) (_ : Env n σ a) : (execOp a.eval ⟨dst, .alloc 24, ty, pos, af, g⟩).run Try.prog w = .ok (.value (.pointer (some ⟨w.heap.size, 0, none⟩))) (w.alloc (.cells #[.int .i64 0, .int .i64 0] 24)) := by
 simp only [execOp]
 simp [go_sem]
theorem sz_24 : (Try.prog.info? 24).map (·.size) = some 2 := by kernel_rfl
theorem lv_24 {b o : Nat} {v0 v1 : Value} (c0 : w.cell? ⟨b, o, none⟩ = some v0) (c1 : w.cell? ⟨b, o + 1, none⟩ = some v1) : (loadVar 24 ⟨b, o, none⟩).run Try.prog w = .ok (.agg #[v0, v1]) w := by
 simp [go_sem, loadVar, c0, c1]
theorem bx_62 {v0 v1 : Value} (hx : evS σ x = some (.agg #[v0, v1])) (a : Act) (ha : Env n σ a) : (execOp a.eval ⟨dst, .box 62 x, ty, pos, af, g⟩).run Try.prog w = .ok (.value (.pointer (some ⟨w.heap.size, 0, none⟩))) (w.alloc (.cells #[v0, v1] 62)) := by
 simp only [execOp, ha.eval hx]
 simp [go_sem]
theorem ix_60 {b o m c k : Nat} (hx : evS σ x = some (.slice (some ⟨b, o, none⟩) m c)) (hy : evS σ y = some (.int .i64 (k : Int))) (hk : k < m) : Gives Try.prog n σ w ⟨dst, .indexAddr 60 x y, ty, pos, af, g⟩ (.pointer (some ⟨b, o + k * 2, none⟩)) := fun a ha => by
 have k0 : (0 : Int) ≤ (k : Int) := Int.natCast_nonneg _;have k1 : (k : Int) < (m : Int) := by omega
 simp only [execOp, ha.eval hx, ha.eval hy]
 simp [go_sem, k0, k1]
theorem ln_60 {A : Option Addr} {m c : Nat} (hx : evS σ x = some (.slice A m c)) : Gives Try.prog n σ w ⟨dst, .call { callee := .builtin .len, args := #[x], argTypes := #[60] }, ty, pos, af, g⟩ (.int .i64 (m : Int)) := fun a ha => by
 simp only [execOp, resolve, List.map_toArray, List.map_cons, List.map_nil, ha.eval hx]
 simp [go_sem]
theorem cF81 : cF 81 := fun _ _ => by simp [go_sem]
theorem cF57 : cF 57 := fun _ _ => by simp [go_sem]
theorem cF58 : cF 58 := fun _ _ => by simp [go_sem]
end
end Go.Proofs.Ytdkedhcbdbpccaa
