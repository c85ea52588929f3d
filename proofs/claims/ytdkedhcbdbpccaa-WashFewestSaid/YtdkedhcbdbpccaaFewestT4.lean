/- X14, WsPls, ExX15, X15, ExX16, X16, ExX17, X17, ExX19, X19, ExX21, X21, ExX22, X22, WsKnown, ExX23, X23, ExX24, X24, WsSmall, ExX25, ExX30, ExX32, ExX33, ExX35, ExX36, ExX37: what WashFewestProof needs of them (merged by trimpack.py). -/
import Derived.Test.YtdkedhcbdbpccaaFewestT3
set_option linter.unusedVariables false
set_option linter.unusedSimpArgs false
namespace Go.Proofs.Ytdkedhcbdbpccaa
open Go Go.RowKit
theorem fl0_len : (flC [tank0, tank0, tank0]).length = 96 := flC_len (f := [tank0, tank0, tank0]) (by intro t ht; simp only [List.mem_cons, List.not_mem_nil, or_false, or_self] at ht; subst ht; rfl)
theorem plv_add {W : World} {base : Nat} {A : Option Addr} {c i : Nat} {k : Int} {p : Pl} {n cst a b : Int} (ho : W.ownsRow base 70 2 (.slice A (p.steps.length + 1) c) (p.steps.length + 1) (stsC p.steps ++ [.int .i64 (i : Nat), .int .i64 k])) (ha : a = p.washes + n) (hb : b = p.cost + cst) : PlV W base (.agg #[.slice A (p.steps.length + 1) c, .int .i64 a, .int .i64 b]) (addS p ⟨i, k⟩ n cst) := by
 subst ha hb;have e : (p.steps ++ [(⟨i, k⟩ : St)]).length = p.steps.length + 1 := by rw [List.length_append, List.length_singleton]
 refine ⟨A, c, ?_, ?_⟩
 ·unfold addS; dsimp only; rw [e]
 ·unfold addS; dsimp only; rw [e, stsC_app]; exact ho
/-- the assign code of a range over ways: a number, and a box -/
theorem assignW {ru : Rules} {tk : List Tr} (hro : RulesOk ru) (ht : TkOk tk) {n d1 d2 e1 e2 id1 id2 ty1 ty2 ty3 : Nat} {pos1 pos2 pos3 : String} {af1 af2 af3 : Array Edge} {σ : Sg} (he1 : Nat.blt e1 n = true) (he2 : Nat.blt e2 n = true) (h12 : Nat.beq d1 d2 = false) (h21 : Nat.beq d2 e1 = false) (h22 : Nat.beq d2 e2 = false) : ∀ (la : Nat) (x : It) (W : World) (K : Act → World → Prop), okW ru tk x W →
  (∀ g a' W', EnvG n [] (ins (ins (ins (ins σ d1 (.int .i64 (x.1.getD 0 0))) d2 x.2) e1 (.int .i64 (x.1.getD 0 0))) e2 (.pointer (some ⟨g, 0, none⟩))) a' → Blk W' g 120 (tkC (wayT ru tk (x.1.getD 0 0))).toArray → Below W.heap.size W W' → W.heap.size ≤ g → K a' W') →
  ECI (some la) 0 Try.prog n [] (.seq (.region id1 [⟨some e1, .assign (.tmp d1), ty1, pos1, af1, none⟩].toArray false) (.region id2 [⟨some e2, .alloc 120, ty2, pos2, af2, none⟩, ⟨none, .store 120 (.tmp e2) (.tmp d2), ty3, pos3, af3, none⟩].toArray false)) (Exit.then K (fun _ _ _ => False)) (ins (ins σ d1 (.int .i64 (x.1.getD 0 0))) d2 x.2) W := by
 intro la x W K hok hK;obtain ⟨k, ek, ev_⟩ := hok;have ek2 : x.1.getD 0 0 = k := by rw [ek]; rfl
 rw [ek2] at hK ⊢;have htw := wayT_ok hro ht k;refine ECI.seq ?_;refine ECI.regionL (by repeat (first | exact lets_body | exact lets_no | refine lets_then ?_ | refine lets_blk ?_)) (by simp [noDefer]) ?_
 refine EL.val (x_assign (v := .int .i64 k) (by simp [evS, ins, h12])) he1 ?_
 refine EL.nil (EX.toI (EXI.seq ?_));refine ECI.regionL (by repeat (first | exact lets_body | exact lets_no | refine lets_then ?_ | refine lets_blk ?_)) (by simp [noDefer]) ?_
 refine EL.newP al_tank he2 ?_;intro g W1 q hb1 hg1 hl1;refine EL.store (l' := tkC (wayT ru tk k)) (v := .agg (tkC (wayT ru tk k)).toArray) (g := g) (o := 0) (by simp [evS, ins]) (by simp [evS, ins, h21, h22, ev_]) q sz_120 rfl ((lenV_eq _).trans (tkC_8 htw.n8)) (by rw [lenV_eq, Nat.ble_eq]; exact Nat.le_of_eq (tkC_8 tank0_ok.n8).symm) (tkC_one _) ?_
 intro W2 q2_ hg2;rw [spl_whole ((tkC_8 htw.n8).trans (tkC_8 tank0_ok.n8).symm)] at q2_;refine EL.nil ?_
 exact fun a ha => hK g a W2 ha.g q2_ (below_store hb1 hg2 hg1) hg1
set_option maxHeartbeats 4000000 in
theorem next_any {ru : Rules} {ua up : List Value} {vl va vp vk : Value} {w : World} {B : Nat} (hr : RdRules w B vl va vp vk ru ua up) (hB : B ≤ w.heap.size) (hro : RulesOk ru) {base mb n j : Nat} {F : List Sx} (hf : Front w base mb n j F) (hbs : base ≤ w.heap.size) (hj : j ≤ 100) (hn : n ≤ 1000000000000) {many cg : Nat} (hm : many ≤ 3) (hcg : cg < ru.levels.length) :
  Calls Try.prog 87 #[rulesV vl va vp vk ru, .map (some mb), .int .i64 (many : Nat), .int .i64 (cg : Nat)] w fun e w' => (∃ ob F2 n2, e = .returned (.map (some ob)) ∧ Front w' base ob n2 (j + 1) F2 ∧ n2 ≤ n * 15 ∧ FrontOf (F.flatMap (extY (yardOf ru many) cg)) F2 ∧ w.heap.size ≤ ob) ∧ Below w.heap.size w w' := by
 obtain ⟨Al, cl, Aa, ca, Ap, cp, Ak, ck, rfl, rfl, rfl, rfl⟩ := hr.sh4;have hmbl := hf.lt;have hk4 := hro.k4;have hbw := Below.refl w.heap.size w
 unfold rulesV
 refine EC.marks 93 Try.func87 rfl rfl rfl (ECI.seq (ECI.regionLD (EL.newP (bx_116 rfl) rfl ?_)));intro g1 w1 q1 hb1 hg1 hl1;have bhbw_1 := Nat.le_trans hbw.size hg1;replace hf := hf.below hb1;replace hbw := bo_ hbw hb1;clear hb1 hg1 hl1;refine EL.newP (bx_3 rfl rfl) rfl ?_;intro g2 w2 q2 hb2 hg2 hl2;have n1_2 := q1.na hg2;have bhbw_2 := Nat.le_trans hbw.size hg2;replace q1 := q1.bl hb2;replace hf := hf.below hb2;replace hbw := bo_ hbw hb2;clear hb2 hg2 hl2;refine EL.as rfl rfl (EL.nil (EX.ofD (EXI.seq (ECI.seq (ECI.regionLD (EL.newFront (base := base) (j := j + 1) rfl ?_))))));intro ob w3 hF2 hb3 hob;replace hob := Nat.le_trans hbw.size hob;have hne1 : ob ≠ mb := by omega
 replace q1 := q1.bl hb3;replace q2 := q2.bl hb3;replace hf := hf.below hb3;replace hbw := bo_ hbw hb3;clear hb3;refine EL.newP al_171 rfl ?_;intro g4 w4 q4 hb4 hg4 hl4;have n1_4 := q1.na hg4;have n2_4 := q2.na hg4;have bhbw_4 := Nat.le_trans hbw.size hg4;replace q1 := q1.bl hb4;replace q2 := q2.bl hb4;replace hf := hf.below hb4;replace hF2 := hF2.below hb4;replace hbw := bo_ hbw hb4;clear hb4 hg4 hl4;refine EL.store rfl rfl q4 sz_171 rfl rfl rfl rfl ?_;intro w5 hq5 hg5;replace q1 := q1.gr hg5 n1_4;replace q2 := q2.gr hg5 n2_4;replace hf := hf.box q4 rfl hg5;replace hF2 := hF2.box q4 rfl hg5;replace hbw := below_store hbw hg5 bhbw_4;replace q4 := hq5;clear hg5 hq5;refine EL.nil (EX.ofD (EXI.seq (ECI.seq (ECI.seq (ECI.regionLD (EL.mv rfl rfl ?_))))));obtain ⟨w6, c0, hrun, hR, hcn, hb6⟩ := hf.range;obtain ⟨rr, err⟩ : ∃ z, z = w5.heap.size := ⟨_, rfl⟩;rw [← err] at hrun hR;have hrw : w.heap.size ≤ rr := by rw [err]; exact hbw.size
 have hor : ob < rr := by rw [err]; exact hF2.lt
 refine EL.rangeM rfl rfl hrun ?_;clear hf;replace q1 := q1.bl hb6;replace q2 := q2.bl hb6;replace q4 := q4.bl hb6;replace hF2 := hF2.below hb6;replace hbw := bo_ hbw hb6;clear hb6 hrun;refine EL.nil (EX.ofD (EXI.seq (ECI.block ?_)));refine ECI.loopD [10, 11, 12, 13, 14, 15, 16, 17, 18, 19, 23, 24, 25, 26, 27, 28, 29, 30, 31, 32, 33, 34, 35, 36, 37, 38, 41, 42, 43, 44, 45, 46, 47, 48, 49, 50, 51, 52, 53, 54, 55, 56, 57, 58, 59, 60, 61, 62, 63, 64, 65, 66, 67, 68, 69, 70, 71, 72, 73, 74, 75, 76, 77, 78, 79, 80, 81, 82, 83, 84, 85, 86, 87, 88, 89, 90, 91] (fun x : List Sx × Nat × List Deferred => []) (fun x => x.2.2) (fun x W => RFront W base mb rr n j F x.1 x.2.1 ∧ (∃ F2 n2, Front W base ob n2 (j + 1) F2 ∧ n2 ≤ x.1.length * 15 ∧ FrontOf (x.1.flatMap (extY (yardOf ru many) cg)) F2) ∧ x.1.length + x.2.1 ≤ n ∧ Blk W g1 116 #[.slice Al ru.levels.length cl, .int .i64 ru.fade.lo, .int .i64 ru.fade.hi, .slice Aa ru.allow.length ca, .slice Ap ru.apart.length cp, .slice Ak ru.kinds.length ck] ∧ Blk W g2 3 #[.int .i64 (cg : Nat)] ∧ Blk W g4 171 #[.map (some ob)] ∧ Marks w.heap.size x.2.2 W ∧ x.2.2.Nodup ∧ Below w.heap.size w W) (fun x => x.2.1) ([], c0, []) ⟨hR, ⟨_, _, hF2, Nat.le_refl _, FrontOf.none⟩, by simpa using hcn, q1, q2, q4, (fun d hd => by cases hd), List.nodup_nil, hbw⟩ trivial rfl ?_
 clear q1 q2 q4 hR hF2 hbw
 rintro ⟨D, c, dl⟩ wx ⟨hR, ⟨F2, n2, hF2, hn2, hfo⟩, hDc, q1, q2, q4, hM, hnd, hbw⟩
 dsimp only at hR hn2 hfo hDc hM hnd
 refine ECI.seq (ECI.regionLD ?_)
 rcases hR.next _ with ⟨hall, hrun⟩ | ⟨y, v, w7, c2, hyF, hpv, hrun, hR2, hcnt, hg7, hsz7, hen⟩
 ·
  refine EL.nextM rfl rfl hrun (EL.xt rfl rfl rfl (EL.nil (EX.ofD (EXI.seq (ECI.seq (ECI.no rfl (ECI.exit (EXI.seq_exit (EXI.seq_exit ?_)))))))));refine EXI.blk_here (EXI.seq (ECI.seq (ECI.regionLD (EL.val (ld_171 rfl (q4.at (j := 0) rfl)) rfl (EL.as rfl rfl (EL.nil (EX.ofD (EXI.seq (ECI.ret ?_)))))))));have hR0 := hR.sub
  exact EXI.doneO hM hnd (v := .map (some ob)) (fun w' ht => res1 rfl rfl) (fun w' ht => ⟨⟨ob, F2, n2, rfl, hF2.tookO ht, by omega, hfo.same (fun x => by simp only [List.mem_flatMap]; exact ⟨fun ⟨u, h1, h2⟩ => ⟨u, hR0 u h1, h2⟩, fun ⟨u, h1, h2⟩ => ⟨u, hall u h1, h2⟩⟩), hob⟩, hbw.trans ht.took.below⟩)
 ·
  refine EL.nextM rfl rfl hrun ?_;obtain ⟨Av, cv, rfl, hop⟩ := hpv;obtain ⟨mi, si, sei, ci, hit⟩ := hR.iter;replace q1 := blk_iter2 q1 hR hg7;replace q2 := blk_iter2 q2 hR hg7;replace q4 := blk_iter2 q4 hR hg7;replace hF2 := hF2.mild (.other hg7 hit rfl (by omega))
  replace hM := hM.other hit (fun x e => by cases e) hg7
  replace hbw := hbw.trans (below_blk hg7 hrw hbw.size);clear hR hrun hit hg7 hsz7;have hR := hR2;clear hR2;obtain ⟨hys, hyl, hyw0, hyw1, hyc0, hyc1⟩ := hR.front.ok _ hyF;refine EL.xt rfl rfl rfl (EL.nil (EX.ofD (EXI.seq (ECI.seq (ECI.yes rfl (ECI.skip (EXI.seq (ECI.block (ECI.seq ?_)))))))));refine ECI.regionLD (EL.val (x_entry2 rfl hen) rfl (EL.xt rfl rfl rfl (EL.xt rfl rfl rfl (EL.newP al_fleet rfl ?_))));intro g8 w8 q8 hb8 hg8 hl8;have n1_8 := q1.na hg8;have n2_8 := q2.na hg8;have n4_8 := q4.na hg8;have bhbw_8 := Nat.le_trans hbw.size hg8;replace q1 := q1.bl hb8;replace q2 := q2.bl hb8;replace q4 := q4.bl hb8;replace hR := hR.below hb8;replace hF2 := hF2.below hb8;replace hM := hM.below hb8;replace hop := own_below hop hb8 (Nat.le_refl _);replace hbw := bo_ hbw hb8;clear hb8 hg8 hl8;refine EL.newP al_134 rfl ?_;intro g9 w9 q9 hb9 hg9 hl9;have n1_9 := q1.na hg9;have n2_9 := q2.na hg9;have n4_9 := q4.na hg9;have n8_9 := q8.na hg9;have bhbw_9 := Nat.le_trans hbw.size hg9;replace q1 := q1.bl hb9;replace q2 := q2.bl hb9;replace q4 := q4.bl hb9;replace q8 := q8.bl hb9;replace hR := hR.below hb9;replace hF2 := hF2.below hb9;replace hM := hM.below hb9;replace hop := own_below hop hb9 (Nat.le_refl _);replace hbw := bo_ hbw hb9;clear hb9 hg9 hl9;refine EL.store (l' := (flC y.1)) rfl rfl q8 sz_150 rfl ((lenV_eq _).trans hys.fl.len) (by rw [lenV_eq, Nat.ble_eq]; exact Nat.le_of_eq (fl0_len.symm)) (flC_one _) ?_
  intro w10 hq10 hg10;rw [spl_whole (hys.fl.len.trans fl0_len.symm)] at hq10;replace q1 := q1.gr hg10 n1_8;replace q2 := q2.gr hg10 n2_8;replace q4 := q4.gr hg10 n4_8;replace q9 := q9.gr hg10 n8_9.symm;replace hR := hR.box q8 rfl hg10;replace hF2 := hF2.box q8 rfl hg10;replace hM := hM.keeps (keeps_blk q8 hg10);replace hop := own_type hop q8 rfl hg10;replace hbw := below_store hbw hg10 bhbw_8;replace q8 := hq10;clear hg10 hq10;refine EL.store rfl rfl q9 sz_134 rfl rfl rfl rfl ?_;intro w11 hq11 hg11;replace q1 := q1.gr hg11 n1_9;replace q2 := q2.gr hg11 n2_9;replace q4 := q4.gr hg11 n4_9;replace q8 := q8.gr hg11 n8_9;replace hR := hR.box q9 rfl hg11;replace hF2 := hF2.box q9 rfl hg11;replace hM := hM.keeps (keeps_blk q9 hg11);replace hop := own_type hop q9 rfl hg11;replace hbw := below_store hbw hg11 bhbw_9;replace q9 := hq11;clear hg11 hq11;refine EL.nil (EX.ofD (EXI.seq (ECI.seq (ECI.regionLD (EL.mv rfl rfl (EL.val (x_slfl rfl rfl hm) rfl (EL.val (ln_180 rfl) rfl (EL.mv rfl rfl (EL.nil ?_)))))))));refine EX.ofD (EXI.seq (ECI.block ?_));refine ECI.loopD [12, 13, 14, 15, 16, 17, 18, 19, 31, 32, 33, 34, 35, 36, 37, 38, 41, 42, 43, 44, 45, 46, 47, 48, 49, 50, 51, 52, 53, 54, 55, 56, 57, 58, 59, 60, 61, 62, 63, 64, 65, 66, 67, 68, 69, 70, 71, 72, 73, 74, 75, 76, 77, 78, 79, 80, 81, 82, 83, 84, 85, 86, 87, 88, 89, 90, 91] (fun x : Nat × List Deferred => [(31, .int .i64 (x.1 : Nat))]) (fun x => x.2) (fun x W => x.1 ≤ many ∧ RFront W base mb rr n j F (D ++ [y]) c2 ∧ (∃ F2 n2, Front W base ob n2 (j + 1) F2 ∧ n2 ≤ D.length * 15 + x.1 * 5 ∧ FrontOf (D.flatMap (extY (yardOf ru many) cg) ++ (List.range x.1).flatMap fun i => (kindsL ru.kinds.length).flatMap (ext1 (yardOf ru many) cg y i)) F2) ∧ Blk W g1 116 #[.slice Al ru.levels.length cl, .int .i64 ru.fade.lo, .int .i64 ru.fade.hi, .slice Aa ru.allow.length ca, .slice Ap ru.apart.length cp, .slice Ak ru.kinds.length ck] ∧ Blk W g2 3 #[.int .i64 (cg : Nat)] ∧ Blk W g4 171 #[.map (some ob)] ∧ Blk W g8 150 (flC y.1).toArray ∧ Blk W g9 134 #[.slice Av y.2.steps.length cv, .int .i64 y.2.washes, .int .i64 y.2.cost] ∧ W.ownsRow base 70 2 (.slice Av y.2.steps.length cv) y.2.steps.length (stsC y.2.steps) ∧ Marks w.heap.size x.2 W ∧ x.2.Nodup ∧ Below w.heap.size w W) (fun x => many - x.1) (0, dl) ⟨Nat.zero_le _, hR, ⟨_, _, hF2, by simpa using hn2, by simpa using hfo⟩, q1, q2, q4, q8, q9, hop, hM, hnd, hbw⟩ ⟨rfl, trivial⟩ rfl ?_
  clear q1 q2 q4 q8 q9 hR hF2 hn2 hfo hop hM hnd hbw
  rintro ⟨i, dm⟩ wi ⟨hi, hR, ⟨F3, n3, hF2, hn2, hfo⟩, q1, q2, q4, q8, q9, hop, hM, hnd, hbw⟩
  dsimp only at hi hn2 hfo hM hnd
  by_cases hlt : i < many
  ·
   have hi3 : i < 3 := by omega
   obtain ⟨tk, etk⟩ : ∃ z, z = y.1.getD i [] := ⟨_, rfl⟩;have htk := hys.get hi3;have hpt := tk_at hys.fl hi3;rw [← etk] at htk hpt;refine ECI.seq (ECI.regionLD ?_);refine EL.val (x_lss rfl rfl (decide_eq_true (show (((i : Nat) : Int) < ((many : Nat) : Int)) by omega))) rfl ?_
   refine EL.nil (EX.ofD (EXI.seq (ECI.seq (ECI.yes rfl (ECI.skip (EXI.seq (ECI.seq (ECI.block (ECI.seq ?_)))))))));refine ECI.regionLD (EL.mv rfl rfl (EL.val (ix_180 rfl rfl hlt) rfl ?_));refine EL.val (x_loadA rfl (q8.range (by rw [Nat.zero_add]; exact hpt)) Try.underlying120 rfl (sz_120.trans (congrArg some (tkC_8 htk.n8).symm))) rfl ?_
   refine EL.newP al_3 rfl ?_;intro g12 w12 q12 hb12 hg12 hl12;have n1_12 := q1.na hg12;have n2_12 := q2.na hg12;have n4_12 := q4.na hg12;have n8_12 := q8.na hg12;have n9_12 := q9.na hg12;have bhbw_12 := Nat.le_trans hbw.size hg12;replace q1 := q1.bl hb12;replace q2 := q2.bl hb12;replace q4 := q4.bl hb12;replace q8 := q8.bl hb12;replace q9 := q9.bl hb12;replace hR := hR.below hb12;replace hF2 := hF2.below hb12;replace hM := hM.below hb12;replace hop := own_below hop hb12 (Nat.le_refl _);replace hbw := bo_ hbw hb12;clear hb12 hg12 hl12;refine EL.newP al_tank rfl ?_;intro g13 w13 q13 hb13 hg13 hl13;have n1_13 := q1.na hg13;have n2_13 := q2.na hg13;have n4_13 := q4.na hg13;have n8_13 := q8.na hg13;have n9_13 := q9.na hg13;have n12_13 := q12.na hg13;have bhbw_13 := Nat.le_trans hbw.size hg13;replace q1 := q1.bl hb13;replace q2 := q2.bl hb13;replace q4 := q4.bl hb13;replace q8 := q8.bl hb13;replace q9 := q9.bl hb13;replace q12 := q12.bl hb13;replace hR := hR.below hb13;replace hF2 := hF2.below hb13;replace hM := hM.below hb13;replace hop := own_below hop hb13 (Nat.le_refl _);replace hbw := bo_ hbw hb13;clear hb13 hg13 hl13;refine EL.store rfl rfl q12 sz_3 rfl rfl rfl rfl ?_;intro w14 hq14 hg14;replace q1 := q1.gr hg14 n1_12;replace q2 := q2.gr hg14 n2_12;replace q4 := q4.gr hg14 n4_12;replace q8 := q8.gr hg14 n8_12;replace q9 := q9.gr hg14 n9_12;replace q13 := q13.gr hg14 n12_13.symm;replace hR := hR.box q12 rfl hg14;replace hF2 := hF2.box q12 rfl hg14;replace hM := hM.keeps (keeps_blk q12 hg14);replace hop := own_type hop q12 rfl hg14;replace hbw := below_store hbw hg14 bhbw_12;replace q12 := hq14;clear hg14 hq14;refine EL.store (l' := (tkC tk)) rfl rfl q13 sz_120 rfl ((lenV_eq _).trans (tkC_8 htk.n8)) (by rw [lenV_eq, Nat.ble_eq]; exact Nat.le_of_eq ((tkC_8 tank0_ok.n8).symm)) (tkC_one _) ?_
   intro w15 hq15 hg15;rw [spl_whole ((tkC_8 htk.n8).trans (tkC_8 tank0_ok.n8).symm)] at hq15;replace q1 := q1.gr hg15 n1_13;replace q2 := q2.gr hg15 n2_13;replace q4 := q4.gr hg15 n4_13;replace q8 := q8.gr hg15 n8_13;replace q9 := q9.gr hg15 n9_13;replace q12 := q12.gr hg15 n12_13;replace hR := hR.box q13 rfl hg15;replace hF2 := hF2.box q13 rfl hg15;replace hM := hM.keeps (keeps_blk q13 hg15);replace hop := own_type hop q13 rfl hg15;replace hbw := below_store hbw hg15 bhbw_13;replace q13 := hq15;clear hg15 hq15;refine EL.nil (EX.ofD (EXI.seq (ECI.seq (ECI.regionLD (EL.val (ld_116 rfl (q1.at (j := 0) rfl) (q1.at (j := 1) rfl) (q1.at (j := 2) rfl) (q1.at (j := 3) rfl) (q1.at (j := 4) rfl) (q1.at (j := 5) rfl)) rfl (EL.val (x_loadA rfl (q13.range (PartAt.whole _)) Try.underlying120 rfl (sz_120.trans (congrArg some (tkC_8 htk.n8).symm))) rfl (EL.call (cA2 cF96 rfl rfl) rfl (ways_fn htk.n8 _) ?_)))))))
   rintro e w16 ⟨⟨b1, b2, rfl, qb1, qb2, hb1, hb2⟩, hc16⟩
   refine ⟨_, rfl, ?_⟩;replace q1 := q1.bl hc16;replace q2 := q2.bl hc16;replace q4 := q4.bl hc16;replace q8 := q8.bl hc16;replace q9 := q9.bl hc16;replace q12 := q12.bl hc16;replace q13 := q13.bl hc16;replace hR := hR.below hc16;replace hF2 := hF2.below hc16;replace hM := hM.below hc16;replace hop := own_below hop hc16 (Nat.le_refl _);replace hbw := bo_ hbw hc16;clear hc16;refine EL.nil (EX.ofD (EXI.seq (ECI.block ?_)));have ls_1 := q1.lt;have ls_2 := q2.lt;have ls_4 := q4.lt;have ls_8 := q8.lt;have ls_9 := q9.lt;have ls_12 := q12.lt;have hsz := hbw.size;have hl1 := hF2.lt;have hl2 := hR.front.lt;have hl3 := hR.lt;have hsoft : SoftI w.heap.size w16.heap.size [] (fun pre W => (∃ F2 n2, Front W base ob n2 (j + 1) F2 ∧ n2 ≤ D.length * 15 + i * 5 + pre.length ∧ FrontOf ((D.flatMap (extY (yardOf ru many) cg) ++ (List.range i).flatMap fun i => (kindsL ru.kinds.length).flatMap (ext1 (yardOf ru many) cg y i)) ++ ((kindsL ru.kinds.length).take pre.length).flatMap (ext1 (yardOf ru many) cg y i)) F2) ∧ RFront W base mb rr n j F (D ++ [y]) c2 ∧ Blk W g1 116 #[.slice Al ru.levels.length cl, .int .i64 ru.fade.lo, .int .i64 ru.fade.hi, .slice Aa ru.allow.length ca, .slice Ap ru.apart.length cp, .slice Ak ru.kinds.length ck] ∧ Blk W g2 3 #[.int .i64 (cg : Nat)] ∧ Blk W g4 171 #[.map (some ob)] ∧ Blk W g8 150 (flC y.1).toArray ∧ Blk W g9 134 #[.slice Av y.2.steps.length cv, .int .i64 y.2.washes, .int .i64 y.2.cost] ∧ Blk W g12 3 #[.int .i64 (i : Nat)] ∧ W.ownsRow base 70 2 (.slice Av y.2.steps.length cv) y.2.steps.length (stsC y.2.steps) ∧ MarksIn w.heap.size dm w16 W ∧ Below w.heap.size w W) := fun s A B' ⟨⟨F2, n2, h1, h2, h3⟩, h4, h5, h6, h7, h8, h9, h10, h11, h12, h13⟩ hs => ⟨⟨F2, n2, h1.soft hl1 hs, h2, h3⟩, h4.soft hl2 hl3 hs, hs.blk h5 rfl, hs.blk h6 rfl, hs.blk h7 rfl, hs.blk h8 rfl, hs.blk h9 rfl, hs.blk h10 rfl, own_soft h11 hs, h12.soft (Nat.le_refl _) hs, hs.below h13 h13.size hsz⟩
   refine rangeF2 (MT := 120) (cs := fun x => (tkC (wayT ru tk (x.1.getD 0 0))).toArray) (σ1 := fun x g => _) (ok := okW ru tk) (n0 := w.heap.size) (S := [150, 134]) rfl (fun args w => by kernel_rfl) rfl rfl (ways_iter (hr.below (hbw.mono hB)) hro htk hB hbw.size ⟨rfl, rfl⟩ qb1 qb2) hbw.size (fun pre W => (∃ F2 n2, Front W base ob n2 (j + 1) F2 ∧ n2 ≤ D.length * 15 + i * 5 + pre.length ∧ FrontOf ((D.flatMap (extY (yardOf ru many) cg) ++ (List.range i).flatMap fun i => (kindsL ru.kinds.length).flatMap (ext1 (yardOf ru many) cg y i)) ++ ((kindsL ru.kinds.length).take pre.length).flatMap (ext1 (yardOf ru many) cg y i)) F2) ∧ RFront W base mb rr n j F (D ++ [y]) c2 ∧ Blk W g1 116 #[.slice Al ru.levels.length cl, .int .i64 ru.fade.lo, .int .i64 ru.fade.hi, .slice Aa ru.allow.length ca, .slice Ap ru.apart.length cp, .slice Ak ru.kinds.length ck] ∧ Blk W g2 3 #[.int .i64 (cg : Nat)] ∧ Blk W g4 171 #[.map (some ob)] ∧ Blk W g8 150 (flC y.1).toArray ∧ Blk W g9 134 #[.slice Av y.2.steps.length cv, .int .i64 y.2.washes, .int .i64 y.2.cost] ∧ Blk W g12 3 #[.int .i64 (i : Nat)] ∧ W.ownsRow base 70 2 (.slice Av y.2.steps.length cv) y.2.steps.length (stsC y.2.steps) ∧ MarksIn w.heap.size dm w16 W ∧ Below w.heap.size w W) (fun _ _ => False) hsoft soft_false ⟨⟨_, _, hF2, hn2, by simpa using hfo⟩, hR, q1, q2, q4, q8, q9, q12, hop, hM.refl, hbw⟩ (fun _ _ _ _ h _ _ => h) (fun _ _ _ h _ => h) (assignW hro htk rfl rfl rfl rfl rfl) ?_ ?_ ?_
   ·
    clear q1 q2 q4 q8 q9 q12 hF2 hn2 hfo hR hop hM qb1 qb2;clear hbw
    rintro la pre ⟨x1, x2⟩ g15 W hpf ⟨k, ek, ev_⟩ ⟨⟨F4, n4, hF2, hn2, hfo⟩, hR, q1, q2, q4, q8, q9, q12, hop, hM, hbw⟩ q15 hg15 hWs
    dsimp only at ek ev_
    subst ek ev_;change Blk W g15 120 (tkC (wayT ru tk k)).toArray at q15;obtain ⟨hpl, hpk, _⟩ := pre_k hpf
    injection hpk with hpk _
    have hkv := kinds_val hpl;rw [← hpk] at hkv;have htw := wayT_ok hro htk k;have hkp := Kp.refl w.heap.size [150, 134] W;have hkf := KeepsFrom.refl w16.heap.size W;have nm_1 : g1 ≠ g15 := Nat.ne_of_lt (Nat.lt_of_lt_of_le ls_1 hg15);have nm_2 : g2 ≠ g15 := Nat.ne_of_lt (Nat.lt_of_lt_of_le ls_2 hg15);have nm_4 : g4 ≠ g15 := Nat.ne_of_lt (Nat.lt_of_lt_of_le ls_4 hg15);have nm_8 : g8 ≠ g15 := Nat.ne_of_lt (Nat.lt_of_lt_of_le ls_8 hg15);have nm_9 : g9 ≠ g15 := Nat.ne_of_lt (Nat.lt_of_lt_of_le ls_9 hg15);have nm_12 : g12 ≠ g15 := Nat.ne_of_lt (Nat.lt_of_lt_of_le ls_12 hg15);have bhbw_m := Nat.le_trans hsz hg15
    cases hmay : (mayT ru (wayT ru tk k) cg ru.levels.length).1
    ·
     have hgo : goT ru cg y.1 i k = none := by unfold goT; rw [← etk, hmay]; rfl
     refine ECI.block (ECI.seq (ECI.seq ?_));refine ECI.regionL (by repeat (first | exact lets_body | exact lets_no | refine lets_then ?_ | refine lets_blk ?_)) (by kernel_rfl) ?_
     refine EL.val (ld_116 rfl (q1.at (j := 0) rfl) (q1.at (j := 1) rfl) (q1.at (j := 2) rfl) (q1.at (j := 3) rfl) (q1.at (j := 4) rfl) (q1.at (j := 5) rfl)) rfl (EL.val (x_loadA rfl (q15.range (PartAt.whole _)) Try.underlying120 rfl (sz_120.trans (congrArg some (tkC_8 htw.n8).symm))) rfl (EL.val (ld_3 rfl (q2.at (j := 0) rfl)) rfl ?_));have hcall := may_any (hr.below (hbw.mono hB)) (Nat.le_trans hB hbw.size) hro htw hcg;rw [hmay] at hcall;refine EL.call (cA3 cF65 rfl rfl rfl) rfl (hcall) ?_
     rintro e w17 ⟨rfl, hc17⟩
     refine ⟨_, rfl, ?_⟩;replace q1 := q1.bl hc17;replace q2 := q2.bl hc17;replace q4 := q4.bl hc17;replace q8 := q8.bl hc17;replace q9 := q9.bl hc17;replace q12 := q12.bl hc17;replace q15 := q15.bl hc17;replace hkp := hkp.trans (Kp.of_below hc17 hbw.size);replace hkf := hkf.trans (KeepsFrom.below hc17);replace hR := hR.below hc17;replace hF2 := hF2.below hc17;replace hM := hM.below hc17;replace hop := own_below hop hc17 (Nat.le_refl _);replace hbw := bo_ hbw hc17;clear hc17;clear hcall;refine EL.mv rfl rfl (EL.xt rfl rfl rfl (EL.xt rfl rfl rfl (EL.as rfl rfl (EL.as rfl rfl (EL.nil (EX.toI (EXI.seq (ECI.seq ?_))))))));refine ECI.regionL (by repeat (first | exact lets_body | exact lets_no | refine lets_then ?_ | refine lets_blk ?_)) (by kernel_rfl) ?_
     refine EL.mv rfl rfl (EL.val (x_not rfl) rfl (EL.nil (EX.toI (EXI.seq (ECI.yes rfl (ECI.exit (EXI.seq_exit (EXI.blk_here ?_))))))))
     exact fun a0 ha0 => ⟨hkf, hkp, .inl ⟨rfl, ⟨_, _, hF2, by simp only [List.length_append, List.length_singleton]; omega, by rw [flatK_succ hpf rfl]; exact frontK_no hfo hgo⟩, hR, q1, q2, q4, q8, q9, q12, hop, hM, hbw⟩⟩
    ·
     have hgo : goT ru cg y.1 i k = some (y.1.set i (loadT ru (wayT ru tk k) cg)) := by unfold goT; rw [← etk, hmay]; rfl
     have hsf : FlOk (y.1.set i (loadT ru (wayT ru tk k) cg)) := goT_ok hro hys hi3 hgo;have htl := loadT_ok htw hro cg;refine ECI.block (ECI.seq (ECI.seq ?_));refine ECI.regionL (by repeat (first | exact lets_body | exact lets_no | refine lets_then ?_ | refine lets_blk ?_)) (by kernel_rfl) ?_
     refine EL.val (ld_116 rfl (q1.at (j := 0) rfl) (q1.at (j := 1) rfl) (q1.at (j := 2) rfl) (q1.at (j := 3) rfl) (q1.at (j := 4) rfl) (q1.at (j := 5) rfl)) rfl (EL.val (x_loadA rfl (q15.range (PartAt.whole _)) Try.underlying120 rfl (sz_120.trans (congrArg some (tkC_8 htw.n8).symm))) rfl (EL.val (ld_3 rfl (q2.at (j := 0) rfl)) rfl ?_));have hcall := may_any (hr.below (hbw.mono hB)) (Nat.le_trans hB hbw.size) hro htw hcg;rw [hmay] at hcall;refine EL.call (cA3 cF65 rfl rfl rfl) rfl (hcall) ?_
     rintro e w18 ⟨rfl, hc18⟩
     refine ⟨_, rfl, ?_⟩;replace q1 := q1.bl hc18;replace q2 := q2.bl hc18;replace q4 := q4.bl hc18;replace q8 := q8.bl hc18;replace q9 := q9.bl hc18;replace q12 := q12.bl hc18;replace q15 := q15.bl hc18;replace hkp := hkp.trans (Kp.of_below hc18 hbw.size);replace hkf := hkf.trans (KeepsFrom.below hc18);replace hR := hR.below hc18;replace hF2 := hF2.below hc18;replace hM := hM.below hc18;replace hop := own_below hop hc18 (Nat.le_refl _);replace hbw := bo_ hbw hc18;clear hc18;clear hcall;refine EL.mv rfl rfl (EL.xt rfl rfl rfl (EL.xt rfl rfl rfl (EL.as rfl rfl (EL.as rfl rfl (EL.nil (EX.toI (EXI.seq (ECI.seq ?_))))))));refine ECI.regionL (by repeat (first | exact lets_body | exact lets_no | refine lets_then ?_ | refine lets_blk ?_)) (by kernel_rfl) ?_
     refine EL.mv rfl rfl (EL.val (x_not rfl) rfl (EL.nil (EX.toI (EXI.seq (ECI.no rfl (ECI.skip (EXI.seq (ECI.seq ?_))))))));refine ECI.regionL (by repeat (first | exact lets_body | exact lets_no | refine lets_then ?_ | refine lets_blk ?_)) (by kernel_rfl) ?_
     refine EL.val (x_loadA rfl (q8.range (PartAt.whole _)) Try.underlying150 rfl (sz_150.trans (congrArg some hys.fl.len.symm))) rfl (EL.newP al_fleet rfl ?_);intro g19 w19 q19 hb19 hg19 hl19;have n1_19 := q1.na hg19;have n2_19 := q2.na hg19;have n4_19 := q4.na hg19;have n8_19 := q8.na hg19;have n9_19 := q9.na hg19;have n12_19 := q12.na hg19;have nm_19 := q15.na hg19;have bhbw_19 := Nat.le_trans hbw.size hg19;replace q1 := q1.bl hb19;replace q2 := q2.bl hb19;replace q4 := q4.bl hb19;replace q8 := q8.bl hb19;replace q9 := q9.bl hb19;replace q12 := q12.bl hb19;replace q15 := q15.bl hb19;replace hkp := hkp.trans (Kp.of_below hb19 hbw.size);replace hkf := hkf.trans (KeepsFrom.below hb19);replace hR := hR.below hb19;replace hF2 := hF2.below hb19;replace hM := hM.below hb19;replace hop := own_below hop hb19 (Nat.le_refl _);replace hbw := bo_ hbw hb19;clear hb19 hg19 hl19;refine EL.store (l' := (flC y.1)) rfl rfl q19 sz_150 rfl ((lenV_eq _).trans hys.fl.len) (by rw [lenV_eq, Nat.ble_eq]; exact Nat.le_of_eq (fl0_len.symm)) (flC_one _) ?_
     intro w20 hq20 hg20;rw [spl_whole (hys.fl.len.trans fl0_len.symm)] at hq20;replace q1 := q1.gr hg20 n1_19;replace q2 := q2.gr hg20 n2_19;replace q4 := q4.gr hg20 n4_19;replace q8 := q8.gr hg20 n8_19;replace q9 := q9.gr hg20 n9_19;replace q12 := q12.gr hg20 n12_19;replace q15 := q15.gr hg20 nm_19;replace hkp := hkp.trans (Kp.grown q19 rfl bhbw_19 hg20);replace hkf := hkf.trans (.of (keeps_blk q19 hg20));replace hR := hR.box q19 rfl hg20;replace hF2 := hF2.box q19 rfl hg20;replace hM := hM.keeps (keeps_blk q19 hg20);replace hop := own_type hop q19 rfl hg20;replace hbw := below_store hbw hg20 bhbw_19;replace q19 := hq20;clear hg20 hq20;refine EL.nil (EX.toI (EXI.seq (ECI.seq ?_)));have lt_1 := q1.lt;have lt_2 := q2.lt;have lt_4 := q4.lt;have lt_8 := q8.lt;have lt_9 := q9.lt;have lt_12 := q12.lt;have lt_m := q15.lt;have lt_19 := q19.lt;refine ECI.regionO (by repeat (first | exact lets_body | exact lets_no | refine lets_then ?_ | refine lets_blk ?_)) (by kernel_rfl) (EO.regionP [[], [], [], [], [1, 2, 3], [0, 1, 2, 3, 4], [0, 1, 2, 3, 4, 5]] 5 [] (phi (fun i_ r => match i_ with | 0 => r 0 = .int .i64 (i : Nat) | 1 => r 1 = .agg #[.slice Al ru.levels.length cl, .int .i64 ru.fade.lo, .int .i64 ru.fade.hi, .slice Aa ru.allow.length ca, .slice Ap ru.apart.length cp, .slice Ak ru.kinds.length ck] | 2 => r 2 = .agg (tkC (wayT ru tk k)).toArray | 3 => r 3 = .int .i64 (cg : Nat) | 4 => r 4 = .agg (tkC (loadT ru (wayT ru tk k) cg)).toArray | _ => True) []) (by kernel_rfl) rfl rfl (phi_nil) (fun i_ hi_ => ?_) ?_)
     ·match i_, hi_ with
      | 0, _ =>
       intro val w1 a hb ha hd;have ha := ha.s0 (d := 12) rfl
       exact hs_val ha rfl rfl (ld_3 rfl ((q12.below hb q12.lt).at (j := 0) rfl)) rfl rfl
      | 1, _ =>
       intro val w1 a hb ha hd;have ha := ha.s0 (d := 4) rfl
       exact hs_val ha rfl rfl (ld_116 rfl ((q1.below hb q1.lt).at (j := 0) rfl) ((q1.below hb q1.lt).at (j := 1) rfl) ((q1.below hb q1.lt).at (j := 2) rfl) ((q1.below hb q1.lt).at (j := 3) rfl) ((q1.below hb q1.lt).at (j := 4) rfl) ((q1.below hb q1.lt).at (j := 5) rfl)) rfl rfl
      | 2, _ =>
       intro val w1 a hb ha hd;have ha := ha.s0 (d := 15) rfl
       exact hs_val ha rfl rfl (x_loadA rfl ((q15.below hb q15.lt).range (PartAt.whole _)) Try.underlying120 rfl (sz_120.trans (congrArg some (tkC_8 htw.n8).symm))) rfl rfl
      | 3, _ =>
       intro val w1 a hb ha hd;have ha := ha.s0 (d := 7) rfl
       exact hs_val ha rfl rfl (ld_3 rfl ((q2.below hb q2.lt).at (j := 0) rfl)) rfl rfl
      | 4, _ =>
       intro val w1 a hb ha hd;have e1 : val 1 = _ := hd 1 (memB_mem.1 rfl);have e2 : val 2 = _ := hd 2 (memB_mem.1 rfl);have e3 : val 3 = _ := hd 3 (memB_mem.1 rfl);have ha := ha.sub (Sub.ins (d := 54) (Sub.ins (d := 53) (Sub.ins (d := 52) (Sub.nil _) (dep_get rfl e1)) (dep_get rfl e2)) (dep_get rfl e3));refine hs_call ha rfl rfl (cA3 cF73 rfl rfl rfl) (load_any (hr.below ((hbw.trans (hb.mono hbw.size)).mono hB)) hro htw hcg) rfl ?_
       rintro e w' ⟨rfl, hb'⟩
       exact ⟨_, rfl, hb', rfl⟩
      | k + 5, h => exact absurd h (by omega)
     ·intro val wR14 hb halc hd
      have e0 : val 0 = _ := hd 0 (by omega)
      have e1 : val 1 = _ := hd 1 (by omega)
      have e2 : val 2 = _ := hd 2 (by omega)
      have e3 : val 3 = _ := hd 3 (by omega)
      have e4 : val 4 = _ := hd 4 (by omega)
      refine EL.ends (cs := [_, _, _, _, _]) ⟨e0, e1, e2, e3, e4, trivial⟩ rfl ?_;replace q1 := q1.bl hb;replace q2 := q2.bl hb;replace q4 := q4.bl hb;replace q8 := q8.bl hb;replace q9 := q9.bl hb;replace q12 := q12.bl hb;replace q15 := q15.bl hb;replace q19 := q19.bl hb;replace hkp := hkp.trans (Kp.of_below hb hbw.size);replace hkf := hkf.trans (KeepsFrom.below hb);replace hR := hR.below hb;replace hF2 := hF2.below hb;replace hM := hM.below hb;replace hop := own_below hop hb (Nat.le_refl _);replace hbw := bo_ hbw hb;clear hb;refine EL.val (ixa_150 rfl rfl hi3) rfl ?_;refine EL.store (l' := tkC (loadT ru (wayT ru tk k) cg)) rfl rfl q19 sz_120 rfl ((lenV_eq _).trans (tkC_8 htl.n8)) (by rw [lenV_eq, Nat.ble_eq, hys.fl.len]; omega) (tkC_one _) ?_
      intro w21 hq21 hg21;rw [Nat.zero_add, tk_set hys.fl hi3 htl.n8] at hq21;replace q1 := q1.gr hg21 n1_19;replace q2 := q2.gr hg21 n2_19;replace q4 := q4.gr hg21 n4_19;replace q8 := q8.gr hg21 n8_19;replace q9 := q9.gr hg21 n9_19;replace q12 := q12.gr hg21 n12_19;replace q15 := q15.gr hg21 nm_19;replace hkp := hkp.trans (Kp.grown q19 rfl bhbw_19 hg21);replace hkf := hkf.trans (.of (keeps_blk q19 hg21));replace hR := hR.box q19 rfl hg21;replace hF2 := hF2.box q19 rfl hg21;replace hM := hM.keeps (keeps_blk q19 hg21);replace hop := own_type hop q19 rfl hg21;replace hbw := below_store hbw hg21 bhbw_19;replace q19 := hq21;clear hg21 hq21;refine EL.nil (EX.toI (EXI.seq (ECI.seq ?_)));have lt_1 := q1.lt;have lt_2 := q2.lt;have lt_4 := q4.lt;have lt_8 := q8.lt;have lt_9 := q9.lt;have lt_12 := q12.lt;have lt_m := q15.lt;have lt_19 := q19.lt;refine ECI.regionO (by repeat (first | exact lets_body | exact lets_no | refine lets_then ?_ | refine lets_blk ?_)) (by kernel_rfl) (EO.regionP [[], [0], [0, 1], [], [], [3, 4], [3, 4, 5], [0, 1, 2, 3, 4, 5, 6], [], [8], [], [10], [0, 1, 2, 3, 4, 5, 6, 7, 8, 9, 10, 11], [], [0, 1, 2, 3, 4, 5, 6, 7, 8, 9, 10, 11, 12, 13]] 14 [13] (phi (fun i_ r => match i_ with | 0 => r 0 = .pointer (some ⟨g9, 0, none⟩) | 1 => r 1 = .slice Av y.2.steps.length cv | 2 => r 2 = .slice Av y.2.steps.length y.2.steps.length | 3 => r 3 = .int .i64 (i : Nat) | 4 => r 4 = .int .i64 k | 5 => r 5 = .agg #[.int .i64 (i : Nat), .int .i64 k] | 8 => r 8 = .pointer (some ⟨g9, 1, none⟩) | 9 => r 9 = .int .i64 y.2.washes | 10 => r 10 = .pointer (some ⟨g9, 2, none⟩) | 11 => r 11 = .int .i64 y.2.cost | _ => True) [(6, fun r w_ => ∃ g_, r 6 = .slice (some ⟨g_, 0, none⟩) 1 1 ∧ Blk w_ g_ 70 #[.int .i64 (i : Nat), .int .i64 k] ∧ w21.heap.size ≤ g_), (7, fun r w_ => ∃ A c, r 7 = .slice A (y.2.steps.length + 1) c ∧ w_.ownsRow base 70 2 (.slice A (y.2.steps.length + 1) c) (y.2.steps.length + 1) (stsC y.2.steps ++ [.int .i64 (i : Nat), .int .i64 k])), (12, fun r w_ => ∃ A c, r 12 = .agg #[.slice A (y.2.steps.length + 1) c, .int .i64 y.2.washes, .int .i64 y.2.cost] ∧ w_.ownsRow base 70 2 (.slice A (y.2.steps.length + 1) c) (y.2.steps.length + 1) (stsC y.2.steps ++ [.int .i64 (i : Nat), .int .i64 k])), (13, fun r w_ => ∃ g_, r 13 = .pointer (some ⟨g_, 0, none⟩) ∧ Blk w_ g_ 134 #[.slice none 0 0, .int .i64 0, .int .i64 0])]) (by kernel_rfl) rfl rfl (phi_cons mono_bs (phi_cons (mono_cp (f := fun A c => .slice A (y.2.steps.length + 1) c)) (phi_cons (mono_cp (f := fun A c => .agg #[.slice A (y.2.steps.length + 1) c, .int .i64 y.2.washes, .int .i64 y.2.cost])) (phi_cons mono_alloc (phi_nil))))) (fun i_ hi_ => ?_) ?_)
      ·match i_, hi_ with
       | 0, _ =>
        intro val w1 a hb ha hd;have ha := ha.s0 (d := 11) rfl
        exact hs_val ha rfl rfl (fa_134_0 rfl) rfl rfl
       | 1, _ =>
        intro val w1 a hb ha hd;have e0 : val 0 = _ := hd 0 (memB_mem.1 rfl);have ha := ha.s1 (d := 57) rfl e0
        exact hs_val ha rfl rfl (ld_65 rfl ((q9.below hb q9.lt).at (j := 0) rfl)) rfl rfl
       | 2, _ =>
        intro val w1 a hb ha hd;have e1 : val 1 = _ := hd 1 (memB_mem.1 rfl);have ha := ha.s1 (d := 58) rfl e1;refine hs_call ha rfl rfl (cA1 cF97 rfl) (Clip_any _ (own_below hop hb (Nat.le_refl _))) rfl ?_
        rintro e w' ⟨rfl, hb'⟩
        exact ⟨_, rfl, hb', rfl⟩
       | 3, _ =>
        intro val w1 a hb ha hd;have ha := ha.s0 (d := 12) rfl
        exact hs_val ha rfl rfl (ld_3 rfl ((q12.below hb q12.lt).at (j := 0) rfl)) rfl rfl
       | 4, _ =>
        intro val w1 a hb ha hd;have ha := ha.s0 (d := 14) rfl
        exact hs_val ha rfl rfl (x_move rfl) rfl rfl
       | 5, _ =>
        intro val w1 a hb ha hd;have e3 : val 3 = _ := hd 3 (memB_mem.1 rfl);have e4 : val 4 = _ := hd 4 (memB_mem.1 rfl);have ha := ha.s2 (d := 61) (e := 60) rfl e4 rfl e3
        exact hs_val ha rfl rfl (bd_70_0_1 rfl rfl) rfl rfl
       | 6, _ =>
        intro val w1 a hb ha hd;have e5 : val 5 = _ := hd 5 (memB_mem.1 rfl);have ha := ha.s1 (d := 62) rfl e5
        exact hs_newS ha rfl rfl (bs_65_1 rfl) rfl (fun g w' hq _ hge => ⟨g, rfl, hq, Nat.le_trans hb.size hge⟩)
       | 7, _ =>
        intro val w1 a hb ha hd;have e2 : val 2 = _ := hd 2 (memB_mem.1 rfl);obtain ⟨g6_, e6, q6_, h6_⟩ := hd 6 (memB_mem.1 rfl);change val 6 = _ at e6;have ha := ha.s2 (d := 63) (e := 59) rfl e6 rfl e2;refine hs_grow (base := base) st_elem ha rfl rfl rfl (rd_clip (Rd.of_own (own_below hop hb (Nat.le_refl _)))) (rd_one (l := [.int .i64 (i : Nat), .int .i64 k]) q6_ rfl) (by omega) (by omega) rfl (by have := hb.size; have := hbw.size; omega) rfl ?_
        intro v' w' ho' _;obtain ⟨A', c', rfl, _⟩ := (Rd.of_own ho').shape
        exact ⟨A', c', rfl, ho'⟩
       | 8, _ =>
        intro val w1 a hb ha hd;have ha := ha.s0 (d := 11) rfl
        exact hs_val ha rfl rfl (fa_134_1 rfl) rfl rfl
       | 9, _ =>
        intro val w1 a hb ha hd;have e8 : val 8 = _ := hd 8 (memB_mem.1 rfl);have ha := ha.s1 (d := 65) rfl e8
        exact hs_val ha rfl rfl (ld_3 rfl ((q9.below hb q9.lt).at (j := 1) rfl)) rfl rfl
       | 10, _ =>
        intro val w1 a hb ha hd;have ha := ha.s0 (d := 11) rfl
        exact hs_val ha rfl rfl (fa_134_2 rfl) rfl rfl
       | 11, _ =>
        intro val w1 a hb ha hd;have e10 : val 10 = _ := hd 10 (memB_mem.1 rfl);have ha := ha.s1 (d := 67) rfl e10
        exact hs_val ha rfl rfl (ld_3 rfl ((q9.below hb q9.lt).at (j := 2) rfl)) rfl rfl
       | 12, _ =>
        intro val w1 a hb ha hd;obtain ⟨A7_, c7_, e7, ho7_⟩ := hd 7 (memB_mem.1 rfl);have e9 : val 9 = _ := hd 9 (memB_mem.1 rfl);have e11 : val 11 = _ := hd 11 (memB_mem.1 rfl);have ha := ha.sub (Sub.ins (d := 68) (Sub.ins (d := 66) (Sub.ins (d := 64) (Sub.nil _) (dep_get rfl e7)) (dep_get rfl e9)) (dep_get rfl e11))
        exact hs_val ha rfl rfl (bd_134_0_1_2 rfl rfl rfl) ⟨A7_, c7_, rfl, ho7_⟩ rfl
       | 13, _ =>
        intro val w1 a hb ha hd;have ha := ha.sub (Sub.nil _)
        exact hs_newP ha rfl rfl al_134 (fun g w' hq _ _ => ⟨g, rfl, hq⟩)
       | k + 14, h => exact absurd h (by omega)
      ·intro val wR15 hb halc hd
       have e0 : val 0 = _ := hd 0 (by omega)
       have e1 : val 1 = _ := hd 1 (by omega)
       have e2 : val 2 = _ := hd 2 (by omega)
       have e3 : val 3 = _ := hd 3 (by omega)
       have e4 : val 4 = _ := hd 4 (by omega)
       have e5 : val 5 = _ := hd 5 (by omega)
       obtain ⟨ga6_15, e6, qa6_15, hga6_15⟩ := hd 6 (by omega)
       change val 6 = _ at e6;change Blk wR15 ga6_15 70 #[.int .i64 (i : Nat), .int .i64 k] at qa6_15;obtain ⟨A7_, c7_, e7, ho7_⟩ := hd 7 (by omega)
       have e8 : val 8 = _ := hd 8 (by omega)
       have e9 : val 9 = _ := hd 9 (by omega)
       have e10 : val 10 = _ := hd 10 (by omega)
       have e11 : val 11 = _ := hd 11 (by omega)
       obtain ⟨An, cn, e12, hon⟩ := hd 12 (by omega)
       obtain ⟨ga13_15, e13, qa13_15⟩ := hd 13 (by omega)
       refine EL.ends (cs := [_, _, _, _, _, _, _, _, _, _, _, _, _, _]) ⟨e0, e1, e2, e3, e4, e5, e6, e7, e8, e9, e10, e11, e12, e13, trivial⟩ rfl ?_;replace q1 := q1.bl hb;replace q2 := q2.bl hb;replace q4 := q4.bl hb;replace q8 := q8.bl hb;replace q9 := q9.bl hb;replace q12 := q12.bl hb;replace q15 := q15.bl hb;replace q19 := q19.bl hb;replace hkp := hkp.trans (Kp.of_below hb hbw.size);replace hkf := hkf.trans (KeepsFrom.below hb);replace hR := hR.below hb;replace hF2 := hF2.below hb;replace hM := hM.below hb;replace hop := own_below hop hb (Nat.le_refl _);have bge22 := alc_ge halc (i := 13) rfl rfl e13;have n1_22 : g1 ≠ ga13_15 := Nat.ne_of_lt (Nat.lt_of_lt_of_le lt_1 bge22);have n2_22 : g2 ≠ ga13_15 := Nat.ne_of_lt (Nat.lt_of_lt_of_le lt_2 bge22);have n4_22 : g4 ≠ ga13_15 := Nat.ne_of_lt (Nat.lt_of_lt_of_le lt_4 bge22);have n8_22 : g8 ≠ ga13_15 := Nat.ne_of_lt (Nat.lt_of_lt_of_le lt_8 bge22);have n9_22 : g9 ≠ ga13_15 := Nat.ne_of_lt (Nat.lt_of_lt_of_le lt_9 bge22);have n12_22 : g12 ≠ ga13_15 := Nat.ne_of_lt (Nat.lt_of_lt_of_le lt_12 bge22);have nm_22 : g15 ≠ ga13_15 := Nat.ne_of_lt (Nat.lt_of_lt_of_le lt_m bge22);have n19_22 : g19 ≠ ga13_15 := Nat.ne_of_lt (Nat.lt_of_lt_of_le lt_19 bge22);have bhbw_22 := Nat.le_trans hbw.size bge22;have n1_23 : g1 ≠ ga6_15 := Nat.ne_of_lt (Nat.lt_of_lt_of_le lt_1 hga6_15);have n2_23 : g2 ≠ ga6_15 := Nat.ne_of_lt (Nat.lt_of_lt_of_le lt_2 hga6_15);have n4_23 : g4 ≠ ga6_15 := Nat.ne_of_lt (Nat.lt_of_lt_of_le lt_4 hga6_15);have n8_23 : g8 ≠ ga6_15 := Nat.ne_of_lt (Nat.lt_of_lt_of_le lt_8 hga6_15);have n9_23 : g9 ≠ ga6_15 := Nat.ne_of_lt (Nat.lt_of_lt_of_le lt_9 hga6_15);have n12_23 : g12 ≠ ga6_15 := Nat.ne_of_lt (Nat.lt_of_lt_of_le lt_12 hga6_15);have nm_23 : g15 ≠ ga6_15 := Nat.ne_of_lt (Nat.lt_of_lt_of_le lt_m hga6_15);have n19_23 : g19 ≠ ga6_15 := Nat.ne_of_lt (Nat.lt_of_lt_of_le lt_19 hga6_15);have bhbw_23 := Nat.le_trans hbw.size hga6_15;replace hbw := bo_ hbw hb;clear hb;clear ho7_;change wR15.ownsRow base 70 2 (.slice An (y.2.steps.length + 1) cn) (y.2.steps.length + 1) (stsC y.2.steps ++ [.int .i64 (i : Nat), .int .i64 k]) at hon;refine EL.store rfl rfl qa13_15 sz_134 rfl rfl rfl rfl ?_;intro w24 hq24 hg24;replace q1 := q1.gr hg24 n1_22;replace q2 := q2.gr hg24 n2_22;replace q4 := q4.gr hg24 n4_22;replace q8 := q8.gr hg24 n8_22;replace q9 := q9.gr hg24 n9_22;replace q12 := q12.gr hg24 n12_22;replace q15 := q15.gr hg24 nm_22;replace q19 := q19.gr hg24 n19_22;replace hkp := hkp.trans (Kp.grown qa13_15 rfl bhbw_22 hg24);replace hkf := hkf.trans (.of (keeps_blk qa13_15 hg24));replace hR := hR.box qa13_15 rfl hg24;replace hF2 := hF2.box qa13_15 rfl hg24;replace hM := hM.keeps (keeps_blk qa13_15 hg24);replace hop := own_type hop qa13_15 rfl hg24;replace hon := own_type hon qa13_15 rfl hg24;replace hbw := below_store hbw hg24 bhbw_22;replace qa13_15 := hq24;clear hg24 hq24;refine EL.nil (EX.toI (EXI.seq (ECI.seq (ECI.seq ?_))));refine ECI.regionL (by repeat (first | exact lets_body | exact lets_no | refine lets_then ?_ | refine lets_blk ?_)) (by kernel_rfl) ?_
       refine EL.mv rfl rfl ?_
       rcases hkv with ⟨_, ekn⟩ | ⟨kn, hkn, ekn⟩
       ·
        have hnk : numK k = 0 := by unfold numK; rw [if_pos (by omega)]
        have hck : kcost ru k = 0 := by unfold kcost; rw [if_pos (by omega)]
        refine EL.val (x_geq (r := false) rfl rfl (decide_eq_false (show ¬(0 : Int) ≤ k by omega))) rfl ?_
        refine EL.nil (EX.toI (EXI.seq (ECI.no rfl (ECI.skip (EXI.seq ?_)))));refine ECI.regionL (by repeat (first | exact lets_body | exact lets_no | refine lets_then ?_ | refine lets_blk ?_)) (by kernel_rfl) ?_
        refine EL.val (ld_171 rfl (q4.at (j := 0) rfl)) rfl (EL.val (x_loadA rfl (q19.range (PartAt.whole _)) Try.underlying150 rfl (sz_150.trans (congrArg some hsf.fl.len.symm))) rfl (EL.val (ld_134 rfl (qa13_15.at (j := 0) rfl) (qa13_15.at (j := 1) rfl) (qa13_15.at (j := 2) rfl)) rfl ?_));have hpn := addS_ok hro (p := y.2) (j := j) ⟨hyl, hyw0, hyw1, hyc0, hyc1⟩ i k;have hpv := plv_add (i := i) (k := k) hon (a := y.2.washes) (b := y.2.cost) (n := numK k) (cst := kcost ru k) (by omega) (by omega)
        refine EL.call (cA3 cF98 rfl rfl rfl) rfl (note_any hF2 (by simp only [maxLen]; omega) hsf hpv hpn (by omega)) ?_
        rintro e w25 ⟨rfl, hg25, F5, hf5, hall5⟩
        refine ⟨_, rfl, ?_⟩;obtain ⟨es_, ck_, hmap⟩ := hF2.map;replace q1 := blk_map2 q1 hF2 hg25;replace q2 := blk_map2 q2 hF2 hg25;replace q4 := blk_map2 q4 hF2 hg25;replace q8 := blk_map2 q8 hF2 hg25;replace q9 := blk_map2 q9 hF2 hg25;replace q12 := blk_map2 q12 hF2 hg25;replace q15 := blk_map2 q15 hF2 hg25;replace q19 := blk_map2 q19 hF2 hg25;replace qa13_15 := blk_map2 qa13_15 hF2 hg25;replace hR := hR.other hF2 hg25 hne1 (by omega)
        replace hop := own_map hop hF2 hg25;replace hM := hM.other hmap (fun x e => by cases e) hg25
        replace hkp := hkp.trans (Kp.other hob hmap rfl hg25);replace hkf := hkf.trans (KeepsFrom.low hg25 hl1);replace hbw := hbw.trans (below_blk hg25 hob hbw.size);clear hmap hF2 hon;have hF2 := hf5;clear hf5;refine EL.nil (EX.toI (EXI.blk ?_))
        exact fun a0 ha0 => ⟨hkf, hkp, .inl ⟨rfl, ⟨_, _, hF2, by simp only [List.length_append, List.length_singleton]; omega, by rw [flatK_succ hpf rfl]; exact frontK_yes hgo (hall5 _ hfo)⟩, hR, q1, q2, q4, q8, q9, q12, hop, hM, hbw⟩⟩
       ·
        have hnk : numK k = 1 := by unfold numK; rw [if_neg (by omega)]
        have hck : kcost ru k = (ru.kinds.getD kn kd0).cost := by unfold kcost; rw [if_neg (by omega), ekn, Int.toNat_natCast]
        obtain ⟨bk, ok, e1_, _, hkd⟩ := kds_cells ru.kinds kn hkn w B _ _ _ hr.kinds;have hkb := (kd_bd hro kn).2.2;refine EL.val (x_geq (r := true) rfl rfl (decide_eq_true (show (0 : Int) ≤ k by omega))) rfl ?_
        refine EL.nil (EX.toI (EXI.seq (ECI.yes rfl ?_)));refine ECI.regionO (by repeat (first | exact lets_body | exact lets_no | refine lets_then ?_ | refine lets_blk ?_)) (by kernel_rfl) (EO.regionS [[], [0], [0, 1], [], [3], [], [5], [5, 6], [], [5, 6, 7, 8], [5, 6, 7, 8, 9], [5, 6, 7, 8, 9, 10], [3, 4, 5, 6, 7, 8, 9, 10, 11], [0, 1, 2, 3, 4], [0, 1, 2, 3, 4, 13], [0, 1, 2, 3, 4, 5, 6, 7, 8, 9, 10, 11, 12, 13, 14], [0, 1, 2, 3, 4, 5, 6, 7, 8, 9, 10, 11, 12, 13, 14, 15]] 15 [] [14] (fun fl w_ => w24.grownBy w_ (some ga13_15) ∧ (fl 14 = false → Blk w_ ga13_15 134 [.slice An (y.2.steps.length + 1) cn, .int .i64 y.2.washes, .int .i64 y.2.cost].toArray)) (phiS (fun i_ r => match i_ with | 0 => r 0 = .pointer (some ⟨ga13_15, 1, none⟩) | 1 => r 1 = .int .i64 y.2.washes | 2 => r 2 = .int .i64 (y.2.washes + 1) | 3 => r 3 = .pointer (some ⟨ga13_15, 2, none⟩) | 4 => r 4 = .int .i64 y.2.cost | 5 => r 5 = .pointer (some ⟨g1, 0, none⟩) | 6 => r 6 = .pointer (some ⟨g1, 5, none⟩) | 7 => r 7 = .slice Ak ru.kinds.length ck | 8 => r 8 = .int .i64 k | 9 => r 9 = .pointer (some ⟨bk, ok + kn * 5, none⟩) | 10 => r 10 = .pointer (some ⟨bk, ok + kn * 5 + 4, none⟩) | 11 => r 11 = .int .i64 (ru.kinds.getD kn kd0).cost | 12 => r 12 = .int .i64 (y.2.cost + (ru.kinds.getD kn kd0).cost) | 13 => r 13 = .pointer (some ⟨ga13_15, 1, none⟩) | _ => True) [(14, fun _ r w_ => Blk w_ ga13_15 134 [.slice An (y.2.steps.length + 1) cn, .int .i64 (y.2.washes + 1), .int .i64 y.2.cost].toArray)]) (by kernel_rfl) rfl rfl (by intro i hi; simp at hi; subst hi; exact ⟨by simp, by omega⟩) (base_own qa13_15) (phiS_cons monoS_own phiS_nil) (fun i_ hi_ hs_ => ?_) (fun i_ hi_ => ?_) ?_)
        ·match i_, hi_ with
         | 0, _ =>
          intro val fl w1 a hb ha hd hfl;obtain ⟨hgb, hg0⟩ := hb;have ha := ha.s0 (d := 19) rfl
          exact ss_val ha rfl rfl (fa_134_1 rfl) rfl rfl
         | 1, _ =>
          intro val fl w1 a hb ha hd hfl;obtain ⟨hgb, hg0⟩ := hb;have e0 : val 0 = _ := hd 0 (memB_mem.1 rfl);have ha := ha.s1 (d := 72) rfl e0;have hq0 := hg0 (hfl 14 (by simp) (memB_mem.1 rfl))
          exact ss_val ha rfl rfl (ld_3 rfl (hq0.at (j := 1) rfl)) rfl rfl
         | 2, _ =>
          intro val fl w1 a hb ha hd hfl;obtain ⟨hgb, hg0⟩ := hb;have e1 : val 1 = _ := hd 1 (memB_mem.1 rfl);have ha := ha.s1 (d := 73) rfl e1
          exact ss_val ha rfl rfl (x_add rfl rfl (by first | assumption | exact IntWalk.i64_in _ ⟨by omega, by omega⟩)) rfl rfl
         | 3, _ =>
          intro val fl w1 a hb ha hd hfl;obtain ⟨hgb, hg0⟩ := hb;have ha := ha.s0 (d := 19) rfl
          exact ss_val ha rfl rfl (fa_134_2 rfl) rfl rfl
         | 4, _ =>
          intro val fl w1 a hb ha hd hfl;obtain ⟨hgb, hg0⟩ := hb;have e3 : val 3 = _ := hd 3 (memB_mem.1 rfl);have ha := ha.s1 (d := 75) rfl e3;have hq0 := hg0 (hfl 14 (by simp) (memB_mem.1 rfl))
          exact ss_val ha rfl rfl (ld_3 rfl (hq0.at (j := 2) rfl)) rfl rfl
         | 5, _ =>
          intro val fl w1 a hb ha hd hfl;obtain ⟨hgb, hg0⟩ := hb;have ha := ha.s0 (d := 4) rfl
          exact ss_val ha rfl rfl (fa_116_0 rfl) rfl rfl
         | 6, _ =>
          intro val fl w1 a hb ha hd hfl;obtain ⟨hgb, hg0⟩ := hb;have e5 : val 5 = _ := hd 5 (memB_mem.1 rfl);have ha := ha.s1 (d := 77) rfl e5
          exact ss_val ha rfl rfl (fa_28_4 rfl) rfl rfl
         | 7, _ =>
          intro val fl w1 a hb ha hd hfl;obtain ⟨hgb, hg0⟩ := hb;have e6 : val 6 = _ := hd 6 (memB_mem.1 rfl);have ha := ha.s1 (d := 78) rfl e6
          exact ss_val ha rfl rfl (ld_26 rfl ((q1.grown hgb (fun h => n1_22 (Option.some.inj h))).at (j := 5) rfl)) rfl rfl
         | 8, _ =>
          intro val fl w1 a hb ha hd hfl;obtain ⟨hgb, hg0⟩ := hb;have ha := ha.s0 (d := 14) rfl
          exact ss_val ha rfl rfl (x_move rfl) rfl rfl
         | 9, _ =>
          intro val fl w1 a hb ha hd hfl;obtain ⟨hgb, hg0⟩ := hb;have e7 : val 7 = _ := hd 7 (memB_mem.1 rfl);have e8 : val 8 = _ := hd 8 (memB_mem.1 rfl);have ha := ha.s2 (d := 80) (e := 79) rfl e8 rfl e7
          exact ss_val ha rfl rfl (ix_26 (by show some (Value.slice Ak _ _) = _; rw [e1_]) (by show some (Value.int .i64 k) = _; rw [ekn]) hkn) rfl rfl
         | 10, _ =>
          intro val fl w1 a hb ha hd hfl;obtain ⟨hgb, hg0⟩ := hb;have e9 : val 9 = _ := hd 9 (memB_mem.1 rfl);have ha := ha.s1 (d := 81) rfl e9
          exact ss_val ha rfl rfl (fa_52_3 rfl) rfl rfl
         | 11, _ =>
          intro val fl w1 a hb ha hd hfl;obtain ⟨hgb, hg0⟩ := hb;have e10 : val 10 = _ := hd 10 (memB_mem.1 rfl);have ha := ha.s1 (d := 82) rfl e10
          exact ss_val ha rfl rfl (ld_3 rfl (below_load (below_store hbw hgb bhbw_22) hkd.c4)) rfl rfl
         | 12, _ =>
          intro val fl w1 a hb ha hd hfl;obtain ⟨hgb, hg0⟩ := hb;have e4 : val 4 = _ := hd 4 (memB_mem.1 rfl);have e11 : val 11 = _ := hd 11 (memB_mem.1 rfl);have ha := ha.s2 (d := 83) (e := 76) rfl e11 rfl e4
          exact ss_val ha rfl rfl (x_add rfl rfl (by first | assumption | exact IntWalk.i64_in _ ⟨by omega, by omega⟩)) rfl rfl
         | 13, _ =>
          intro val fl w1 a hb ha hd hfl;obtain ⟨hgb, hg0⟩ := hb;have ha := ha.s0 (d := 19) rfl
          exact ss_val ha rfl rfl (fa_134_1 rfl) rfl rfl
         | 14, _ =>
          exact absurd (by simp) hs_
         | k + 15, h => exact absurd h (by omega)
        ·simp only [List.mem_singleton] at hi_; subst hi_
         intro val fl w1 a hb hfi ha hd hfl;obtain ⟨hgb, hg0⟩ := hb;have e13 : val 13 = _ := hd 13 (memB_mem.1 rfl);have e2 : val 2 = _ := hd 2 (memB_mem.1 rfl);have ha := ha.s2 (d := 74) (e := 85) rfl e2 rfl e13;refine ts_store ha rfl rfl rfl (hg0 hfi) sz_3 rfl rfl rfl rfl ?_;intro w' hq2 hgr;refine ⟨undef, rfl, hgr.size, ⟨grown_three hgb hgr, fun h => by rw [fset_eq] at h; cases h⟩, hq2, fun j _ hj hn hA => ?_⟩
         exact phiS_cons_st (C := fun j => j ≠ 14 ∧ 14 ∉ clsAt [[], [0], [0, 1], [], [3], [], [5], [5, 6], [], [5, 6, 7, 8], [5, 6, 7, 8, 9], [5, 6, 7, 8, 9, 10], [3, 4, 5, 6, 7, 8, 9, 10, 11], [0, 1, 2, 3, 4], [0, 1, 2, 3, 4, 13], [0, 1, 2, 3, 4, 5, 6, 7, 8, 9, 10, 11, 12, 13, 14], [0, 1, 2, 3, 4, 5, 6, 7, 8, 9, 10, 11, 12, 13, 14, 15]] j) (fun hc => absurd rfl hc.1) (fun _ _ h => h) j ⟨hj, hn⟩
        ·intro val fl wR17 hfl hb halc hd
         obtain ⟨hgb, _⟩ := hb;have hq2 : Blk wR17 ga13_15 134 [.slice An (y.2.steps.length + 1) cn, .int .i64 (y.2.washes + 1), .int .i64 y.2.cost].toArray := hd 14 (by omega)
         have e0 : val 0 = _ := hd 0 (by omega)
         have e1 : val 1 = _ := hd 1 (by omega)
         have e2 : val 2 = _ := hd 2 (by omega)
         have e3 : val 3 = _ := hd 3 (by omega)
         have e4 : val 4 = _ := hd 4 (by omega)
         have e5 : val 5 = _ := hd 5 (by omega)
         have e6 : val 6 = _ := hd 6 (by omega)
         have e7 : val 7 = _ := hd 7 (by omega)
         have e8 : val 8 = _ := hd 8 (by omega)
         have e9 : val 9 = _ := hd 9 (by omega)
         have e10 : val 10 = _ := hd 10 (by omega)
         have e11 : val 11 = _ := hd 11 (by omega)
         have e12 : val 12 = _ := hd 12 (by omega)
         have e13 : val 13 = _ := hd 13 (by omega)
         refine EL.ends (cs := [_, _, _, _, _, _, _, _, _, _, _, _, _, _, val 14]) ⟨e0, e1, e2, e3, e4, e5, e6, e7, e8, e9, e10, e11, e12, e13, rfl, trivial⟩ rfl ?_;replace q1 := q1.gr hgb n1_22;replace q2 := q2.gr hgb n2_22;replace q4 := q4.gr hgb n4_22;replace q8 := q8.gr hgb n8_22;replace q9 := q9.gr hgb n9_22;replace q12 := q12.gr hgb n12_22;replace q15 := q15.gr hgb nm_22;replace q19 := q19.gr hgb n19_22;replace hkp := hkp.trans (Kp.grown qa13_15 rfl bhbw_22 hgb);replace hkf := hkf.trans (.of (keeps_blk qa13_15 hgb));replace hR := hR.box qa13_15 rfl hgb;replace hF2 := hF2.box qa13_15 rfl hgb;replace hM := hM.keeps (keeps_blk qa13_15 hgb);replace hop := own_type hop qa13_15 rfl hgb;replace hon := own_type hon qa13_15 rfl hgb;replace hbw := below_store hbw hgb bhbw_22;replace qa13_15 := hq2;clear hgb hq2;refine EL.val (fa_134_2 rfl) rfl (EL.store rfl rfl qa13_15 sz_3 rfl rfl rfl rfl ?_);intro w26 hq26 hg26;replace q1 := q1.gr hg26 n1_22;replace q2 := q2.gr hg26 n2_22;replace q4 := q4.gr hg26 n4_22;replace q8 := q8.gr hg26 n8_22;replace q9 := q9.gr hg26 n9_22;replace q12 := q12.gr hg26 n12_22;replace q15 := q15.gr hg26 nm_22;replace q19 := q19.gr hg26 n19_22;replace hkp := hkp.trans (Kp.grown qa13_15 rfl bhbw_22 hg26);replace hkf := hkf.trans (.of (keeps_blk qa13_15 hg26));replace hR := hR.box qa13_15 rfl hg26;replace hF2 := hF2.box qa13_15 rfl hg26;replace hM := hM.keeps (keeps_blk qa13_15 hg26);replace hop := own_type hop qa13_15 rfl hg26;replace hon := own_type hon qa13_15 rfl hg26;replace hbw := below_store hbw hg26 bhbw_22;replace qa13_15 := hq26;clear hg26 hq26;refine EL.nil (EX.toI (EXI.seq ?_));refine ECI.regionL (by repeat (first | exact lets_body | exact lets_no | refine lets_then ?_ | refine lets_blk ?_)) (by kernel_rfl) ?_
         refine EL.val (ld_171 rfl (q4.at (j := 0) rfl)) rfl (EL.val (x_loadA rfl (q19.range (PartAt.whole _)) Try.underlying150 rfl (sz_150.trans (congrArg some hsf.fl.len.symm))) rfl (EL.val (ld_134 rfl (qa13_15.at (j := 0) rfl) (qa13_15.at (j := 1) rfl) (qa13_15.at (j := 2) rfl)) rfl ?_));have hpn := addS_ok hro (p := y.2) (j := j) ⟨hyl, hyw0, hyw1, hyc0, hyc1⟩ i k;have hpv := plv_add (i := i) (k := k) hon (a := y.2.washes + 1) (b := y.2.cost + (ru.kinds.getD kn kd0).cost) (n := numK k) (cst := kcost ru k) (by omega) (by omega)
         refine EL.call (cA3 cF98 rfl rfl rfl) rfl (note_any hF2 (by simp only [maxLen]; omega) hsf hpv hpn (by omega)) ?_
         rintro e w27 ⟨rfl, hg27, F5, hf5, hall5⟩
         refine ⟨_, rfl, ?_⟩;obtain ⟨es_, ck_, hmap⟩ := hF2.map;replace q1 := blk_map2 q1 hF2 hg27;replace q2 := blk_map2 q2 hF2 hg27;replace q4 := blk_map2 q4 hF2 hg27;replace q8 := blk_map2 q8 hF2 hg27;replace q9 := blk_map2 q9 hF2 hg27;replace q12 := blk_map2 q12 hF2 hg27;replace q15 := blk_map2 q15 hF2 hg27;replace q19 := blk_map2 q19 hF2 hg27;replace qa13_15 := blk_map2 qa13_15 hF2 hg27;replace hR := hR.other hF2 hg27 hne1 (by omega)
         replace hop := own_map hop hF2 hg27;replace hM := hM.other hmap (fun x e => by cases e) hg27
         replace hkp := hkp.trans (Kp.other hob hmap rfl hg27);replace hkf := hkf.trans (KeepsFrom.low hg27 hl1);replace hbw := hbw.trans (below_blk hg27 hob hbw.size);clear hmap hF2 hon;have hF2 := hf5;clear hf5;refine EL.nil (EX.toI (EXI.blk ?_))
         exact fun a0 ha0 => ⟨hkf, hkp, .inl ⟨rfl, ⟨_, _, hF2, by simp only [List.length_append, List.length_singleton]; omega, by rw [flatK_succ hpf rfl]; exact frontK_yes hgo (hall5 _ hfo)⟩, hR, q1, q2, q4, q8, q9, q12, hop, hM, hbw⟩⟩
   ·
    clear q1 q2 q4 q8 q9 q12 hF2 hn2 hfo hR hop hM qb1 qb2;clear hbw
    rintro Dm xs W hDm hall ⟨⟨F4, n4, hF2, hn2, hfo⟩, hR, q1, q2, q4, q8, q9, q12, hop, hMI, hbw⟩ hkp hdef
    have hxl : xs.length = ru.kinds.length + 1 := by have := congrArg List.length hall; rwa [List.length_map, allK_len] at this
    replace hfo : FrontOf (D.flatMap (extY (yardOf ru many) cg) ++ (List.range (i + 1)).flatMap fun i => (kindsL ru.kinds.length).flatMap (ext1 (yardOf ru many) cg y i)) F4 := by rw [hxl, List.take_of_length_le (Nat.le_of_eq kindsL_len), List.append_assoc, ← flatI_succ (fun i => (kindsL ru.kinds.length).flatMap (ext1 (yardOf ru many) cg y i))] at hfo; exact hfo
    rw [hxl] at hn2;have hk4 := hro.k4;have hM := hMI.marks.cons (Nat.le_trans hsz hDm) hdef;have hnd2 := List.nodup_cons.2 ⟨fun hm => hMI.fresh hDm hm, hnd⟩
    clear hnd hMI hkp;have hnd := hnd2;clear hnd2;refine EXI.blk (EXI.blk (EXI.seq (ECI.regionLD ?_)));refine EL.val (x_add rfl rfl (c := ((i + 1 : Nat) : Int)) ((IntWalk.i64_in _ ⟨by first | omega | (simp only; omega), by first | omega | (simp only; omega)⟩).trans (by first | omega | (simp only; omega)))) rfl ?_
    refine EL.mv rfl rfl (EL.nil (EX.ofD ?_));refine EXI.roundD (i + 1, _ :: dm) ⟨rfl, trivial⟩ (by repeat first | with_reducible exact .refl _ | refine sp_ rfl ?_ | exact .refl _ | refine sd_ rfl ?_ | refine sn_ ?_) rfl ⟨hlt, hR, ⟨_, _, hF2, by simp only; omega, hfo⟩, q1, q2, q4, q8, q9, hop, hM, hnd, hbw⟩ (by simp only; omega)
   ·intro Dm pre W hD hne hall h
    exact absurd h id
  ·
   have hxe : i = many := by omega
   rw [hxe] at hn2 hfo;refine ECI.seq (ECI.regionLD ?_);refine EL.val (x_lss rfl rfl (decide_eq_false (show ¬(((i : Nat) : Int) < ((many : Nat) : Int)) by omega))) rfl ?_
   refine EL.nil (EX.ofD (EXI.seq (ECI.seq (ECI.no rfl (ECI.exit (EXI.seq_exit (EXI.seq_exit (EXI.blk_here (EXI.blk ?_)))))))));have he : (D ++ [y]).flatMap (extY (yardOf ru many) cg) = (D.flatMap (extY (yardOf ru many) cg) ++ (List.range many).flatMap fun i => (kindsL ru.kinds.length).flatMap (ext1 (yardOf ru many) cg y i)) := by rw [List.flatMap_append, List.flatMap_cons, List.flatMap_nil, List.append_nil]; rfl
   refine EXI.roundD (D ++ [y], c2, dm) trivial (by repeat first | with_reducible exact .refl _ | refine sp_ rfl ?_ | exact .refl _ | refine sd_ rfl ?_ | refine sn_ ?_) rfl ⟨hR, ⟨_, _, hF2, by simp only [List.length_append, List.length_singleton]; omega, by simp only; rw [he]; exact hfo⟩, by simp only [List.length_append, List.length_singleton]; omega, q1, q2, q4, hM, hnd, hbw⟩ hcnt
/-- a plan, and where its steps lie -/
abbrev Pr := Pl × Option Addr × Nat
def plC (x : Pr) : List Value := [.slice x.2.1 x.1.steps.length x.2.2, .int .i64 x.1.washes, .int .i64 x.1.cost]
def plsC (l : List Pr) : List Value := l.flatMap plC
theorem plC_len (x : Pr) : (plC x).length = 3 := rfl
theorem plsC_len (l : List Pr) : (plsC l).length = l.length * 3 := flat_len plC_len l
theorem plsC_app {l m : List Pr} : plsC (l ++ m) = plsC l ++ plsC m := List.flatMap_append
theorem pl_info : (Try.prog.info? 134).map (fun i => (i.zero, i.size, i.bytes)) = some (some (.agg #[.slice none 0 0, .int .i64 0, .int .i64 0]), 3, 40) := by kernel_rfl
theorem pl_elem : Elem Try.prog 130 134 3 40 := Elem.mk' Try.underlying130 pl_info rfl (by omega)
def pr0 : Pr := (pl0, none, 0)
theorem pls_cells (l : List Pr) (k : Nat) (hk : k < l.length) (w : World) (B : Nat) (A : Option Addr) (n c : Nat) (hr : Rd w B 3 (.slice A n c) n (plsC l)) :
  ∃ b off, A = some ⟨b, off, none⟩ ∧ b < B ∧ w.cell? ⟨b, off + k * 3, none⟩ = some (.slice (l.getD k pr0).2.1 (l.getD k pr0).1.steps.length (l.getD k pr0).2.2) ∧ w.cell? ⟨b, off + k * 3 + 1, none⟩ = some (.int .i64 (l.getD k pr0).1.washes) ∧ w.cell? ⟨b, off + k * 3 + 2, none⟩ = some (.int .i64 (l.getD k pr0).1.cost) := by
 have hl : n * 3 = l.length * 3 := by rw [← hr.len, plsC_len]
 obtain ⟨b, off, rfl, hb, hc⟩ := hr.at_ (by omega)
 have e : l.getD k pr0 = l[k] := by simp [hk]
 rw [e];have g := fun j hj => flat_get plC_len l k hk j hj
 exact ⟨b, off, rfl, hb, hc (k * 3) _ (g 0 (by omega)), hc (k * 3 + 1) _ (g 1 (by omega)), hc (k * 3 + 2) _ (g 2 (by omega))⟩
/-- a row of plans of one's own -/
structure OwnPls (W : World) (base : Nat) (v : Value) (l : List Pr) : Prop where
 own : W.ownsRow base 134 3 v l.length (plsC l)
 rows : ∀ x ∈ l, W.ownsRow base 70 2 (.slice x.2.1 x.1.steps.length x.2.2) x.1.steps.length (stsC x.1.steps)
section
variable {W W' : World} {base : Nat} {v : Value} {l : List Pr}
theorem OwnPls.nil : OwnPls W base (.slice none 0 0) [] := ⟨World.ownsRow_nil _ _ _ _, fun x hx => absurd hx List.not_mem_nil⟩
theorem OwnPls.keep (h : OwnPls W base v l) (hk : ∀ (e z n : Nat) (u : Value) (xs : List Value), (Nat.beq e 134 = true ∨ Nat.beq e 70 = true) → W.ownsRow base e z u n xs → W'.ownsRow base e z u n xs) : OwnPls W' base v l :=
 ⟨hk _ _ _ _ _ (.inl rfl) h.own, fun x hx => hk _ _ _ _ _ (.inr rfl) (h.rows x hx)⟩
theorem OwnPls.below (h : OwnPls W base v l) (hb : Below W.heap.size W W') : OwnPls W' base v l := h.keep fun _ _ _ _ _ _ ho => own_below ho hb (Nat.le_refl _)
theorem OwnPls.box {g T : Nat} {cs : Array Value} (h : OwnPls W base v l) (hq : Blk W g T cs) (h1 : Nat.beq T 134 = false) (h2 : Nat.beq T 70 = false) (hg : W.grownBy W' (some g)) : OwnPls W' base v l :=
 ⟨own_type h.own hq h1 hg, fun x hx => own_type (h.rows x hx) hq h2 hg⟩
theorem OwnPls.push {v' : Value} {x : Pr} (h : OwnPls W base v l) (ho : W'.ownsRow base 134 3 v' (l.length + 1) (plsC l ++ plC x)) (hg : W.grownBy W' v.ownBlock) (hx : W.ownsRow base 70 2 (.slice x.2.1 x.1.steps.length x.2.2) x.1.steps.length (stsC x.1.steps)) : OwnPls W' base v' (l ++ [x]) := by
 refine ⟨?_, fun y hy => ?_⟩
 ·rw [List.length_append, plsC_app]
  simpa [plsC] using ho
 ·rcases List.mem_append.1 hy with hy | hy
  ·exact own_grown (h.rows y hy) h.own rfl hg
  ·rw [List.mem_singleton.1 hy]
   exact own_grown hx h.own rfl hg
theorem OwnPls.rd (h : OwnPls W base v l) : Rd W W.heap.size 3 v l.length (plsC l) := Rd.of_own h.own
theorem OwnPls.less {base' : Nat} (h : OwnPls W base v l) (hb : base' ≤ base) : OwnPls W base' v l := ⟨own_less h.own hb, fun x hx => own_less (h.rows x hx) hb⟩
end
section
variable {W W' : World} {base mb n j : Nat} {F : List Sx}
/-- a row of plans that grows leaves a front as it is -/
theorem Front.push {base' k : Nat} {v : Value} {xs : List Value} (h : Front W base mb n j F) (ho : W.ownsRow base' 134 3 v k xs) (hg : W.grownBy W' v.ownBlock) : Front W' base mb n j F := by
 refine h.mild ⟨v.ownBlock, hg, fun g e => ?_⟩
 obtain ⟨_, ⟨rfl, _⟩ | ⟨b, cap, cur, rfl, _, hb, _⟩⟩ := ho
 ·cases e
 ·have e2 : b = g := by simpa [Value.ownBlock] using e
  subst e2;refine ⟨h.ne hb, fun T cs h2 => ?_⟩
  unfold Blk at h2
  rw [hb] at h2
  injection h2 with h2
  injection h2 with _ h3
  rw [← h3]
  rfl
theorem Front.count (h : Front W base mb n j F) : ∃ m : Nat, (Builtin.len_ #[171] 3 #[.map (some mb)]).run Try.prog W = .ok (.int .i64 (m : Nat)) W ∧ (m = 0 ↔ F = []) := by
 obtain ⟨l, ⟨es, clock, hb, _, _, hl⟩, h2⟩ := h;refine ⟨es.size, ?_, ?_⟩
 ·simp [Builtin.len_, run_underlying Try.underlying171, MapKept.run_getObj_map hb, goInt, Result.andThen]
 ·have e : es.size = l.length := by rw [← hl]; simp
  rw [e]
  constructor
  ·intro h0
   have h0 : l = [] := List.eq_nil_of_length_eq_zero h0;subst h0
   rcases F with _ | ⟨x, F⟩
   ·rfl
   ·obtain ⟨e1, he, _⟩ := h2.fro x (List.mem_cons_self ..)
    exact absurd he List.not_mem_nil
  ·rintro rfl
   rcases l with _ | ⟨x, l⟩
   ·rfl
   ·obtain ⟨y, hy, _⟩ := h2.to x (List.mem_cons_self ..)
    exact absurd hy List.not_mem_nil
end
section
variable {n : Nat} {σ : Sg} {w : World} {dst : Option Tmp} {ty : TypeId} {pos : String} {af : Array Edge} {g : Option (Nat × Bool)} {x y : Operand}
theorem x_lenM {mb m : Nat} (hx : evS σ x = some (.map (some mb))) (hr : (Builtin.len_ #[171] 3 #[.map (some mb)]).run Try.prog w = .ok (.int .i64 (m : Nat)) w) : Gives Try.prog n σ w ⟨dst, .call { callee := .builtin .len, args := #[x], argTypes := #[171] }, 3, pos, af, g⟩ (.int .i64 (m : Nat)) := fun a ha => by
 simp only [execOp, resolve, List.map_toArray, List.map_cons, List.map_nil, ha.eval hx]
 simp [go_sem, hr, Result.andThen]
theorem x_plan0 : Gives Try.prog n σ w ⟨dst, .build 134 #[], ty, pos, af, g⟩ (.agg #[.slice none 0 0, .int .i64 0, .int .i64 0]) := fun a _ => by
 simp only [execOp, List.map_toArray, List.map_nil]
 kernel_rfl
theorem x_fleet1 {t : List Tr} (hx : evS σ x = some (.agg (tkC t).toArray)) (h8 : t.length = 8) : Gives Try.prog n σ w ⟨dst, .build 150 #[(0, x)], ty, pos, af, g⟩ (flV [t, tank0, tank0]) := fun a ha => by
 obtain ⟨a0, a1, a2, a3, a4, a5, a6, a7, rfl⟩ := eight h8
 simp only [execOp, List.map_toArray, List.map_cons, List.map_nil, ha.eval hx]
 kernel_rfl
end
theorem fleet1_ok {t : List Tr} (h : TkOk t) : FlOk [t, tank0, tank0] := by
 have hm : ∀ u ∈ [t, tank0, tank0], TkOk u := fun u hu => by
  simp only [List.mem_cons, List.not_mem_nil, or_false] at hu
  rcases hu with rfl | rfl | rfl
  ·exact h
  ·exact tank0_ok
  ·exact tank0_ok
 exact ⟨⟨rfl, fun u hu => (hm u hu).n8⟩, hm⟩
/-- the first front -/
theorem front_one {F2 : List Sx} {s : List (List Tr)} (h1 : (s, pl0) ∈ F2) (h2 : ∀ y ∈ F2, y = (s, pl0) ∨ (y ∈ ([] : List Sx) ∧ y.1 ≠ s)) {ext : Nat → Sx → List Sx} : FrontOf (compl ext [] (s, pl0)) F2 := by
 refine ⟨fun y hy => ?_, fun y hy => ⟨pl0, ?_, ?_⟩⟩
 ·rcases h2 y hy with rfl | ⟨h3, _⟩
  ·exact List.mem_singleton.2 rfl
  ·exact absurd h3 List.not_mem_nil
 ·rw [List.mem_singleton.1 hy]; exact h1
 ·rw [List.mem_singleton.1 hy, cmp_pl.self]; decide
/-- the best plans for each beginning of the cargoes -/
def Bests (Y : Yard (List (List Tr))) (js : List Nat) (s : List (List Tr)) (ps : List Pl) : Prop :=
 ps.length = depthR (extY Y) js (s, pl0) ∧ ∀ i, i < ps.length → IsBest (compl (extY Y) (js.take (i + 1)) (s, pl0)) (ps.getD i pl0)
theorem depth_le {ext : Nat → Sx → List Sx} : ∀ (rem : List Nat) (x : Sx), depthR ext rem x ≤ rem.length := fun rem x => by
 rcases Nat.lt_or_ge rem.length (depthR ext rem x) with h | h
 ·exact absurd h (by have := depth_len (ext := ext) rem x; omega)
 ·exact h
theorem bests_end {Y : Yard (List (List Tr))} {js : List Nat} {s : List (List Tr)} {ps : List Pl} (h1 : ∀ i, i < ps.length → IsBest (compl (extY Y) (js.take (i + 1)) (s, pl0)) (ps.getD i pl0)) (hl : ps.length ≤ js.length) (h2 : ps.length < js.length → compl (extY Y) (js.take (ps.length + 1)) (s, pl0) = []) : Bests Y js s ps := by
 refine ⟨?_, h1⟩;have a := depth_le (ext := extY Y) js (s, pl0);have b : ps.length ≤ depthR (extY Y) js (s, pl0) := (depth_iff js (s, pl0) _ hl).2 (by
  rcases hp : ps.length with _ | k
  ·simp [compl]
  ·obtain ⟨⟨t, ht⟩, _⟩ := h1 k (by omega)
   exact fun e => by rw [e] at ht; exact absurd ht List.not_mem_nil)
 rcases Nat.lt_or_ge ps.length (depthR (extY Y) js (s, pl0)) with h | h
 ·exact absurd (h2 (by omega)) ((depth_iff js (s, pl0) (ps.length + 1) (by omega)).1 h)
 ·omega
section
variable {n : Nat} {σ : Sg} {w : World} {dst : Option Tmp} {ty : TypeId} {pos : String} {af : Array Edge} {g : Option (Nat × Bool)} {x y z : Operand} {at' : Array TypeId}
theorem cF87 : cF 87 := fun _ _ => by simp [go_sem]
theorem cF88 : cF 88 := fun _ _ => by simp [go_sem]
theorem bs_130_1 {x0 : Operand} {v0_0 v0_1 v0_2 : Value} (h0 : evS σ x0 = some (.agg #[v0_0, v0_1, v0_2]))  (a : Act) (ha : Env n σ a) : (execOp a.eval ⟨dst, .buildSlice 130 1 #[(0, x0)], ty, pos, af, g⟩).run Try.prog w = .ok (.value (.slice (some ⟨w.heap.size, 0, none⟩) 1 1)) (w.alloc (.cells #[v0_0, v0_1, v0_2] 134)) := by
 simp only [execOp, List.map_toArray, List.map_cons, List.map_nil, ha.eval h0]
 go_simp
end
/-- cargoes as numbers -/
def jsI (js : List Nat) : List Int := js.map fun c => ((c : Nat) : Int)
theorem jsI_len {js : List Nat} : (jsI js).length = js.length := List.length_map _
theorem jsI_at {js : List Nat} {i : Nat} (h : i < js.length) : (jsI js).getD i 0 = ((js.getD i 0 : Nat) : Int) := map_getD h
theorem kcost_nn {ru : Rules} (hro : RulesOk ru) (many : Nat) : ∀ k, 0 ≤ (yardOf ru many).cost k := fun k => (kcost_bd hro k).1
theorem best_more {Y : Nat → List Sx} {i : Nat} {lp : List Pr} {pb : Pl} {A : Option Addr} {c : Nat} (hl : lp.length = i) (h : ∀ k, k < i → IsBest (Y k) ((lp.map (·.1)).getD k pl0)) (hb : IsBest (Y i) pb) : ∀ k, k < i + 1 → IsBest (Y k) (((lp ++ [(pb, A, c)]).map (·.1)).getD k pl0) := fun k hk => by
 rw [List.map_append];have hl2 : (lp.map (·.1)).length = i := by rw [List.length_map, hl]
 rcases Nat.lt_or_ge k i with h1 | h1
 ·rw [List.getD_eq_getElem?_getD, List.getElem?_append_left (by omega), ← List.getD_eq_getElem?_getD]
  exact h k h1
 ·obtain rfl : k = i := by omega
  rw [List.getD_eq_getElem?_getD, List.getElem?_append_right (by omega), hl2, Nat.sub_self]
  exact hb
set_option maxHeartbeats 2000000 in
theorem plans_any {ru : Rules} {ua up : List Value} {vl va vp vk : Value} {w : World} {B : Nat} (hr : RdRules w B vl va vp vk ru ua up) (hB : B ≤ w.heap.size) (hro : RulesOk ru) {sf : List (List Tr)} (hs : FlOk sf) {many : Nat} (hm : many ≤ 3) {js : List Nat} (hjs : ∀ i, i < js.length → js.getD i 0 < ru.levels.length) (hjl : js.length ≤ 10) {vj : Value} {C : Nat} (hv : Rd w C 1 vj js.length (ints (jsI js))) (hC : C ≤ w.heap.size) :
  Calls Try.prog 69 #[rulesV vl va vp vk ru, flV sf, .int .i64 (many : Nat), vj] w fun e w' => (∃ v lp, e = .returned v ∧ OwnPls w' w.heap.size v lp ∧ Bests (yardOf ru many) js sf (lp.map (·.1))) ∧ Below w.heap.size w w' := by
 obtain ⟨Al, cl, Aa, ca, Ap, cp, Ak, ck, rfl, rfl, rfl, rfl⟩ := hr.sh4;obtain ⟨Aj, cj, rfl, _⟩ := hv.shape;have hbw := Below.refl w.heap.size w
 unfold rulesV
 refine EC.enter 37 Try.func69 rfl rfl rfl (EC.seq (EC.region (EL.newP (bx_116 rfl) rfl ?_)));intro g1 w1 q1 hb1 hg1 hl1;have bhbw_1 := Nat.le_trans hbw.size hg1;replace hbw := bo_ hbw hb1;clear hb1 hg1 hl1;refine EL.newP (x_boxA rfl) rfl ?_;intro g2 w2 q2 hb2 hg2 hl2;have n1_2 := q1.na hg2;have bhbw_2 := Nat.le_trans hbw.size hg2;replace q1 := q1.bl hb2;replace hbw := bo_ hbw hb2;clear hb2 hg2 hl2;refine EL.as rfl rfl (EL.nil (EX.seq (EC.seq (EC.region (EL.newFront (base := w.heap.size) (j := 0) rfl ?_)))));intro mb w3 hF hb3 hob;replace hob := Nat.le_trans hbw.size hob;replace q1 := q1.bl hb3;replace q2 := q2.bl hb3;replace hbw := bo_ hbw hb3;clear hb3;refine EL.val (x_loadA rfl (q2.range (PartAt.whole _)) Try.underlying150 rfl (sz_150.trans (congrArg some hs.fl.len.symm))) rfl (EL.val x_plan0 rfl ?_);obtain ⟨w4, F2, hrun, hg4, hf2, k1, k2, k3⟩ := hF.store (by decide) hs (p := pl0) ⟨rfl, Int.le_refl _, Int.le_refl _, Int.le_refl _, Int.le_refl _⟩ PlV.nil
 refine EL.mapIns rfl rfl rfl hrun ?_;replace q1 := blk_map2 q1 hF hg4;replace q2 := blk_map2 q2 hF hg4;replace hbw := hbw.trans (below_blk hg4 hob hbw.size);clear hF;have hF := hf2;clear hf2;have hfo : FrontOf (compl (extY (yardOf ru many)) [] (sf, pl0)) F2 := front_one k1 k2;clear hrun hg4 k1 k2 k3;refine EL.mv rfl rfl (EL.as rfl rfl (EL.nil (EX.seq (EC.seq (EC.seq (EC.region (EL.mv rfl rfl (EL.val (ln_22 rfl) rfl (EL.mv rfl rfl ?_)))))))));refine EL.nil (EX.seq (EC.block ?_));refine EC.loopD [8, 9, 11, 18, 19, 20, 21, 22, 23, 24, 25, 26, 27, 28, 29, 30, 31, 32, 33, 34, 35] (fun x : Nat × Nat × Value × List Pr => [(18, .int .i64 (x.1 : Nat)), (9, .map (some x.2.1)), (8, x.2.2.1)]) (fun x W => x.1 ≤ js.length ∧ x.2.2.2.length = x.1 ∧ (∃ F n, Front W w.heap.size x.2.1 n x.1 F ∧ n ≤ 15 ^ x.1 ∧ FrontOf (compl (extY (yardOf ru many)) (js.take x.1) (sf, pl0)) F) ∧ OwnPls W w.heap.size x.2.2.1 x.2.2.2 ∧ (∀ i, i < x.1 → IsBest (compl (extY (yardOf ru many)) (js.take (i + 1)) (sf, pl0)) ((x.2.2.2.map (·.1)).getD i pl0)) ∧ Blk W g1 116 #[.slice Al ru.levels.length cl, .int .i64 ru.fade.lo, .int .i64 ru.fade.hi, .slice Aa ru.allow.length ca, .slice Ap ru.apart.length cp, .slice Ak ru.kinds.length ck] ∧ Below w.heap.size w W) (fun x => js.length - x.1) (0, mb, .slice none 0 0, []) ⟨Nat.zero_le _, rfl, ⟨_, _, hF, by simp, hfo⟩, OwnPls.nil, fun i hi => absurd hi (by simp), q1, hbw⟩ ⟨rfl, rfl, rfl, trivial⟩ ?_
 clear hF hfo q1 hbw hob
 rintro ⟨i, mb1, v, lp⟩ wx ⟨hi, hlp, ⟨F, n, hF, hn, hfo⟩, hP, hB1, q1, hbw⟩
 dsimp only at hi hlp hF hn hfo hP hB1
 by_cases hlt : i < js.length
 ·
  obtain ⟨bj, oj, ej, _, hjc⟩ := ints_cells (jsI js) i (by rw [jsI_len]; exact hlt) wx C _ _ _ (hv.below (hbw.mono hC))
  rw [jsI_at hlt] at hjc
  cases ej
  have hn2 : n ≤ 15 ^ 10 := Nat.le_trans hn (Nat.pow_le_pow_right (by decide) (by omega))
  have hcg := hjs i hlt;have hts : js.take (i + 1) = js.take i ++ [js.getD i 0] := by rw [List.take_succ_eq_append_getElem hlt, getD_in hlt]
  refine EC.seq (EC.region ?_);refine EL.val (x_lss rfl rfl (decide_eq_true (show (((i : Nat) : Int) < ((js.length : Nat) : Int)) by omega))) rfl ?_
  refine EL.nil (EX.seq (EC.seq (EC.yes rfl (EC.skip (EX.seq (EC.seq (EC.block (EC.seq (EC.region ?_)))))))));refine EL.val (ix_22 rfl rfl hlt) rfl (EL.val (ld_3 rfl hjc) rfl (EL.as rfl rfl (EL.nil (EX.seq (EC.seq (EC.seq (EC.region (EL.val (ld_116 rfl (q1.at (j := 0) rfl) (q1.at (j := 1) rfl) (q1.at (j := 2) rfl) (q1.at (j := 3) rfl) (q1.at (j := 4) rfl) (q1.at (j := 5) rfl)) rfl (EL.mv rfl rfl ?_)))))))));refine EL.mv rfl rfl (EL.mv rfl rfl ?_);refine EL.call (cA4 cF87 rfl rfl rfl rfl) rfl (next_any (hr.below (hbw.mono hB)) (Nat.le_trans hB hbw.size) hro hF hbw.size (by omega) (by omega) hm hcg) ?_
  rintro e w5 ⟨⟨ob, F2, n2, rfl, hF2, hn3, hfo2, hob⟩, hc5⟩
  refine ⟨_, rfl, ?_⟩;clear hF;replace q1 := q1.bl hc5;replace hP := hP.below hc5;replace hbw := bo_ hbw hc5;clear hc5;have hF := hF2;clear hF2;have hfo3 : FrontOf (compl (extY (yardOf ru many)) (js.take (i + 1)) (sf, pl0)) F2 := by rw [hts]; exact front_next (kcost_nn hro many) hfo hfo2
  refine EL.as rfl rfl (EL.nil (EX.seq (EC.seq (EC.region (EL.mv rfl rfl ?_)))));obtain ⟨m, hlen, hm0⟩ := hF.count;refine EL.val (x_lenM rfl hlen) rfl ?_
  by_cases hF0 : F2 = []
  ·
   refine EL.val (x_eql (r := true) rfl rfl (decide_eq_true (by rw [hm0.2 hF0]; rfl))) rfl ?_
   refine EL.nil (EX.seq (EC.yes rfl (EC.exit (EX.seq_exit (EX.blk_other rfl (EX.seq_exit (EX.seq_exit (EX.blk_here (EX.seq ?_)))))))));refine EC.seq (EC.region (EL.mv rfl rfl (EL.as rfl rfl (EL.nil (EX.seq (EC.ret ?_))))))
   exact EX.done (res1 rfl rfl) ⟨⟨_, lp, rfl, hP, bests_end (by rw [List.length_map, hlp]; exact hB1) (by rw [List.length_map, hlp]; exact hi) (fun _ => by rw [List.length_map, hlp]; exact hfo3.nil.1 hF0)⟩, hbw⟩
  ·
   refine EL.val (x_eql (r := false) rfl rfl (decide_eq_false (by have : m ≠ 0 := fun h => hF0 (hm0.1 h); omega))) rfl ?_
   refine EL.nil (EX.seq (EC.no rfl (EC.skip (EX.seq (EC.region (EL.mv rfl rfl (EL.mv rfl rfl ?_)))))));refine EL.call (cA1 cF88 rfl) rfl (best_any hF hF0 (by omega)) ?_
   rintro e w6 ⟨⟨pb, spb, Ab, cb, rfl, hob2, hin, hle⟩, hc6⟩
   refine ⟨_, rfl, ?_⟩;replace q1 := q1.bl hc6;replace hP := hP.below hc6;replace hF := hF.below hc6;replace hbw := bo_ hbw hc6;clear hc6;have hbest : IsBest (compl (extY (yardOf ru many)) (js.take (i + 1)) (sf, pl0)) pb := hfo3.best.2 ⟨⟨spb, hin⟩, hle⟩;refine EL.newS (bs_130_1 rfl) rfl ?_;intro g7 w7 q7 hb7 hg7 hl7;have n1_7 := q1.na hg7;have bhbw_7 := Nat.le_trans hbw.size hg7;replace q1 := q1.bl hb7;replace hP := hP.below hb7;replace hF := hF.below hb7;replace hob2 := own_below hob2 hb7 (Nat.le_refl _);replace hbw := bo_ hbw hb7;clear hb7 hg7 hl7;refine EL.push pl_elem rfl rfl hP.own (rd_one (l := [.slice Ab pb.steps.length cb, .int .i64 pb.washes, .int .i64 pb.cost]) q7 rfl) (by intro u hu; simp only [List.mem_cons, List.not_mem_nil, or_false] at hu; rcases hu with rfl | rfl | rfl <;> rfl) (by omega) rfl hbw.size rfl ?_
   intro v8 w8 ho2_ hgr hb_ hat;replace q1 := blk_grown q1 hP.own rfl hgr;replace hF := hF.push hP.own hgr;replace hP := hP.push (x := (pb, Ab, cb)) ho2_ hgr hob2;replace hbw := hbw.trans hb_;clear ho2_ hgr hb_ hat hob2;refine EL.as rfl rfl (EL.nil (EX.blk (EX.seq (EC.region ?_))));refine EL.val (x_add rfl rfl (c := ((i + 1 : Nat) : Int)) ((IntWalk.i64_in _ ⟨by first | omega | (simp only; omega), by first | omega | (simp only; omega)⟩).trans (by first | omega | (simp only; omega)))) rfl ?_
   refine EL.mv rfl rfl (EL.nil ?_);refine EX.roundD (i + 1, ob, v8, lp ++ [(pb, Ab, cb)]) ⟨rfl, rfl, rfl, trivial⟩ (by repeat first | with_reducible exact .refl _ | refine sp_ rfl ?_ | exact .refl _ | refine sd_ rfl ?_ | refine sn_ ?_) ⟨hlt, by simp [hlp], ⟨_, _, hF, by rw [Nat.pow_succ]; exact Nat.le_trans hn3 (Nat.mul_le_mul_right _ hn), hfo3⟩, hP, best_more hlp hB1 hbest, q1, hbw⟩ (by simp only; omega)
 ·
  have hxe : i = js.length := by omega
  refine EC.seq (EC.region ?_);refine EL.val (x_lss rfl rfl (decide_eq_false (show ¬(((i : Nat) : Int) < ((js.length : Nat) : Int)) by omega))) rfl ?_
  refine EL.nil (EX.seq (EC.seq (EC.no rfl (EC.exit (EX.seq_exit (EX.seq_exit (EX.blk_here (EX.seq (EC.seq ?_)))))))));refine EC.region (EL.mv rfl rfl (EL.as rfl rfl (EL.nil (EX.seq (EC.ret ?_)))))
  exact EX.done (res1 rfl rfl) ⟨⟨_, lp, rfl, hP, bests_end (by rw [List.length_map, hlp]; exact hB1) (by rw [List.length_map, hlp]; exact hi) (fun h => absurd h (by rw [List.length_map, hlp, hxe]; exact Nat.lt_irrefl _))⟩, hbw⟩
def jobsE (ru : Rules) (jobs : List Int) (most : Nat) : Int := if most < jobs.length then 5 else if jobs.all (inB 0 ((ru.levels.length : Nat) - 1 : Int)) = true then 0 else 2
theorem checkJobs_any {ru : Rules} {ua up : List Value} {vl va vp vk : Value} {w : World} {B : Nat} (hr : RdRules w B vl va vp vk ru ua up) (hro : RulesOk ru) {jobs : List Int} {vj : Value} {C : Nat} (hv : Rd w C 1 vj jobs.length (ints jobs)) (hC : C ≤ w.heap.size) {most : Nat} (hmo : most ≤ 100) :
  Calls Try.prog 80 #[rulesV vl va vp vk ru, vj, .int .i64 (most : Nat)] w fun e w' => e = .returned (.int .i64 (jobsE ru jobs most)) ∧ Below w.heap.size w w' := by
 obtain ⟨Al, cl, Aa, ca, Ap, cp, Ak, ck, rfl, rfl, rfl, rfl⟩ := hr.sh4;obtain ⟨Aj, cj, rfl, _⟩ := hv.shape;have hn8 := hro.n8;have hbw := Below.refl w.heap.size w
 unfold rulesV
 refine EC.enter 21 Try.func80 rfl rfl rfl (EC.seq (EC.region (EL.newP (bx_116 rfl) rfl ?_)));intro g1 w1 q1 hb1 hg1 hl1;have bhbw_1 := Nat.le_trans hbw.size hg1;replace hbw := bo_ hbw hb1;clear hb1 hg1 hl1;refine EL.as rfl rfl (EL.nil (EX.seq (EC.seq (EC.block (EC.seq (EC.region (EL.mv rfl rfl (EL.val (ln_22 rfl) rfl (EL.mv rfl rfl ?_)))))))))
 by_cases hml : most < jobs.length
 ·
  refine EL.val (x_gtr (r := true) rfl rfl (decide_eq_true (by omega))) rfl ?_
  refine EL.as rfl rfl (EL.nil (EX.seq (EC.yes rfl (EC.seq (EC.region (EL.as rfl rfl (EL.nil (EX.seq (EC.ret ?_)))))))));refine EX.blk_ret (EX.seq_ret ?_)
  exact EX.done (res1 rfl rfl) ⟨by unfold jobsE; rw [if_pos hml], hbw⟩
 ·
  refine EL.val (x_gtr (r := false) rfl rfl (decide_eq_false (by omega))) rfl ?_
  refine EL.as rfl rfl (EL.nil (EX.seq (EC.no rfl (EC.seq (EC.region (EL.val (fa_116_0 rfl) rfl (EL.val (fa_28_0 rfl) rfl (EL.val (ld_22 rfl (q1.at (j := 0) rfl)) rfl (EL.val (ln_22 rfl) rfl ?_)))))))));refine EL.val (x_sub rfl rfl (c := (ru.levels.length : Nat) - 1) (IntWalk.i64_in _ ⟨by omega, by omega⟩)) rfl ?_
  refine EL.mv rfl rfl ?_
  cases hk : jobs.all (inB 0 ((ru.levels.length : Nat) - 1 : Int))
  ·
   refine EL.call (cA3 cF63 rfl rfl rfl) rfl (within_to hk _ _ C (hv.below (hbw.mono hC)) (Nat.le_trans hC hbw.size) (by omega)) ?_
   rintro e w2 ⟨rfl, hc2⟩
   refine ⟨_, rfl, ?_⟩;replace q1 := q1.bl hc2;replace hbw := bo_ hbw hc2;clear hc2;refine EL.val (x_not rfl) rfl (EL.as rfl rfl (EL.nil (EX.seq (EC.yes rfl (EC.seq (EC.region (EL.as rfl rfl (EL.nil (EX.seq ?_)))))))));refine EC.ret (EX.blk_ret (EX.seq_ret ?_))
   exact EX.done (res1 rfl rfl) ⟨by unfold jobsE; rw [if_neg hml, hk]; rfl, hbw⟩
  ·
   refine EL.call (cA3 cF63 rfl rfl rfl) rfl (within_to hk _ _ C (hv.below (hbw.mono hC)) (Nat.le_trans hC hbw.size) (by omega)) ?_
   rintro e w3 ⟨rfl, hc3⟩
   refine ⟨_, rfl, ?_⟩;replace q1 := q1.bl hc3;replace hbw := bo_ hbw hc3;clear hc3;refine EL.val (x_not rfl) rfl (EL.as rfl rfl (EL.nil (EX.seq (EC.no rfl (EC.skip (EX.blk (EX.seq (EC.seq (EC.region ?_)))))))));refine EL.as rfl rfl (EL.nil (EX.seq (EC.ret ?_)))
   exact EX.done (res1 rfl rfl) ⟨by unfold jobsE; rw [if_neg hml, hk]; rfl, hbw⟩
section
variable {n : Nat} {σ : Sg} {w : World} {dst : Option Tmp} {ty : TypeId} {pos : String} {af : Array Edge} {g : Option (Nat × Bool)} {x y z : Operand} {at' : Array TypeId}
theorem cF80 : cF 80 := fun _ _ => by simp [go_sem]
theorem cF69 : cF 69 := fun _ _ => by simp [go_sem]
theorem ln_130 {A : Option Addr} {m c : Nat} (hx : evS σ x = some (.slice A m c)) : Gives Try.prog n σ w ⟨dst, .call { callee := .builtin .len, args := #[x], argTypes := #[130] }, ty, pos, af, g⟩ (.int .i64 (m : Int)) := fun a ha => by
 simp only [execOp, resolve, List.map_toArray, List.map_cons, List.map_nil, ha.eval hx]
 simp [go_sem]
theorem cF55 : cF 55 := fun _ _ => by simp [go_sem]
theorem ix_130 {b o m c k : Nat} (hx : evS σ x = some (.slice (some ⟨b, o, none⟩) m c)) (hy : evS σ y = some (.int .i64 (k : Int))) (hk : k < m) : Gives Try.prog n σ w ⟨dst, .indexAddr 130 x y, ty, pos, af, g⟩ (.pointer (some ⟨b, o + k * 3, none⟩)) := fun a ha => by
 have k0 : (0 : Int) ≤ (k : Int) := Int.natCast_nonneg _;have k1 : (k : Int) < (m : Int) := by omega
 simp only [execOp, ha.eval hx, ha.eval hy]
 simp [go_sem, k0, k1]
end
theorem jobs_ok {ru : Rules} {jobs : List Int} {most : Nat} (h : jobsE ru jobs most = 0) : jsI (jobs.map Int.toNat) = jobs ∧ (∀ i, i < (jobs.map Int.toNat).length → (jobs.map Int.toNat).getD i 0 < ru.levels.length) ∧ (jobs.map Int.toNat).length ≤ most := by
 unfold jobsE at h
 split at h
 ·omega
 ·rename_i hl
  split at h
  ·rename_i ha
   have hk : ∀ x ∈ jobs, 0 ≤ x ∧ x < ru.levels.length := fun x hx => by
    have := List.all_eq_true.1 ha x hx;rw [inB_iff] at this
    omega
   refine ⟨?_, fun i hi => ?_, by rw [List.length_map]; omega⟩
   ·unfold jsI
    rw [List.map_map]
    conv => rhs; rw [← List.map_id jobs]
    exact List.map_congr_left fun x hx => by have := hk x hx; simp only [Function.comp, id]; omega
   ·rw [List.length_map] at hi
    rw [map_getD (d := 0) hi, getD_in hi];have := hk jobs[i] (List.getElem_mem hi)
    omega
  ·omega
def depS (ru : Rules) (l : List Ev) (jobs : List Int) : Nat := depthR (extY (yardOf ru 1)) (jobs.map Int.toNat) ([tkE ru l, tank0, tank0], pl0)
def errS (ru : Rules) (l : List Ev) (jobs : List Int) : Int := if refE ru l = 0 then jobsE ru jobs 10 else refE ru l
def codeS (ru : Rules) (l : List Ev) (jobs : List Int) : Int := if errS ru l jobs = 0 then (if depS ru l jobs < jobs.length then 7 else 0) else errS ru l jobs
def atS (ru : Rules) (l : List Ev) (jobs : List Int) : Nat := if errS ru l jobs = 0 then (if depS ru l jobs < jobs.length then depS ru l jobs else 0) else 0
theorem single_e {ru : Rules} {l : List Ev} {jobs : List Int} {v : Value} {c : Int} {a : Nat} (hc : codeS ru l jobs = c) (ha : atS ru l jobs = a) : Ending.returned (.tuple #[v, .int .i64 (a : Nat), .int .i64 c]) = .returned (.tuple #[v, .int .i64 ((atS ru l jobs) : Nat), .int .i64 (codeS ru l jobs)]) := by rw [hc, ha]
set_option maxHeartbeats 1000000 in
theorem single_any {ru : Rules} {ua up : List Value} {vl va vp vk : Value} {w : World} {B : Nat} (hr : RdRules w B vl va vp vk ru ua up) (hB : B ≤ w.heap.size) (hs : Short ru) {l : List Ev} {v : Value} (hl : Rd w B 2 v l.length (evsC l)) (hn : l.length ≤ 1048576) {jobs : List Int} {vj : Value} (hv : Rd w B 1 vj jobs.length (ints jobs)) (hjn : jobs.length ≤ 9223372036854775807) :
  Calls Try.prog 55 #[rulesV vl va vp vk ru, v, vj] w fun e w' => (∃ v' lp, e = .returned (.tuple #[v', .int .i64 ((atS ru l jobs) : Nat), .int .i64 (codeS ru l jobs)]) ∧ OwnPls w' w.heap.size v' lp ∧
   (codeS ru l jobs = 0 → lp.length = jobs.length ∧ ∀ i, i < lp.length → IsBest (compl (extY (yardOf ru 1)) ((jobs.map Int.toNat).take (i + 1)) ([tkE ru l, tank0, tank0], pl0)) ((lp.map (·.1)).getD i pl0)) ∧ (codeS ru l jobs ≠ 0 → lp = []) ∧ lp.length ≤ 10) ∧ Below w.heap.size w w' := by
 obtain ⟨Al, cl, Aa, ca, Ap, cp, Ak, ck, rfl, rfl, rfl, rfl⟩ := hr.sh4;obtain ⟨Ae, ce, rfl, _⟩ := hl.shape;obtain ⟨Aj, cj, rfl, _⟩ := hv.shape;have hbw := Below.refl w.heap.size w
 unfold rulesV
 refine EC.enter 39 Try.func55 rfl rfl rfl (EC.seq (EC.region (EL.newP (bx_28 rfl) rfl ?_)));intro g1 w1 q1 hb1 hg1 hl1;have bhbw_1 := Nat.le_trans hbw.size hg1;replace hbw := bo_ hbw hb1;clear hb1 hg1 hl1;refine EL.as rfl rfl (EL.as rfl rfl (EL.as rfl rfl (EL.nil (EX.seq (EC.seq (EC.region (EL.val (ld_28 rfl (q1.at (j := 0) rfl) (q1.at (j := 1) rfl) (q1.at (j := 2) rfl) (q1.at (j := 3) rfl) (q1.at (j := 4) rfl) (q1.at (j := 5) rfl)) rfl (EL.mv rfl rfl (EL.call (cA2 cF48 rfl rfl) rfl (after_any (hr.below (hbw.mono hB)) (Nat.le_trans hB hbw.size) hs (hl.below (hbw.mono hB)) hn) ?_)))))))))
 rintro e w2 ⟨rfl, hc2⟩
 refine ⟨_, rfl, ?_⟩;replace q1 := q1.bl hc2;replace hbw := bo_ hbw hc2;clear hc2;refine EL.mv rfl rfl (EL.xt rfl rfl rfl (EL.xt rfl rfl rfl (EL.xt rfl rfl rfl (EL.newP al_116 rfl ?_))));intro g3 w3 q3 hb3 hg3 hl3;have n1_3 := q1.na hg3;have bhbw_3 := Nat.le_trans hbw.size hg3;replace q1 := q1.bl hb3;replace hbw := bo_ hbw hb3;clear hb3 hg3 hl3;refine EL.newP al_tank rfl ?_;intro g4 w4 q4 hb4 hg4 hl4;have n1_4 := q1.na hg4;have n3_4 := q3.na hg4;have bhbw_4 := Nat.le_trans hbw.size hg4;replace q1 := q1.bl hb4;replace q3 := q3.bl hb4;replace hbw := bo_ hbw hb4;clear hb4 hg4 hl4;refine EL.store rfl rfl q3 sz_116 rfl rfl rfl rfl ?_;intro w5 hq5 hg5;replace q1 := q1.gr hg5 n1_3;replace q4 := q4.gr hg5 n3_4.symm;replace hbw := below_store hbw hg5 bhbw_3;replace q3 := hq5;clear hg5 hq5;refine EL.store (l' := (tkC (tkE ru l))) rfl rfl q4 sz_120 rfl ((lenV_eq _).trans (tkC_8 (tkE_ok ru l).n8)) (by rw [lenV_eq, Nat.ble_eq]; exact Nat.le_of_eq ((tkC_8 tank0_ok.n8).symm)) (tkC_one _) ?_
 intro w6 hq6 hg6;rw [spl_whole ((tkC_8 (tkE_ok ru l).n8).trans (tkC_8 tank0_ok.n8).symm)] at hq6;replace q1 := q1.gr hg6 n1_4;replace q3 := q3.gr hg6 n3_4;replace hbw := below_store hbw hg6 bhbw_4;replace q4 := hq6;clear hg6 hq6;refine EL.as rfl rfl (EL.nil (EX.seq (EC.seq (EC.seq (EC.region (EL.mv rfl rfl ?_))))))
 by_cases hz : refE ru l = 0
 ·
  refine EL.val (x_eql (r := true) rfl rfl (decide_eq_true hz)) rfl (EL.nil (EX.seq (EC.yes rfl (EC.region (EL.val (ld_116 rfl (q3.at (j := 0) rfl) (q3.at (j := 1) rfl) (q3.at (j := 2) rfl) (q3.at (j := 3) rfl) (q3.at (j := 4) rfl) (q3.at (j := 5) rfl)) rfl (EL.mv rfl rfl ?_))))));obtain ⟨hro, _, _⟩ := ref_ok hz;refine EL.call (cA3 cF80 rfl rfl rfl) rfl (checkJobs_any (hr.below (hbw.mono hB)) hro (hv.below (hbw.mono hB)) (Nat.le_trans hB hbw.size) (most := 10) (by decide)) ?_
  rintro e w7 ⟨rfl, hc7⟩
  refine ⟨_, rfl, ?_⟩;replace q1 := q1.bl hc7;replace q3 := q3.bl hc7;replace q4 := q4.bl hc7;replace hbw := bo_ hbw hc7;clear hc7;refine EL.as rfl rfl (EL.nil (EX.seq (EC.seq (EC.seq (EC.region (EL.mv rfl rfl ?_))))))
  by_cases hj : jobsE ru jobs 10 = 0
  ·
   refine EL.val (x_neq (r := false) rfl rfl (decide_eq_false (fun h => h hj))) rfl ?_
   refine EL.nil (EX.seq (EC.no rfl (EC.skip (EX.seq (EC.seq (EC.seq (EC.region (EL.val (ld_116 rfl (q3.at (j := 0) rfl) (q3.at (j := 1) rfl) (q3.at (j := 2) rfl) (q3.at (j := 3) rfl) (q3.at (j := 4) rfl) (q3.at (j := 5) rfl)) rfl (EL.val (x_loadA rfl (q4.range (PartAt.whole _)) Try.underlying120 rfl (sz_120.trans (congrArg some (tkC_8 (tkE_ok ru l).n8).symm))) rfl ?_)))))))));refine EL.val (x_fleet1 rfl (tkE_ok ru l).n8) rfl (EL.mv rfl rfl ?_);obtain ⟨hj1, hj2, hj3⟩ := jobs_ok hj;refine EL.call (cA4 cF69 rfl rfl rfl rfl) rfl (plans_any (hr.below (hbw.mono hB)) (Nat.le_trans hB hbw.size) hro (fleet1_ok (tkE_ok ru l)) (many := 1) (by decide) (js := jobs.map Int.toNat) hj2 hj3 (C := B) (by rw [List.length_map, hj1]; exact hv.below (hbw.mono hB)) (Nat.le_trans hB hbw.size)) ?_
   rintro e w8 ⟨⟨vp2, lp, rfl, hP, hbs⟩, hc8⟩
   refine ⟨_, rfl, ?_⟩;replace hP := hP.less hbw.size;replace q1 := q1.bl hc8;replace q3 := q3.bl hc8;replace q4 := q4.bl hc8;replace hbw := bo_ hbw hc8;clear hc8;obtain ⟨Aq, cq, rfl, _⟩ := hP.rd.shape;obtain ⟨hb1, hb2⟩ := hbs;rw [List.length_map] at hb1 hb2;refine EL.as rfl rfl (EL.nil (EX.seq (EC.seq (EC.region (EL.mv rfl rfl (EL.val (ln_130 rfl) rfl (EL.mv rfl rfl (EL.val (ln_22 rfl) rfl ?_))))))))
   by_cases hlt : lp.length < jobs.length
   ·
    refine EL.val (x_lss (r := true) rfl rfl (decide_eq_true (by omega))) rfl ?_
    refine EL.nil (EX.seq (EC.yes rfl (EC.seq (EC.region (EL.mv rfl rfl (EL.val (ln_130 rfl) rfl (EL.as rfl rfl (EL.as rfl rfl (EL.as rfl rfl ?_)))))))));refine EL.nil (EX.seq (EC.ret (EX.seq_ret ?_)));have hcd : codeS ru l jobs = 7 := by unfold codeS depS; rw [errS, if_pos hz, if_pos hj, ← hb1, if_pos hlt]
    have hat : atS ru l jobs = lp.length := by unfold atS depS; rw [errS, if_pos hz, if_pos hj, ← hb1, if_pos hlt]
    exact EX.done (res3 rfl rfl rfl rfl) ⟨⟨_, [], single_e hcd hat, OwnPls.nil, fun h => absurd h (by rw [hcd]; decide), fun _ => rfl, by decide⟩, hbw⟩
   ·
    refine EL.val (x_lss (r := false) rfl rfl (decide_eq_false (by omega))) rfl ?_
    refine EL.nil (EX.seq (EC.no rfl (EC.skip (EX.seq (EC.seq (EC.region (EL.mv rfl rfl (EL.as rfl rfl (EL.as rfl rfl ?_)))))))));refine EL.as rfl rfl (EL.nil (EX.seq (EC.ret ?_)));have hcd : codeS ru l jobs = 0 := by unfold codeS depS; rw [errS, if_pos hz, if_pos hj, ← hb1, if_neg hlt]
    have hat : atS ru l jobs = 0 := by unfold atS depS; rw [errS, if_pos hz, if_pos hj, ← hb1, if_neg hlt]
    exact EX.done (res3 rfl rfl rfl rfl) ⟨⟨_, lp, single_e hcd hat, hP, fun _ => ⟨by have := depth_le (ext := extY (yardOf ru 1)) (jobs.map Int.toNat) ([tkE ru l, tank0, tank0], pl0); rw [List.length_map] at this; omega, hb2⟩, fun h => absurd hcd h, by rw [List.length_map] at hj3; have := depth_le (ext := extY (yardOf ru 1)) (jobs.map Int.toNat) ([tkE ru l, tank0, tank0], pl0); rw [List.length_map] at this; omega⟩, hbw⟩
  ·
   refine EL.val (x_neq (r := true) rfl rfl (decide_eq_true hj)) rfl (EL.nil (EX.seq (EC.yes rfl (EC.seq (EC.region (EL.mv rfl rfl (EL.as rfl rfl (EL.as rfl rfl (EL.as rfl rfl ?_)))))))));refine EL.nil (EX.seq (EC.ret (EX.seq_ret ?_)))
   exact EX.done (res3 rfl rfl rfl rfl) ⟨⟨_, [], single_e (by unfold codeS; rw [errS, if_pos hz, if_neg hj]) (by unfold atS; rw [errS, if_pos hz, if_neg hj]), OwnPls.nil, fun h => absurd h (by unfold codeS; rw [errS, if_pos hz, if_neg hj]; exact hj), fun _ => rfl, by decide⟩, hbw⟩
 ·
  refine EL.val (x_eql (r := false) rfl rfl (decide_eq_false hz)) rfl (EL.nil (EX.seq (EC.no rfl (EC.skip (EX.seq (EC.seq (EC.seq (EC.region (EL.mv rfl rfl ?_)))))))));refine EL.val (x_neq (r := true) rfl rfl (decide_eq_true hz)) rfl (EL.nil (EX.seq (EC.yes rfl (EC.seq (EC.region (EL.mv rfl rfl (EL.as rfl rfl (EL.as rfl rfl (EL.as rfl rfl ?_)))))))));refine EL.nil (EX.seq (EC.ret (EX.seq_ret ?_)))
  exact EX.done (res3 rfl rfl rfl rfl) ⟨⟨_, [], single_e (by unfold codeS; rw [errS, if_neg hz, if_neg hz]) (by unfold atS; rw [errS, if_neg hz, if_neg hz]), OwnPls.nil, fun h => absurd h (by unfold codeS; rw [errS, if_neg hz, if_neg hz]; exact hz), fun _ => rfl, by decide⟩, hbw⟩
theorem take_ints {l : List Int} {x : Nat} (h : x < l.length) : ints (l.take (x + 1)) = ints (l.take x) ++ [.int .i64 (l.getD x 0)] := by
 rw [List.take_succ_eq_append_getElem h, getD_in h]
 unfold ints
 rw [List.map_append]
 rfl
theorem res4 {P : Program} {n : Nat} {σ : Sg} {w : World} {fn : Func} {t s r q : Tmp} {v u x y : Value} (h : fn.results = #[.tmp t, .tmp s, .tmp r, .tmp q]) (ht : σ t = some v) (hs : σ s = some u) (hx : σ r = some x) (hy : σ q = some y) (a : Act) (ha : Env n σ a) : (results fn a.tmps).run P w = .ok (.tuple #[v, u, x, y]) w := by
 have h1 : a.tmps.getD t undef = v := ha.eval (x := .tmp t) ht;have h2 : a.tmps.getD s undef = u := ha.eval (x := .tmp s) hs;have h3 : a.tmps.getD r undef = x := ha.eval (x := .tmp r) hx;have h4 : a.tmps.getD q undef = y := ha.eval (x := .tmp q) hy
 simp [results, h]
 rw [Array.getD_eq_getD_getElem?] at h1 h2 h3 h4
 simp [h1, h2, h3, h4]
theorem best_nil {ext : Nat → Sx → List Sx} {s : List (List Tr)} : IsBest (compl ext (([] : List Int).map Int.toNat) (s, pl0)) pl0 := ⟨⟨s, List.mem_singleton.2 rfl⟩, fun x hx => by rw [List.mem_singleton.1 hx, cmp_pl.self]; decide⟩
theorem at_zero {ru : Rules} {l : List Ev} {jobs : List Int} (h : codeS ru l jobs = 0) : atS ru l jobs = 0 := by
 unfold codeS at h
 unfold atS
 split
 ·rename_i he
  rw [if_pos he] at h
  split
  ·rename_i hd
   rw [if_pos hd] at h
   cases h
  ·rfl
 ·rfl
theorem code_ref {ru : Rules} {l : List Ev} {jobs : List Int} (h : codeS ru l jobs = 0) : refE ru l = 0 ∧ jobsE ru jobs 10 = 0 := by
 have he : errS ru l jobs = 0 := by
  unfold codeS at h
  split at h
  ·rename_i he; exact he
  ·exact h
 unfold errS at he
 split at he
 ·rename_i hz; exact ⟨hz, he⟩
 ·rename_i hz; exact absurd he hz
theorem plan_e {ru : Rules} {l : List Ev} {jobs : List Int} {v : Value} {c : Int} (hc : codeS ru l jobs = 0) (ha : atS ru l jobs = 0) : Ending.returned (.tuple #[v, .int .i64 c, .int .i64 0, .int .i64 0]) = .returned (.tuple #[v, .int .i64 c, .int .i64 ((atS ru l jobs) : Nat), .int .i64 (codeS ru l jobs)]) := by rw [hc, ha]; rfl
theorem plan_len {js : List Nat} {s : List (List Tr)} {p : Pl} {ru : Rules} (hro : RulesOk ru) {many : Nat} (h : IsBest (compl (extY (yardOf ru many)) js (s, pl0)) p) : p.steps.length = js.length := by
 obtain ⟨⟨t, ht⟩, _⟩ := h;have h0 : ∀ x ∈ compl (extY (yardOf ru many)) js (s, pl0), x.2.steps.length = js.length := fun x hx => by
  obtain ⟨⟨u, h1, h2⟩, _⟩ := compl_mem (extY_ok _ (kcost_nn hro many)) hx;rw [h1]
  show ([] ++ u).length = _
  rw [List.nil_append, h2]
 exact h0 _ ht
set_option maxHeartbeats 1000000 in
theorem Plan_any {ru : Rules} {ua up : List Value} {vl va vp vk : Value} {w : World} {B : Nat} (hr : RdRules w B vl va vp vk ru ua up) (hB : B ≤ w.heap.size) (hs : Short ru) {l : List Ev} {v : Value} (hl : Rd w B 2 v l.length (evsC l)) (hn : l.length ≤ 1048576) {jobs : List Int} {vj : Value} (hv : Rd w B 1 vj jobs.length (ints jobs)) (hjn : jobs.length ≤ 9223372036854775807) :
  Calls Try.prog 24 #[rulesV vl va vp vk ru, v, vj] w fun e w' => (∃ v' ws c, e = .returned (.tuple #[v', .int .i64 c, .int .i64 ((atS ru l jobs) : Nat), .int .i64 (codeS ru l jobs)]) ∧ w'.ownsRow w.heap.size 3 1 v' ws.length (ints ws) ∧
   (codeS ru l jobs = 0 → ∃ p, IsBest (compl (extY (yardOf ru 1)) (jobs.map Int.toNat) ([tkE ru l, tank0, tank0], pl0)) p ∧ ws = p.steps.map (·.wash) ∧ c = p.cost) ∧ (codeS ru l jobs ≠ 0 → ws = [] ∧ c = 0)) ∧ Below w.heap.size w w' := by
 obtain ⟨Al, cl, Aa, ca, Ap, cp, Ak, ck, rfl, rfl, rfl, rfl⟩ := hr.sh4;obtain ⟨Ae, ce, rfl, _⟩ := hl.shape;obtain ⟨Aj, cj, rfl, _⟩ := hv.shape;have hbw := Below.refl w.heap.size w
 unfold rulesV
 refine EC.enter 53 Try.func24 rfl rfl rfl (EC.seq (EC.region (EL.newP (bx_28 rfl) rfl ?_)));intro g1 w1 q1 hb1 hg1 hl1;have bhbw_1 := Nat.le_trans hbw.size hg1;replace hbw := bo_ hbw hb1;clear hb1 hg1 hl1;refine EL.as rfl rfl (EL.as rfl rfl (EL.as rfl rfl (EL.as rfl rfl (EL.nil (EX.seq (EC.seq (EC.region (EL.val (ld_28 rfl (q1.at (j := 0) rfl) (q1.at (j := 1) rfl) (q1.at (j := 2) rfl) (q1.at (j := 3) rfl) (q1.at (j := 4) rfl) (q1.at (j := 5) rfl)) rfl (EL.mv rfl rfl ?_)))))))));refine EL.mv rfl rfl (EL.call (cA3 cF55 rfl rfl rfl) rfl (single_any (hr.below (hbw.mono hB)) (Nat.le_trans hB hbw.size) hs (hl.below (hbw.mono hB)) hn (hv.below (hbw.mono hB)) hjn) ?_)
 rintro e w2 ⟨⟨v1, lp, rfl, hP, hok, hno, hl10⟩, hc2⟩
 refine ⟨_, rfl, ?_⟩;replace hP := hP.less hbw.size;replace q1 := q1.bl hc2;replace hbw := bo_ hbw hc2;clear hc2;obtain ⟨Aq, cq, rfl, _⟩ := hP.rd.shape;refine EL.mv rfl rfl (EL.xt rfl rfl rfl (EL.xt rfl rfl rfl (EL.xt rfl rfl rfl (EL.as rfl rfl (EL.as rfl rfl (EL.as rfl rfl (EL.nil (EX.seq (EC.seq ?_)))))))));refine EC.seq (EC.region (EL.mv rfl rfl ?_))
 by_cases hc : codeS ru l jobs = 0
 ·
  refine EL.val (x_neq (r := false) rfl rfl (decide_eq_false (fun h => h hc))) rfl ?_
  refine EL.mv rfl rfl (EL.mg rfl rfl rfl rfl (EL.valg rfl rfl (ln_22 rfl) rfl ?_))
  by_cases he : jobs.length = 0
  ·
   refine EL.valg rfl rfl (x_eql (r := true) rfl rfl (decide_eq_true (by omega))) rfl ?_
   refine EL.pf rfl rfl rfl (EL.nil (EX.seq (EC.yes rfl (EC.seq (EC.region (EL.mv rfl rfl (EL.mv rfl rfl (EL.as rfl rfl (EL.as rfl rfl ?_)))))))));refine EL.as rfl rfl (EL.as rfl rfl (EL.nil (EX.seq (EC.ret (EX.seq_ret ?_)))))
   exact EX.done (res4 rfl rfl rfl rfl rfl) ⟨⟨_, [], 0, rfl, World.ownsRow_nil _ _ _ _, fun _ => ⟨pl0, by rw [List.eq_nil_of_length_eq_zero he]; exact best_nil, rfl, rfl⟩, fun h => absurd hc h⟩, hbw⟩
  ·
   refine EL.valg rfl rfl (x_eql (r := false) rfl rfl (decide_eq_false (by omega))) rfl ?_
   refine EL.pf rfl rfl rfl (EL.nil (EX.seq (EC.no rfl (EC.skip (EX.seq (EC.seq (EC.region ?_)))))));obtain ⟨hlj, hbs⟩ := hok hc;obtain ⟨nn, hnn⟩ : ∃ nn, lp.length = nn + 1 := ⟨lp.length - 1, by omega⟩
   have hlast := hbs nn (by omega)
   rw [map_getD (d := pr0) (show nn < lp.length by omega), List.take_of_length_le (by rw [List.length_map]; omega)] at hlast
   have hmem : lp.getD nn pr0 ∈ lp := by rw [getD_in (show nn < lp.length by omega)]; exact List.getElem_mem _
   obtain ⟨⟨pb, Ab, cb⟩, epb⟩ : ∃ z, z = lp.getD nn pr0 := ⟨_, rfl⟩;rw [← epb] at hlast hmem
   dsimp only at hlast
   refine EL.mv rfl rfl (EL.mv rfl rfl (EL.val (ln_130 rfl) rfl ?_));refine EL.val (x_sub rfl rfl (c := ((nn : Nat) : Int)) ((IntWalk.i64_in _ ⟨by omega, by omega⟩).trans (by omega))) rfl ?_
   obtain ⟨bp, op, ep, _, c0, c1, c2⟩ := pls_cells lp nn (by omega) w2 w2.heap.size _ _ _ hP.rd
   rw [← epb] at c0 c1 c2
   dsimp only at c0 c1 c2
   cases ep
   have hst := hP.rows _ hmem
   dsimp only at hst
   have hsr : Rd w2 w2.heap.size 2 _ _ _ := Rd.of_own hst;clear hst;have hbx := Below.refl w2.heap.size w2;refine EL.val (ix_130 rfl rfl (show nn < lp.length by omega)) rfl ?_
   refine EL.val (ld_134 rfl c0 c1 c2) rfl (EL.newP al_134 rfl ?_);intro g3 w3 q3 hb3 hg3 hl3;have n1_3 := q1.na hg3;have bhbw_3 := Nat.le_trans hbw.size hg3;have bhbx_3 := Nat.le_trans hbx.size hg3;replace q1 := q1.bl hb3;replace hbw := bo_ hbw hb3;replace hbx := bo_ hbx hb3;clear hb3 hg3 hl3;refine EL.store rfl rfl q3 sz_134 rfl rfl rfl rfl ?_;intro w4 hq4 hg4;replace q1 := q1.gr hg4 n1_3;replace hbw := below_store hbw hg4 bhbw_3;replace hbx := below_store hbx hg4 bhbx_3;replace q3 := hq4;clear hg4 hq4;refine EL.nil (EX.seq (EC.seq (EC.seq (EC.region (EL.val (fa_134_0 rfl) rfl (EL.val (ld_65 rfl (q3.at (j := 0) rfl)) rfl (EL.val (ln_65 rfl) rfl (EL.mv rfl rfl (EL.nil ?_)))))))));refine EX.seq (EC.block ?_);obtain ⟨ws, ews⟩ : ∃ z, z = pb.steps.map (fun y => y.wash) := ⟨_, rfl⟩
   have hol : ws.length = pb.steps.length := by rw [ews, List.length_map]
   have hpl2 : pb.steps.length ≤ 10 := by have := plan_len (ref_ok (code_ref hc).1).1 hlast; rw [List.length_map] at this; omega
   have hbx0 := hbx;have hcs := Below.refl w4.heap.size w4;have hsz0 := hbw.size;refine EC.loopD [6, 13, 40, 41, 42, 43, 44, 45, 46, 47, 48, 49] (fun x : Nat × Value => [(40, .int .i64 (x.1 : Nat)), (6, x.2)]) (fun x W => x.1 ≤ pb.steps.length ∧ W.ownsRow w4.heap.size 3 1 x.2 x.1 (ints (ws.take x.1)) ∧ Below w4.heap.size w4 W) (fun x => pb.steps.length - x.1) (0, .slice none 0 0) ⟨Nat.zero_le _, World.ownsRow_nil _ _ _ _, hcs⟩ ⟨rfl, rfl, trivial⟩ ?_
   clear hcs
   rintro ⟨x, v6⟩ wx ⟨hx, ho, hcs⟩
   dsimp only at hx ho
   by_cases hlt : x < pb.steps.length
   ·
    obtain ⟨bp3, op3, ep3, _, c3, c4⟩ := sts_cells pb.steps x hlt wx w2.heap.size _ _ _ (hsr.below (hbx.trans (hcs.mono hbx.size)))
    cases ep3
    have hval : (pb.steps.getD x st0).wash = ws.getD x 0 := by rw [ews, map_getD (d := st0) hlt]
    refine EC.seq (EC.region ?_);refine EL.val (x_lss rfl rfl (decide_eq_true (show (((x : Nat) : Int) < ((pb.steps.length : Nat) : Int)) by omega))) rfl ?_
    refine EL.nil (EX.seq (EC.seq (EC.yes rfl (EC.skip (EX.seq (EC.seq (EC.block (EC.seq (EC.region ?_)))))))));refine EL.val (ix_65 rfl rfl hlt) rfl (EL.val (ld_70 rfl c3 c4) rfl (EL.newP al_70 rfl ?_));intro g5 w5 q5 hb5 hg5 hl5;have bhcs_5 := Nat.le_trans hcs.size hg5;replace ho := own_below ho hb5 (Nat.le_refl _);replace hcs := Below.on hcs hb5 hcs.size;clear hb5 hg5 hl5;refine EL.store rfl rfl q5 sz_70 rfl rfl rfl rfl ?_;intro w6 hq6 hg6;replace ho := own_type ho q5 rfl hg6;replace hcs := below_store hcs hg6 bhcs_5;replace q5 := hq6;clear hg6 hq6;refine EL.nil (EX.seq (EC.region (EL.mv rfl rfl (EL.val (fa_70_1 rfl) rfl (EL.val (ld_3 rfl (q5.at (j := 1) rfl)) rfl (EL.newS (bs_22_1 rfl) rfl ?_))))));intro g7 w7 q7 hb7 hg7 hl7;have n5_7 := q5.na hg7;have bhcs_7 := Nat.le_trans hcs.size hg7;replace q5 := q5.bl hb7;replace ho := own_below ho hb7 (Nat.le_refl _);replace hcs := Below.on hcs hb7 hcs.size;clear hb7 hg7 hl7;refine EL.push ir_elem rfl rfl ho (rd_one (l := [.int .i64 (pb.steps.getD x st0).wash]) q7 rfl) (by intro u hu; simp only [List.mem_cons, List.not_mem_nil, or_false] at hu; rcases hu with rfl <;> rfl) (by omega) rfl hcs.size rfl ?_
    intro v8 w8 ho2 hgr hb_ hat;replace q5 := blk_grown q5 ho rfl hgr;replace hcs := hcs.trans hb_;clear ho hgr hb_ hat;have ho := ho2;clear ho2;refine EL.as rfl rfl (EL.nil (EX.blk (EX.seq (EC.region ?_))));refine EL.val (x_add rfl rfl (c := ((x + 1 : Nat) : Int)) ((IntWalk.i64_in _ ⟨by omega, by omega⟩).trans (by omega))) rfl ?_
    refine EL.mv rfl rfl (EL.nil ?_);refine EX.roundD (x + 1, v8) ⟨rfl, rfl, trivial⟩ (by repeat first | with_reducible exact .refl _ | refine sp_ rfl ?_ | exact .refl _ | refine sd_ rfl ?_ | refine sn_ ?_) ⟨hlt, by simp only; rw [take_ints (by rw [hol]; exact hlt)]; exact own_cast ho rfl (by rw [hval]), hcs⟩ (by simp only; omega)
   ·
    have hxe : x = pb.steps.length := by omega
    replace hbw := hbw.trans (hcs.mono hsz0);rw [hxe, List.take_of_length_le (Nat.le_of_eq hol)] at ho;replace ho := own_less ho hsz0;replace q3 := q3.bl hcs;refine EC.seq (EC.region ?_);refine EL.val (x_lss rfl rfl (decide_eq_false (show ¬(((x : Nat) : Int) < ((pb.steps.length : Nat) : Int)) by omega))) rfl ?_
    refine EL.nil (EX.seq (EC.seq (EC.no rfl (EC.exit (EX.seq_exit (EX.seq_exit (EX.blk_here (EX.seq (EC.seq ?_)))))))));have lt_3 := q3.lt;refine EC.regionP [[], [], [1], [0], [0, 1, 2, 3], [0, 1, 2, 3, 4], [0, 1, 2, 3, 4, 5]] 4 [] (phi (fun i_ r => match i_ with | 0 => r 0 = v6 | 1 => r 1 = .pointer (some ⟨g3, 2, none⟩) | 2 => r 2 = .int .i64 pb.cost | 3 => r 3 = v6 | _ => True) []) (by kernel_rfl) rfl rfl (phi_nil) (fun i_ hi_ => ?_) ?_
    ·match i_, hi_ with
     | 0, _ =>
      intro val w1 a hb ha hd;have ha := ha.s0 (d := 6) rfl
      exact hs_val ha rfl rfl (x_move rfl) rfl rfl
     | 1, _ =>
      intro val w1 a hb ha hd;have ha := ha.s0 (d := 11) rfl
      exact hs_val ha rfl rfl (fa_134_2 rfl) rfl rfl
     | 2, _ =>
      intro val w1 a hb ha hd;have e1 : val 1 = _ := hd 1 (memB_mem.1 rfl);have ha := ha.s1 (d := 51) rfl e1
      exact hs_val ha rfl rfl (ld_3 rfl ((q3.below hb q3.lt).at (j := 2) rfl)) rfl rfl
     | 3, _ =>
      intro val w1 a hb ha hd;have e0 : val 0 = _ := hd 0 (memB_mem.1 rfl);have ha := ha.s1 (d := 50) rfl e0
      exact hs_val ha rfl rfl (x_assign rfl) rfl rfl
     | k + 4, h => exact absurd h (by omega)
    ·intro val wR10 hb halc hd
     have e0 : val 0 = _ := hd 0 (by omega)
     have e1 : val 1 = _ := hd 1 (by omega)
     have e2 : val 2 = _ := hd 2 (by omega)
     have e3 : val 3 = _ := hd 3 (by omega)
     refine EL.ends (cs := [_, _, _, _]) ⟨e0, e1, e2, e3, trivial⟩ rfl ?_;replace q3 := q3.bl hb;replace ho := own_below ho hb (Nat.le_refl _);replace hbw := bo_ hbw hb;clear hb;refine EL.as rfl rfl (EL.as rfl rfl (EL.as rfl rfl (EL.nil (EX.seq (EC.ret ?_)))));have hat : atS ru l jobs = 0 := at_zero hc
     exact EX.done (res4 rfl rfl rfl rfl rfl) ⟨⟨_, ws, pb.cost, plan_e hc hat, own_cast ho hol.symm rfl, fun _ => ⟨pb, hlast, ews, rfl⟩, fun h => absurd hc h⟩, hbw⟩
 ·
  refine EL.val (x_neq (r := true) rfl rfl (decide_eq_true hc)) rfl (EL.mv rfl rfl (EL.skip rfl rfl rfl rfl (EL.skip rfl rfl rfl rfl (EL.skip rfl rfl rfl rfl (EL.pt rfl rfl rfl (EL.nil (EX.seq (EC.yes rfl (EC.seq ?_)))))))));refine EC.region (EL.mv rfl rfl (EL.mv rfl rfl (EL.as rfl rfl (EL.as rfl rfl (EL.as rfl rfl (EL.as rfl rfl (EL.nil (EX.seq (EC.ret ?_)))))))));refine EX.seq_ret ?_
  exact EX.done (res4 rfl rfl rfl rfl rfl) ⟨⟨_, [], 0, rfl, World.ownsRow_nil _ _ _ _, fun h => absurd h hc, fun _ => ⟨rfl, rfl⟩⟩, hbw⟩
section
variable {n : Nat} {σ : Sg} {w : World} {dst : Option Tmp} {ty : TypeId} {pos : String} {af : Array Edge} {g : Option (Nat × Bool)} {x y z : Operand} {at' : Array TypeId}
theorem ln_96 {A : Option Addr} {m c : Nat} (hx : evS σ x = some (.slice A m c)) : Gives Try.prog n σ w ⟨dst, .call { callee := .builtin .len, args := #[x], argTypes := #[96] }, ty, pos, af, g⟩ (.int .i64 (m : Int)) := fun a ha => by
 simp only [execOp, resolve, List.map_toArray, List.map_cons, List.map_nil, ha.eval hx]
 simp [go_sem]
theorem ix_96 {b o m c k : Nat} (hx : evS σ x = some (.slice (some ⟨b, o, none⟩) m c)) (hy : evS σ y = some (.int .i64 (k : Int))) (hk : k < m) : Gives Try.prog n σ w ⟨dst, .indexAddr 96 x y, ty, pos, af, g⟩ (.pointer (some ⟨b, o + k, none⟩)) := fun a ha => by
 have k0 : (0 : Int) ≤ (k : Int) := Int.natCast_nonneg _;have k1 : (k : Int) < (m : Int) := by omega
 simp only [execOp, ha.eval hx, ha.eval hy]
 simp [go_sem, k0, k1]
theorem cF68 : cF 68 := fun _ _ => by simp [go_sem]
end
theorem agree_i {σ : Sg} {s : Nat} {b b' : Int} (h : b = b') (hs : σ s = some (.int .i64 b)) : σ s = some (.int .i64 b') := h ▸ hs
/-- the tanks behind the first i histories -/
def fillF (ru : Rules) (tanks : List (List Ev)) (i : Nat) : List (List Tr) := (List.range 3).map fun k => if k < i then tkE ru (tanks.getD k []) else tank0
theorem fillF_ok (ru : Rules) (tanks : List (List Ev)) (i : Nat) : FlOk (fillF ru tanks i) := by
 have hm : ∀ u ∈ fillF ru tanks i, TkOk u := fun u hu => by
  obtain ⟨k, _, rfl⟩ := List.mem_map.1 hu
  split
  ·exact tkE_ok ru _
  ·exact tank0_ok
 exact ⟨⟨by simp [fillF], fun u hu => (hm u hu).n8⟩, hm⟩
theorem fillF_set {ru : Rules} {tanks : List (List Ev)} {i : Nat} (h : i < 3) : (fillF ru tanks i).set i (tkE ru (tanks.getD i [])) = fillF ru tanks (i + 1) := by
 match i, h with
 | 0, _ => rfl
 | 1, _ => rfl
 | 2, _ => rfl
def tanksE (ru : Rules) : List (List Ev) → Int
 | [] => 0
 | l :: ls => if refE ru l = 0 then tanksE ru ls else refE ru l
theorem tanksE_none {ru : Rules} : ∀ {tanks : List (List Ev)}, (∀ k, k < tanks.length → refE ru (tanks.getD k []) = 0) → tanksE ru tanks = 0
 | [], _ => rfl
 | l :: ls, h => by
  have h0 := h 0 (by simp)
  show (if refE ru l = 0 then _ else _) = _
  rw [if_pos (show refE ru l = 0 from h0)]
  exact tanksE_none fun k hk => h (k + 1) (by simpa using hk)
theorem tanksE_at {ru : Rules} : ∀ {tanks : List (List Ev)} {i : Nat}, (∀ k, k < i → refE ru (tanks.getD k []) = 0) → i < tanks.length → refE ru (tanks.getD i []) ≠ 0 → tanksE ru tanks = refE ru (tanks.getD i [])
 | [], _, _, h, _ => by simp at h
 | l :: ls, 0, _, _, hz => if_neg hz
 | l :: ls, i + 1, h, hi, hz => by
  show (if refE ru l = 0 then _ else _) = _
  rw [if_pos (show refE ru l = 0 from h 0 (by omega))]
  exact tanksE_at (i := i) (fun k hk => h (k + 1) (by omega)) (by simpa using hi) hz
def yardE (ru : Rules) (tanks : List (List Ev)) (jobs : List Int) : Int := if rulesB ru = true then (if 3 < tanks.length then 5 else if tanks.length = 0 then 4 else if tanksE ru tanks = 0 then jobsE ru jobs 6 else tanksE ru tanks) else 2
theorem yard_e {ru : Rules} {tanks : List (List Ev)} {jobs : List Int} {a b : Value} {c : Int} (h : yardE ru tanks jobs = c) : Ending.returned (.tuple #[a, b, .int .i64 c]) = .returned (.tuple #[a, b, .int .i64 (yardE ru tanks jobs)]) := by rw [h]
set_option maxHeartbeats 2000000 in
theorem yard_any {ru : Rules} {ua up : List Value} {vl va vp vk : Value} {w : World} {B : Nat} (hr : RdRules w B vl va vp vk ru ua up) (hB : B ≤ w.heap.size) (hs : Short ru) {tanks : List (List Ev)} {vt : Value} {ut : List Value} (ht : RdLL evC 2 w B vt tanks ut) (htn : ∀ i, i < tanks.length → (tanks.getD i []).length ≤ 1048576) (htl : tanks.length ≤ 9223372036854775807) {jobs : List Int} {vj : Value} (hv : Rd w B 1 vj jobs.length (ints jobs)) (hjn : jobs.length ≤ 9223372036854775807) :
  Calls Try.prog 68 #[rulesV vl va vp vk ru, vt, vj] w fun e w' => (∃ sf, e = .returned (.tuple #[rulesV vl va vp vk ru, flV sf, .int .i64 (yardE ru tanks jobs)]) ∧ FlOk sf ∧ (yardE ru tanks jobs = 0 → sf = fillF ru tanks tanks.length)) ∧ Below w.heap.size w w' := by
 obtain ⟨Al, cl, Aa, ca, Ap, cp, Ak, ck, rfl, rfl, rfl, rfl⟩ := hr.sh4;obtain ⟨At, ct, rfl, _⟩ := ht.rd.shape;obtain ⟨Aj, cj, rfl, _⟩ := hv.shape;have hbw := Below.refl w.heap.size w
 unfold rulesV
 refine EC.enter 61 Try.func68 rfl rfl rfl (EC.seq (EC.region (EL.newP (bx_28 rfl) rfl ?_)));intro g1 w1 q1 hb1 hg1 hl1;have bhbw_1 := Nat.le_trans hbw.size hg1;replace hbw := bo_ hbw hb1;clear hb1 hg1 hl1;refine EL.newP al_116 rfl ?_;intro g2 w2 q2 hb2 hg2 hl2;have n1_2 := q1.na hg2;have bhbw_2 := Nat.le_trans hbw.size hg2;replace q1 := q1.bl hb2;replace hbw := bo_ hbw hb2;clear hb2 hg2 hl2;refine EL.newP al_fleet rfl ?_;intro g3 w3 q3 hb3 hg3 hl3;have n1_3 := q1.na hg3;have n2_3 := q2.na hg3;have bhbw_3 := Nat.le_trans hbw.size hg3;replace q1 := q1.bl hb3;replace q2 := q2.bl hb3;replace hbw := bo_ hbw hb3;clear hb3 hg3 hl3;refine EL.as rfl rfl (EL.nil (EX.seq (EC.seq (EC.region (EL.val (ld_28 rfl (q1.at (j := 0) rfl) (q1.at (j := 1) rfl) (q1.at (j := 2) rfl) (q1.at (j := 3) rfl) (q1.at (j := 4) rfl) (q1.at (j := 5) rfl)) rfl ?_)))))
 cases hrb : rulesB ru
 ·
  have hop := open_any (hr.below (hbw.mono hB)) (Nat.le_trans hB hbw.size) hs;rw [hrb] at hop;refine EL.call (cA1 cF74 rfl) rfl (hop) ?_
  rintro e w4 ⟨rfl, hc4⟩
  refine ⟨_, rfl, ?_⟩;replace q1 := q1.bl hc4;replace q2 := q2.bl hc4;replace q3 := q3.bl hc4;replace hbw := bo_ hbw hc4;clear hc4;refine EL.mv rfl rfl (EL.xt rfl rfl rfl (EL.xt rfl rfl rfl (EL.store rfl rfl q2 sz_116 rfl rfl rfl rfl ?_)));intro w5 hq5 hg5;replace q1 := q1.gr hg5 n1_2;replace q3 := q3.gr hg5 n2_3.symm;replace hbw := below_store hbw hg5 bhbw_2;replace q2 := hq5;clear hg5 hq5;refine EL.as rfl rfl (EL.nil (EX.seq (EC.seq (EC.block (EC.seq (EC.region (EL.mv rfl rfl ?_)))))));refine EL.val (x_neq (r := true) rfl rfl (by decide)) rfl ?_
  refine EL.as rfl rfl (EL.nil (EX.seq (EC.yes rfl (EC.seq ?_))));have lt_1 := q1.lt;have lt_2 := q2.lt;have lt_3 := q3.lt;refine EC.regionS [[], [], [], [0], [0, 1, 3], [0, 1, 2, 3, 4]] 5 [] [3, 4] (fun fl w_ => Touch w5 w_ [g2, g3] ∧ Blk w_ g2 116 #[.slice Al ru.levels.length cl, .int .i64 ru.fade.lo, .int .i64 ru.fade.hi, .slice Aa ru.allow.length ca, .slice Ap ru.apart.length cp, .slice Ak ru.kinds.length ck] ∧ Blk w_ g3 150 (flC [tank0, tank0, tank0]).toArray) (phiS (fun i_ r => match i_ with | 0 => r 0 = .agg #[.slice Al ru.levels.length cl, .int .i64 ru.fade.lo, .int .i64 ru.fade.hi, .slice Aa ru.allow.length ca, .slice Ap ru.apart.length cp, .slice Ak ru.kinds.length ck] | 1 => r 1 = .agg (flC [tank0, tank0, tank0]).toArray | 2 => r 2 = .int .i64 2 | _ => True) []) (by kernel_rfl) rfl rfl (by intro i hi; simp at hi; rcases hi with rfl | rfl <;> exact ⟨by simp, by omega⟩) ⟨fun _ _ => ⟨Touch.start _ _, q2, q3⟩, fun _ _ _ ⟨hT, h6, h7⟩ hb => ⟨hT.below hb, h6.below hb h6.lt, h7.below hb h7.lt⟩, fun _ _ h => h.1.size⟩ phiS_nil (fun i_ hi_ hs_ => ?_) (fun i_ hi_ => ?_) ?_
  ·match i_, hi_ with
   | 0, _ =>
    intro val fl w1 a hb ha hd hfl;obtain ⟨hT, h6, h7⟩ := hb;have ha := ha.s0 (d := 6) rfl
    exact ss_val ha rfl rfl (ld_116 rfl (h6.at (j := 0) rfl) (h6.at (j := 1) rfl) (h6.at (j := 2) rfl) (h6.at (j := 3) rfl) (h6.at (j := 4) rfl) (h6.at (j := 5) rfl)) rfl rfl
   | 1, _ =>
    intro val fl w1 a hb ha hd hfl;obtain ⟨hT, h6, h7⟩ := hb;have ha := ha.s0 (d := 7) rfl
    exact ss_val ha rfl rfl (x_loadA rfl (h7.range (PartAt.whole _)) Try.underlying150 rfl (sz_150.trans (congrArg some fl0_len.symm))) rfl rfl
   | 2, _ =>
    intro val fl w1 a hb ha hd hfl;obtain ⟨hT, h6, h7⟩ := hb;have ha := ha.s0 (d := 8) rfl
    exact ss_val ha rfl rfl (x_move rfl) rfl rfl
   | 3, _ =>
    exact absurd (by simp) hs_
   | 4, _ =>
    exact absurd (by simp) hs_
   | k + 5, h => exact absurd h (by omega)
  ·simp only [List.mem_cons, List.not_mem_nil, or_false] at hi_; rcases hi_ with rfl | rfl
   ·
    intro val fl w1 a hb hfi ha hd hfl;obtain ⟨hT, h6, h7⟩ := hb;have e0 : val 0 = _ := hd 0 (memB_mem.1 rfl);have ha := ha.sub (Sub.ins (d := 19) (Sub.ins (d := 6) (Sub.nil _) rfl) (dep_get rfl e0));refine ts_store ha rfl rfl rfl h6 sz_116 rfl rfl rfl rfl ?_;intro w' hq hgr;refine ⟨undef, rfl, hgr.size, ⟨hT.grown hgr (by simp), hq, h7.grown hgr (fun h => n2_3.symm (Option.some.inj h))⟩, trivial, fun j _ hj hn hA => ?_⟩
    exact fun h => h
   ·
    intro val fl w1 a hb hfi ha hd hfl;obtain ⟨hT, h6, h7⟩ := hb;have e1 : val 1 = _ := hd 1 (memB_mem.1 rfl);have ha := ha.sub (Sub.ins (d := 20) (Sub.ins (d := 7) (Sub.nil _) rfl) (dep_get rfl e1));refine ts_store (l' := (flC [tank0, tank0, tank0])) ha rfl rfl rfl h7 sz_150 rfl ((lenV_eq _).trans fl0_len) (by rw [lenV_eq, Nat.ble_eq]; exact Nat.le_of_eq fl0_len.symm) (flC_one _) ?_
    intro w' hq hgr;rw [spl_whole rfl] at hq;refine ⟨undef, rfl, hgr.size, ⟨hT.grown hgr (by simp), h6.grown hgr (fun h => n2_3 (Option.some.inj h)), hq⟩, trivial, fun j _ hj hn hA => ?_⟩
    exact fun h => h
  ·intro val fl wR3 hfl hb halc hd
   obtain ⟨hT, h6, h7⟩ := hb;have e0 : val 0 = _ := hd 0 (by omega)
   have e1 : val 1 = _ := hd 1 (by omega)
   have e2 : val 2 = _ := hd 2 (by omega)
   refine EL.ends (cs := [_, _, _, val 3, val 4]) ⟨e0, e1, e2, rfl, rfl, trivial⟩ rfl ?_;replace q1 := q1.touch hT (by simp only [List.mem_cons, List.not_mem_nil, or_false, not_or]; exact ⟨n1_2, n1_3⟩)
   replace q2 := h6;replace q3 := h7;replace hbw := hT.anchor hbw (by simp only [List.mem_cons, List.not_mem_nil, or_false, forall_eq_or_imp, forall_eq]; exact ⟨bhbw_2, bhbw_3⟩)
   refine EL.as rfl rfl (EL.nil (EX.seq (EC.ret (EX.blk_ret (EX.seq_ret ?_)))));have hye : yardE ru tanks jobs = 2 := by unfold yardE; rw [hrb]; rfl
   exact EX.done (resc2t rfl rfl rfl rfl (lv_116 (q2.at (j := 0) rfl) (q2.at (j := 1) rfl) (q2.at (j := 2) rfl) (q2.at (j := 3) rfl) (q2.at (j := 4) rfl) (q2.at (j := 5) rfl)) (run_loadVar_mid _ _ 0 150 _ _ (q3.range (PartAt.whole _)) Try.underlying150 rfl (sz_150.trans (congrArg some fl0_len.symm)))) ⟨⟨[tank0, tank0, tank0], yard_e hye, (fillF_ok ru tanks 0), fun h => absurd h (by rw [hye]; decide)⟩, hbw⟩
 ·
  have hop := open_any (hr.below (hbw.mono hB)) (Nat.le_trans hB hbw.size) hs;rw [hrb] at hop;refine EL.call (cA1 cF74 rfl) rfl (hop) ?_
  rintro e w6 ⟨rfl, hc6⟩
  refine ⟨_, rfl, ?_⟩;replace q1 := q1.bl hc6;replace q2 := q2.bl hc6;replace q3 := q3.bl hc6;replace hbw := bo_ hbw hc6;clear hc6;refine EL.mv rfl rfl (EL.xt rfl rfl rfl (EL.xt rfl rfl rfl (EL.store rfl rfl q2 sz_116 rfl rfl rfl rfl ?_)));intro w7 hq7 hg7;replace q1 := q1.gr hg7 n1_2;replace q3 := q3.gr hg7 n2_3.symm;replace hbw := below_store hbw hg7 bhbw_2;replace q2 := hq7;clear hg7 hq7;refine EL.as rfl rfl (EL.nil (EX.seq (EC.seq (EC.block (EC.seq (EC.region (EL.mv rfl rfl ?_)))))));refine EL.val (x_neq (r := false) rfl rfl (by decide)) rfl ?_
  refine EL.as rfl rfl (EL.nil (EX.seq (EC.no rfl (EC.seq (EC.region (EL.mv rfl rfl (EL.val (ln_96 rfl) rfl ?_)))))))
  by_cases h3 : 3 < tanks.length
  ·
   refine EL.val (x_gtr (r := true) rfl rfl (decide_eq_true (by omega))) rfl ?_
   refine EL.as rfl rfl (EL.nil (EX.seq (EC.yes rfl (EC.seq ?_))));have lt_1 := q1.lt;have lt_2 := q2.lt;have lt_3 := q3.lt;refine EC.regionS [[], [], [0], [0, 1, 2], [0, 1, 2, 3]] 4 [] [2, 3] (fun fl w_ => Touch w7 w_ [g2, g3] ∧ Blk w_ g2 116 #[.slice Al ru.levels.length cl, .int .i64 ru.fade.lo, .int .i64 ru.fade.hi, .slice Aa ru.allow.length ca, .slice Ap ru.apart.length cp, .slice Ak ru.kinds.length ck] ∧ Blk w_ g3 150 (flC [tank0, tank0, tank0]).toArray) (phiS (fun i_ r => match i_ with | 0 => r 0 = .agg #[.slice Al ru.levels.length cl, .int .i64 ru.fade.lo, .int .i64 ru.fade.hi, .slice Aa ru.allow.length ca, .slice Ap ru.apart.length cp, .slice Ak ru.kinds.length ck] | 1 => r 1 = .agg (flC [tank0, tank0, tank0]).toArray | _ => True) []) (by kernel_rfl) rfl rfl (by intro i hi; simp at hi; rcases hi with rfl | rfl <;> exact ⟨by simp, by omega⟩) ⟨fun _ _ => ⟨Touch.start _ _, q2, q3⟩, fun _ _ _ ⟨hT, h6, h7⟩ hb => ⟨hT.below hb, h6.below hb h6.lt, h7.below hb h7.lt⟩, fun _ _ h => h.1.size⟩ phiS_nil (fun i_ hi_ hs_ => ?_) (fun i_ hi_ => ?_) ?_
   ·match i_, hi_ with
    | 0, _ =>
     intro val fl w1 a hb ha hd hfl;obtain ⟨hT, h6, h7⟩ := hb;have ha := ha.s0 (d := 6) rfl
     exact ss_val ha rfl rfl (ld_116 rfl (h6.at (j := 0) rfl) (h6.at (j := 1) rfl) (h6.at (j := 2) rfl) (h6.at (j := 3) rfl) (h6.at (j := 4) rfl) (h6.at (j := 5) rfl)) rfl rfl
    | 1, _ =>
     intro val fl w1 a hb ha hd hfl;obtain ⟨hT, h6, h7⟩ := hb;have ha := ha.s0 (d := 7) rfl
     exact ss_val ha rfl rfl (x_loadA rfl (h7.range (PartAt.whole _)) Try.underlying150 rfl (sz_150.trans (congrArg some fl0_len.symm))) rfl rfl
    | 2, _ =>
     exact absurd (by simp) hs_
    | 3, _ =>
     exact absurd (by simp) hs_
    | k + 4, h => exact absurd h (by omega)
   ·simp only [List.mem_cons, List.not_mem_nil, or_false] at hi_; rcases hi_ with rfl | rfl
    ·
     intro val fl w1 a hb hfi ha hd hfl;obtain ⟨hT, h6, h7⟩ := hb;have e0 : val 0 = _ := hd 0 (memB_mem.1 rfl);have ha := ha.sub (Sub.ins (d := 26) (Sub.ins (d := 6) (Sub.nil _) rfl) (dep_get rfl e0));refine ts_store ha rfl rfl rfl h6 sz_116 rfl rfl rfl rfl ?_;intro w' hq hgr;refine ⟨undef, rfl, hgr.size, ⟨hT.grown hgr (by simp), hq, h7.grown hgr (fun h => n2_3.symm (Option.some.inj h))⟩, trivial, fun j _ hj hn hA => ?_⟩
     exact fun h => h
    ·
     intro val fl w1 a hb hfi ha hd hfl;obtain ⟨hT, h6, h7⟩ := hb;have e1 : val 1 = _ := hd 1 (memB_mem.1 rfl);have ha := ha.sub (Sub.ins (d := 27) (Sub.ins (d := 7) (Sub.nil _) rfl) (dep_get rfl e1));refine ts_store (l' := (flC [tank0, tank0, tank0])) ha rfl rfl rfl h7 sz_150 rfl ((lenV_eq _).trans fl0_len) (by rw [lenV_eq, Nat.ble_eq]; exact Nat.le_of_eq fl0_len.symm) (flC_one _) ?_
     intro w' hq hgr;rw [spl_whole rfl] at hq;refine ⟨undef, rfl, hgr.size, ⟨hT.grown hgr (by simp), h6.grown hgr (fun h => n2_3 (Option.some.inj h)), hq⟩, trivial, fun j _ hj hn hA => ?_⟩
     exact fun h => h
   ·intro val fl wR5 hfl hb halc hd
    obtain ⟨hT, h6, h7⟩ := hb;have e0 : val 0 = _ := hd 0 (by omega)
    have e1 : val 1 = _ := hd 1 (by omega)
    refine EL.ends (cs := [_, _, val 2, val 3]) ⟨e0, e1, rfl, rfl, trivial⟩ rfl ?_;replace q1 := q1.touch hT (by simp only [List.mem_cons, List.not_mem_nil, or_false, not_or]; exact ⟨n1_2, n1_3⟩)
    replace q2 := h6;replace q3 := h7;replace hbw := hT.anchor hbw (by simp only [List.mem_cons, List.not_mem_nil, or_false, forall_eq_or_imp, forall_eq]; exact ⟨bhbw_2, bhbw_3⟩)
    refine EL.as rfl rfl (EL.nil (EX.seq (EC.ret (EX.blk_ret (EX.seq_ret ?_)))));have hye : yardE ru tanks jobs = 5 := by unfold yardE; rw [hrb, if_pos rfl, if_pos h3]
    exact EX.done (resc2t rfl rfl rfl rfl (lv_116 (q2.at (j := 0) rfl) (q2.at (j := 1) rfl) (q2.at (j := 2) rfl) (q2.at (j := 3) rfl) (q2.at (j := 4) rfl) (q2.at (j := 5) rfl)) (run_loadVar_mid _ _ 0 150 _ _ (q3.range (PartAt.whole _)) Try.underlying150 rfl (sz_150.trans (congrArg some fl0_len.symm)))) ⟨⟨[tank0, tank0, tank0], yard_e hye, (fillF_ok ru tanks 0), fun h => absurd h (by rw [hye]; decide)⟩, hbw⟩
  ·
   refine EL.val (x_gtr (r := false) rfl rfl (decide_eq_false (by omega))) rfl ?_
   refine EL.as rfl rfl (EL.nil (EX.seq (EC.no rfl (EC.seq (EC.region (EL.mv rfl rfl (EL.val (ln_96 rfl) rfl ?_)))))))
   by_cases h0 : tanks.length = 0
   ·
    refine EL.val (x_eql (r := true) rfl rfl (decide_eq_true (by omega))) rfl ?_
    refine EL.as rfl rfl (EL.nil (EX.seq (EC.yes rfl (EC.seq ?_))));have lt_1 := q1.lt;have lt_2 := q2.lt;have lt_3 := q3.lt;refine EC.regionS [[], [], [0], [0, 1, 2], [0, 1, 2, 3]] 4 [] [2, 3] (fun fl w_ => Touch w7 w_ [g2, g3] ∧ Blk w_ g2 116 #[.slice Al ru.levels.length cl, .int .i64 ru.fade.lo, .int .i64 ru.fade.hi, .slice Aa ru.allow.length ca, .slice Ap ru.apart.length cp, .slice Ak ru.kinds.length ck] ∧ Blk w_ g3 150 (flC [tank0, tank0, tank0]).toArray) (phiS (fun i_ r => match i_ with | 0 => r 0 = .agg #[.slice Al ru.levels.length cl, .int .i64 ru.fade.lo, .int .i64 ru.fade.hi, .slice Aa ru.allow.length ca, .slice Ap ru.apart.length cp, .slice Ak ru.kinds.length ck] | 1 => r 1 = .agg (flC [tank0, tank0, tank0]).toArray | _ => True) []) (by kernel_rfl) rfl rfl (by intro i hi; simp at hi; rcases hi with rfl | rfl <;> exact ⟨by simp, by omega⟩) ⟨fun _ _ => ⟨Touch.start _ _, q2, q3⟩, fun _ _ _ ⟨hT, h6, h7⟩ hb => ⟨hT.below hb, h6.below hb h6.lt, h7.below hb h7.lt⟩, fun _ _ h => h.1.size⟩ phiS_nil (fun i_ hi_ hs_ => ?_) (fun i_ hi_ => ?_) ?_
    ·match i_, hi_ with
     | 0, _ =>
      intro val fl w1 a hb ha hd hfl;obtain ⟨hT, h6, h7⟩ := hb;have ha := ha.s0 (d := 6) rfl
      exact ss_val ha rfl rfl (ld_116 rfl (h6.at (j := 0) rfl) (h6.at (j := 1) rfl) (h6.at (j := 2) rfl) (h6.at (j := 3) rfl) (h6.at (j := 4) rfl) (h6.at (j := 5) rfl)) rfl rfl
     | 1, _ =>
      intro val fl w1 a hb ha hd hfl;obtain ⟨hT, h6, h7⟩ := hb;have ha := ha.s0 (d := 7) rfl
      exact ss_val ha rfl rfl (x_loadA rfl (h7.range (PartAt.whole _)) Try.underlying150 rfl (sz_150.trans (congrArg some fl0_len.symm))) rfl rfl
     | 2, _ =>
      exact absurd (by simp) hs_
     | 3, _ =>
      exact absurd (by simp) hs_
     | k + 4, h => exact absurd h (by omega)
    ·simp only [List.mem_cons, List.not_mem_nil, or_false] at hi_; rcases hi_ with rfl | rfl
     ·
      intro val fl w1 a hb hfi ha hd hfl;obtain ⟨hT, h6, h7⟩ := hb;have e0 : val 0 = _ := hd 0 (memB_mem.1 rfl);have ha := ha.sub (Sub.ins (d := 32) (Sub.ins (d := 6) (Sub.nil _) rfl) (dep_get rfl e0));refine ts_store ha rfl rfl rfl h6 sz_116 rfl rfl rfl rfl ?_;intro w' hq hgr;refine ⟨undef, rfl, hgr.size, ⟨hT.grown hgr (by simp), hq, h7.grown hgr (fun h => n2_3.symm (Option.some.inj h))⟩, trivial, fun j _ hj hn hA => ?_⟩
      exact fun h => h
     ·
      intro val fl w1 a hb hfi ha hd hfl;obtain ⟨hT, h6, h7⟩ := hb;have e1 : val 1 = _ := hd 1 (memB_mem.1 rfl);have ha := ha.sub (Sub.ins (d := 33) (Sub.ins (d := 7) (Sub.nil _) rfl) (dep_get rfl e1));refine ts_store (l' := (flC [tank0, tank0, tank0])) ha rfl rfl rfl h7 sz_150 rfl ((lenV_eq _).trans fl0_len) (by rw [lenV_eq, Nat.ble_eq]; exact Nat.le_of_eq fl0_len.symm) (flC_one _) ?_
      intro w' hq hgr;rw [spl_whole rfl] at hq;refine ⟨undef, rfl, hgr.size, ⟨hT.grown hgr (by simp), h6.grown hgr (fun h => n2_3 (Option.some.inj h)), hq⟩, trivial, fun j _ hj hn hA => ?_⟩
      exact fun h => h
    ·intro val fl wR7 hfl hb halc hd
     obtain ⟨hT, h6, h7⟩ := hb;have e0 : val 0 = _ := hd 0 (by omega)
     have e1 : val 1 = _ := hd 1 (by omega)
     refine EL.ends (cs := [_, _, val 2, val 3]) ⟨e0, e1, rfl, rfl, trivial⟩ rfl ?_;replace q1 := q1.touch hT (by simp only [List.mem_cons, List.not_mem_nil, or_false, not_or]; exact ⟨n1_2, n1_3⟩)
     replace q2 := h6;replace q3 := h7;replace hbw := hT.anchor hbw (by simp only [List.mem_cons, List.not_mem_nil, or_false, forall_eq_or_imp, forall_eq]; exact ⟨bhbw_2, bhbw_3⟩)
     refine EL.as rfl rfl (EL.nil (EX.seq (EC.ret (EX.blk_ret (EX.seq_ret ?_)))));have hye : yardE ru tanks jobs = 4 := by unfold yardE; rw [hrb, if_pos rfl, if_neg h3, if_pos h0]
     exact EX.done (resc2t rfl rfl rfl rfl (lv_116 (q2.at (j := 0) rfl) (q2.at (j := 1) rfl) (q2.at (j := 2) rfl) (q2.at (j := 3) rfl) (q2.at (j := 4) rfl) (q2.at (j := 5) rfl)) (run_loadVar_mid _ _ 0 150 _ _ (q3.range (PartAt.whole _)) Try.underlying150 rfl (sz_150.trans (congrArg some fl0_len.symm)))) ⟨⟨[tank0, tank0, tank0], yard_e hye, (fillF_ok ru tanks 0), fun h => absurd h (by rw [hye]; decide)⟩, hbw⟩
   ·
    refine EL.val (x_eql (r := false) rfl rfl (decide_eq_false (by omega))) rfl ?_
    refine EL.as rfl rfl (EL.nil (EX.seq (EC.no rfl (EC.skip (EX.blk (EX.seq (EC.seq (EC.seq (EC.region ?_)))))))));refine EL.mv rfl rfl (EL.val (ln_96 rfl) rfl (EL.mv rfl rfl (EL.nil (EX.seq (EC.block ?_)))));have hro := rules_ok hrb;refine EC.loopD [8, 9, 10, 36, 37, 38, 39, 40, 41, 42, 43, 44, 45, 46, 47, 48, 49, 50, 51, 52, 53, 54, 55] (fun x : Nat => [(36, .int .i64 (x : Nat)), (8, .int .i64 0)]) (fun x W => x ≤ tanks.length ∧ (∀ k, k < x → refE ru (tanks.getD k []) = 0) ∧ Blk W g1 28 #[.slice Al ru.levels.length cl, .int .i64 ru.fade.lo, .int .i64 ru.fade.hi, .slice Aa ru.allow.length ca, .slice Ap ru.apart.length cp, .slice Ak ru.kinds.length ck] ∧ Blk W g2 116 #[.slice Al ru.levels.length cl, .int .i64 ru.fade.lo, .int .i64 ru.fade.hi, .slice Aa ru.allow.length ca, .slice Ap ru.apart.length cp, .slice Ak ru.kinds.length ck] ∧ Blk W g3 150 (flC (fillF ru tanks x)).toArray ∧ Below w.heap.size w W) (fun x => tanks.length - x) 0 ⟨Nat.zero_le _, fun k hk => absurd hk (by omega), q1, q2, q3, hbw⟩ ⟨rfl, rfl, trivial⟩ ?_
    clear q1 q2 q3 hbw
    rintro i wx ⟨hi, hpre, q1, q2, q3, hbw⟩
    by_cases hlt : i < tanks.length
    ·
     have hi3 : i < 3 := by omega
     obtain ⟨bt, ot, et, _, htc⟩ := vals_cells ut i (by rw [ht.len]; exact hlt) wx B _ _ _ (ht.rd.below (hbw.mono hB))
     cases et
     refine EC.seq (EC.region ?_);refine EL.val (x_lss rfl rfl (decide_eq_true (show (((i : Nat) : Int) < ((tanks.length : Nat) : Int)) by omega))) rfl ?_
     refine EL.nil (EX.seq (EC.seq (EC.yes rfl (EC.skip (EX.seq (EC.seq (EC.block (EC.seq (EC.region ?_)))))))));refine EL.mv rfl rfl (EL.val (ix_96 rfl rfl hlt) rfl (EL.val (ld_29 rfl htc) rfl (EL.as rfl rfl (EL.as rfl rfl (EL.nil (EX.seq (EC.seq (EC.region (EL.mv rfl rfl ?_)))))))));refine EL.val (ld_28 rfl (q1.at (j := 0) rfl) (q1.at (j := 1) rfl) (q1.at (j := 2) rfl) (q1.at (j := 3) rfl) (q1.at (j := 4) rfl) (q1.at (j := 5) rfl)) rfl (EL.mv rfl rfl (EL.call (cA2 cF48 rfl rfl) rfl (after_any (hr.below (hbw.mono hB)) (Nat.le_trans hB hbw.size) hs ((ht.row i hlt).below (hbw.mono hB)) (htn i hlt)) ?_))
     rintro e w8 ⟨rfl, hc8⟩
     refine ⟨_, rfl, ?_⟩;replace q1 := q1.bl hc8;replace q2 := q2.bl hc8;replace q3 := q3.bl hc8;replace hbw := bo_ hbw hc8;clear hc8;refine EL.mv rfl rfl (EL.xt rfl rfl rfl (EL.xt rfl rfl rfl (EL.xt rfl rfl rfl (EL.val (ixa_150 rfl rfl hi3) rfl ?_))));refine EL.store (l' := tkC (tkE ru (tanks.getD i []))) rfl rfl q3 sz_120 rfl ((lenV_eq _).trans (tkC_8 (tkE_ok ru _).n8)) (by rw [lenV_eq, Nat.ble_eq, (fillF_ok ru tanks _).fl.len]; omega) (tkC_one _) ?_
     intro w9 hq9 hg9;rw [Nat.zero_add, tk_set (fillF_ok ru tanks _).fl hi3 (tkE_ok ru _).n8, fillF_set hi3] at hq9;replace q1 := q1.gr hg9 n1_3;replace q2 := q2.gr hg9 n2_3;replace hbw := below_store hbw hg9 bhbw_3;replace q3 := hq9;clear hg9 hq9;refine EL.as rfl rfl (EL.nil (EX.seq (EC.seq (EC.region (EL.mv rfl rfl ?_)))))
     by_cases hz : refE ru (tanks.getD i []) = 0
     ·
      refine EL.val (x_neq (r := false) rfl rfl (decide_eq_false (fun h => h hz))) rfl ?_
      refine EL.nil (EX.seq (EC.no rfl (EC.skip (EX.blk (EX.seq (EC.region ?_))))));refine EL.val (x_add rfl rfl (c := ((i + 1 : Nat) : Int)) ((IntWalk.i64_in _ ⟨by first | omega | (simp only; omega), by first | omega | (simp only; omega)⟩).trans (by first | omega | (simp only; omega)))) rfl ?_
      refine EL.mv rfl rfl (EL.nil ?_);refine EX.roundD (i + 1) ⟨rfl, agree_i hz rfl, trivial⟩ (by repeat first | with_reducible exact .refl _ | refine sp_ rfl ?_ | exact .refl _ | refine sd_ rfl ?_ | refine sn_ ?_) ⟨hlt, (fun k hk => by rcases Nat.lt_or_ge k i with h | h; exact hpre k h; rw [show k = i by omega]; exact hz), q1, q2, q3, hbw⟩ (by omega)
     ·
      refine EL.val (x_neq (r := true) rfl rfl (decide_eq_true hz)) rfl (EL.nil (EX.seq (EC.yes rfl (EC.seq ?_))));have lt_1 := q1.lt;have lt_2 := q2.lt;have lt_3 := q3.lt;refine EC.regionS [[], [], [], [0], [0, 1, 3], [0, 1, 2, 3, 4]] 5 [] [3, 4] (fun fl w_ => Touch w9 w_ [g2, g3] ∧ Blk w_ g2 116 #[.slice Al ru.levels.length cl, .int .i64 ru.fade.lo, .int .i64 ru.fade.hi, .slice Aa ru.allow.length ca, .slice Ap ru.apart.length cp, .slice Ak ru.kinds.length ck] ∧ Blk w_ g3 150 (flC (fillF ru tanks (i + 1))).toArray) (phiS (fun i_ r => match i_ with | 0 => r 0 = .agg #[.slice Al ru.levels.length cl, .int .i64 ru.fade.lo, .int .i64 ru.fade.hi, .slice Aa ru.allow.length ca, .slice Ap ru.apart.length cp, .slice Ak ru.kinds.length ck] | 1 => r 1 = .agg (flC (fillF ru tanks (i + 1))).toArray | 2 => r 2 = .int .i64 (refE ru (tanks.getD i [])) | _ => True) []) (by kernel_rfl) rfl rfl (by intro i hi; simp at hi; rcases hi with rfl | rfl <;> exact ⟨by simp, by omega⟩) ⟨fun _ _ => ⟨Touch.start _ _, q2, q3⟩, fun _ _ _ ⟨hT, h6, h7⟩ hb => ⟨hT.below hb, h6.below hb h6.lt, h7.below hb h7.lt⟩, fun _ _ h => h.1.size⟩ phiS_nil (fun i_ hi_ hs_ => ?_) (fun i_ hi_ => ?_) ?_
      ·match i_, hi_ with
       | 0, _ =>
        intro val fl w1 a hb ha hd hfl;obtain ⟨hT, h6, h7⟩ := hb;have ha := ha.s0 (d := 6) rfl
        exact ss_val ha rfl rfl (ld_116 rfl (h6.at (j := 0) rfl) (h6.at (j := 1) rfl) (h6.at (j := 2) rfl) (h6.at (j := 3) rfl) (h6.at (j := 4) rfl) (h6.at (j := 5) rfl)) rfl rfl
       | 1, _ =>
        intro val fl w1 a hb ha hd hfl;obtain ⟨hT, h6, h7⟩ := hb;have ha := ha.s0 (d := 7) rfl
        exact ss_val ha rfl rfl (x_loadA rfl (h7.range (PartAt.whole _)) Try.underlying150 rfl (sz_150.trans (congrArg some (fillF_ok ru tanks _).fl.len.symm))) rfl rfl
       | 2, _ =>
        intro val fl w1 a hb ha hd hfl;obtain ⟨hT, h6, h7⟩ := hb;have ha := ha.s0 (d := 8) rfl
        exact ss_val ha rfl rfl (x_move rfl) rfl rfl
       | 3, _ =>
        exact absurd (by simp) hs_
       | 4, _ =>
        exact absurd (by simp) hs_
       | k + 5, h => exact absurd h (by omega)
      ·simp only [List.mem_cons, List.not_mem_nil, or_false] at hi_; rcases hi_ with rfl | rfl
       ·
        intro val fl w1 a hb hfi ha hd hfl;obtain ⟨hT, h6, h7⟩ := hb;have e0 : val 0 = _ := hd 0 (memB_mem.1 rfl);have ha := ha.sub (Sub.ins (d := 52) (Sub.ins (d := 6) (Sub.nil _) rfl) (dep_get rfl e0));refine ts_store ha rfl rfl rfl h6 sz_116 rfl rfl rfl rfl ?_;intro w' hq hgr;refine ⟨undef, rfl, hgr.size, ⟨hT.grown hgr (by simp), hq, h7.grown hgr (fun h => n2_3.symm (Option.some.inj h))⟩, trivial, fun j _ hj hn hA => ?_⟩
        exact fun h => h
       ·
        intro val fl w1 a hb hfi ha hd hfl;obtain ⟨hT, h6, h7⟩ := hb;have e1 : val 1 = _ := hd 1 (memB_mem.1 rfl);have ha := ha.sub (Sub.ins (d := 53) (Sub.ins (d := 7) (Sub.nil _) rfl) (dep_get rfl e1));refine ts_store (l' := (flC (fillF ru tanks (i + 1)))) ha rfl rfl rfl h7 sz_150 rfl ((lenV_eq _).trans (fillF_ok ru tanks _).fl.len) (by rw [lenV_eq, Nat.ble_eq]; exact Nat.le_of_eq (fillF_ok ru tanks _).fl.len.symm) (flC_one _) ?_
        intro w' hq hgr;rw [spl_whole rfl] at hq;refine ⟨undef, rfl, hgr.size, ⟨hT.grown hgr (by simp), h6.grown hgr (fun h => n2_3 (Option.some.inj h)), hq⟩, trivial, fun j _ hj hn hA => ?_⟩
        exact fun h => h
      ·intro val fl wR13 hfl hb halc hd
       obtain ⟨hT, h6, h7⟩ := hb;have e0 : val 0 = _ := hd 0 (by omega)
       have e1 : val 1 = _ := hd 1 (by omega)
       have e2 : val 2 = _ := hd 2 (by omega)
       refine EL.ends (cs := [_, _, _, val 3, val 4]) ⟨e0, e1, e2, rfl, rfl, trivial⟩ rfl ?_;replace q1 := q1.touch hT (by simp only [List.mem_cons, List.not_mem_nil, or_false, not_or]; exact ⟨n1_2, n1_3⟩)
       replace q2 := h6;replace q3 := h7;replace hbw := hT.anchor hbw (by simp only [List.mem_cons, List.not_mem_nil, or_false, forall_eq_or_imp, forall_eq]; exact ⟨bhbw_2, bhbw_3⟩)
       refine EL.as rfl rfl (EL.nil (EX.seq (EC.ret (EX.blk_ret (EX.seq_ret (EX.seq_ret (EX.blk_ret (EX.seq_ret ?_))))))));have hye : yardE ru tanks jobs = refE ru (tanks.getD i []) := by unfold yardE; rw [hrb, if_pos rfl, if_neg h3, if_neg h0, tanksE_at hpre hlt hz, if_neg hz]
       exact EX.done (resc2t rfl rfl rfl rfl (lv_116 (q2.at (j := 0) rfl) (q2.at (j := 1) rfl) (q2.at (j := 2) rfl) (q2.at (j := 3) rfl) (q2.at (j := 4) rfl) (q2.at (j := 5) rfl)) (run_loadVar_mid _ _ 0 150 _ _ (q3.range (PartAt.whole _)) Try.underlying150 rfl (sz_150.trans (congrArg some (fillF_ok ru tanks _).fl.len.symm)))) ⟨⟨(fillF ru tanks (i + 1)), yard_e hye, (fillF_ok ru tanks _), fun h => absurd h (by rw [hye]; exact hz)⟩, hbw⟩
    ·
     obtain rfl : i = tanks.length := by omega
     refine EC.seq (EC.region ?_);refine EL.val (x_lss rfl rfl (decide_eq_false (show ¬(((tanks.length : Nat) : Int) < ((tanks.length : Nat) : Int)) by omega))) rfl ?_
     refine EL.nil (EX.seq (EC.seq (EC.no rfl (EC.exit (EX.seq_exit (EX.seq_exit (EX.blk_here (EX.seq (EC.seq ?_)))))))));have lt_1 := q1.lt;have lt_2 := q2.lt;have lt_3 := q3.lt;refine EC.regionS [[], [], [], [], [2, 3], [0, 2, 3, 4], [0, 1, 2, 3, 4, 5], [0, 1, 2, 3, 4, 5, 6]] 7 [] [5, 6] (fun fl w_ => Touch wx w_ [g2, g3] ∧ Blk w_ g2 116 #[.slice Al ru.levels.length cl, .int .i64 ru.fade.lo, .int .i64 ru.fade.hi, .slice Aa ru.allow.length ca, .slice Ap ru.apart.length cp, .slice Ak ru.kinds.length ck] ∧ Blk w_ g3 150 (flC (fillF ru tanks tanks.length)).toArray) (phiS (fun i_ r => match i_ with | 0 => r 0 = .agg #[.slice Al ru.levels.length cl, .int .i64 ru.fade.lo, .int .i64 ru.fade.hi, .slice Aa ru.allow.length ca, .slice Ap ru.apart.length cp, .slice Ak ru.kinds.length ck] | 1 => r 1 = .agg (flC (fillF ru tanks tanks.length)).toArray | 2 => r 2 = .agg #[.slice Al ru.levels.length cl, .int .i64 ru.fade.lo, .int .i64 ru.fade.hi, .slice Aa ru.allow.length ca, .slice Ap ru.apart.length cp, .slice Ak ru.kinds.length ck] | 3 => r 3 = .slice Aj jobs.length cj | 4 => r 4 = .int .i64 (jobsE ru jobs 6) | _ => True) []) (by kernel_rfl) rfl rfl (by intro i hi; simp at hi; rcases hi with rfl | rfl <;> exact ⟨by simp, by omega⟩) ⟨fun _ _ => ⟨Touch.start _ _, q2, q3⟩, fun _ _ _ ⟨hT, h6, h7⟩ hb => ⟨hT.below hb, h6.below hb h6.lt, h7.below hb h7.lt⟩, fun _ _ h => h.1.size⟩ phiS_nil (fun i_ hi_ hs_ => ?_) (fun i_ hi_ => ?_) ?_
     ·match i_, hi_ with
      | 0, _ =>
       intro val fl w1 a hb ha hd hfl;obtain ⟨hT, h6, h7⟩ := hb;have ha := ha.s0 (d := 6) rfl
       exact ss_val ha rfl rfl (ld_116 rfl (h6.at (j := 0) rfl) (h6.at (j := 1) rfl) (h6.at (j := 2) rfl) (h6.at (j := 3) rfl) (h6.at (j := 4) rfl) (h6.at (j := 5) rfl)) rfl rfl
      | 1, _ =>
       intro val fl w1 a hb ha hd hfl;obtain ⟨hT, h6, h7⟩ := hb;have ha := ha.s0 (d := 7) rfl
       exact ss_val ha rfl rfl (x_loadA rfl (h7.range (PartAt.whole _)) Try.underlying150 rfl (sz_150.trans (congrArg some (fillF_ok ru tanks _).fl.len.symm))) rfl rfl
      | 2, _ =>
       intro val fl w1 a hb ha hd hfl;obtain ⟨hT, h6, h7⟩ := hb;have ha := ha.s0 (d := 6) rfl
       exact ss_val ha rfl rfl (ld_116 rfl (h6.at (j := 0) rfl) (h6.at (j := 1) rfl) (h6.at (j := 2) rfl) (h6.at (j := 3) rfl) (h6.at (j := 4) rfl) (h6.at (j := 5) rfl)) rfl rfl
      | 3, _ =>
       intro val fl w1 a hb ha hd hfl;obtain ⟨hT, h6, h7⟩ := hb;have ha := ha.s0 (d := 2) rfl
       exact ss_val ha rfl rfl (x_move rfl) rfl rfl
      | 4, _ =>
       intro val fl w1 a hb ha hd hfl;obtain ⟨hT, h6, h7⟩ := hb;have e2 : val 2 = _ := hd 2 (memB_mem.1 rfl);have e3 : val 3 = _ := hd 3 (memB_mem.1 rfl);have ha := ha.s2 (d := 59) (e := 58) rfl e3 rfl e2;have hbw1 := hT.anchor hbw (by simp only [List.mem_cons, List.not_mem_nil, or_false, forall_eq_or_imp, forall_eq]; exact ⟨bhbw_2, bhbw_3⟩)
       refine ss_call ha rfl rfl (cA3 cF80 rfl rfl rfl) (checkJobs_any (hr.below (hbw1.mono hB)) hro (hv.below (hbw1.mono hB)) (Nat.le_trans hB hbw1.size) (most := 6) (by decide)) rfl ?_
       rintro e w' ⟨rfl, hb'⟩
       exact ⟨_, rfl, hb', rfl⟩
      | 5, _ =>
       exact absurd (by simp) hs_
      | 6, _ =>
       exact absurd (by simp) hs_
      | k + 7, h => exact absurd h (by omega)
     ·simp only [List.mem_cons, List.not_mem_nil, or_false] at hi_; rcases hi_ with rfl | rfl
      ·
       intro val fl w1 a hb hfi ha hd hfl;obtain ⟨hT, h6, h7⟩ := hb;have e0 : val 0 = _ := hd 0 (memB_mem.1 rfl);have ha := ha.sub (Sub.ins (d := 56) (Sub.ins (d := 6) (Sub.nil _) rfl) (dep_get rfl e0));refine ts_store ha rfl rfl rfl h6 sz_116 rfl rfl rfl rfl ?_;intro w' hq hgr;refine ⟨undef, rfl, hgr.size, ⟨hT.grown hgr (by simp), hq, h7.grown hgr (fun h => n2_3.symm (Option.some.inj h))⟩, trivial, fun j _ hj hn hA => ?_⟩
       exact fun h => h
      ·
       intro val fl w1 a hb hfi ha hd hfl;obtain ⟨hT, h6, h7⟩ := hb;have e1 : val 1 = _ := hd 1 (memB_mem.1 rfl);have ha := ha.sub (Sub.ins (d := 57) (Sub.ins (d := 7) (Sub.nil _) rfl) (dep_get rfl e1));refine ts_store (l' := (flC (fillF ru tanks tanks.length))) ha rfl rfl rfl h7 sz_150 rfl ((lenV_eq _).trans (fillF_ok ru tanks _).fl.len) (by rw [lenV_eq, Nat.ble_eq]; exact Nat.le_of_eq (fillF_ok ru tanks _).fl.len.symm) (flC_one _) ?_
       intro w' hq hgr;rw [spl_whole rfl] at hq;refine ⟨undef, rfl, hgr.size, ⟨hT.grown hgr (by simp), h6.grown hgr (fun h => n2_3 (Option.some.inj h)), hq⟩, trivial, fun j _ hj hn hA => ?_⟩
       exact fun h => h
     ·intro val fl wR15 hfl hb halc hd
      obtain ⟨hT, h6, h7⟩ := hb;have e0 : val 0 = _ := hd 0 (by omega)
      have e1 : val 1 = _ := hd 1 (by omega)
      have e2 : val 2 = _ := hd 2 (by omega)
      have e3 : val 3 = _ := hd 3 (by omega)
      have e4 : val 4 = _ := hd 4 (by omega)
      refine EL.ends (cs := [_, _, _, _, _, val 5, val 6]) ⟨e0, e1, e2, e3, e4, rfl, rfl, trivial⟩ rfl ?_;replace q1 := q1.touch hT (by simp only [List.mem_cons, List.not_mem_nil, or_false, not_or]; exact ⟨n1_2, n1_3⟩)
      replace q2 := h6;replace q3 := h7;replace hbw := hT.anchor hbw (by simp only [List.mem_cons, List.not_mem_nil, or_false, forall_eq_or_imp, forall_eq]; exact ⟨bhbw_2, bhbw_3⟩)
      refine EL.as rfl rfl (EL.nil (EX.seq (EC.ret ?_)));have hye : yardE ru tanks jobs = jobsE ru jobs 6 := by unfold yardE; rw [hrb, if_pos rfl, if_neg h3, if_neg h0, tanksE_none hpre, if_pos rfl]
      exact EX.done (resc2t rfl rfl rfl rfl (lv_116 (q2.at (j := 0) rfl) (q2.at (j := 1) rfl) (q2.at (j := 2) rfl) (q2.at (j := 3) rfl) (q2.at (j := 4) rfl) (q2.at (j := 5) rfl)) (run_loadVar_mid _ _ 0 150 _ _ (q3.range (PartAt.whole _)) Try.underlying150 rfl (sz_150.trans (congrArg some (fillF_ok ru tanks _).fl.len.symm)))) ⟨⟨(fillF ru tanks tanks.length), yard_e hye, (fillF_ok ru tanks _), fun _ => rfl⟩, hbw⟩
theorem yard_ok {ru : Rules} {tanks : List (List Ev)} {jobs : List Int} (h : yardE ru tanks jobs = 0) : RulesOk ru ∧ tanks.length ≤ 3 ∧ jobsE ru jobs 6 = 0 := by
 unfold yardE at h
 split at h
 ·rename_i hrb
  split at h
  ·omega
  ·rename_i h3
   split at h
   ·omega
   ·split at h
    ·exact ⟨rules_ok hrb, by omega, h⟩
    ·rename_i hz; exact absurd h hz
 ·omega
def depF (ru : Rules) (tanks : List (List Ev)) (jobs : List Int) : Nat := depthR (extY (yardOf ru tanks.length)) (jobs.map Int.toNat) (fillF ru tanks tanks.length, pl0)
def codeF (ru : Rules) (tanks : List (List Ev)) (jobs : List Int) : Int := if yardE ru tanks jobs = 0 then (if depF ru tanks jobs < jobs.length then 7 else 0) else yardE ru tanks jobs
def atF (ru : Rules) (tanks : List (List Ev)) (jobs : List Int) : Nat := if yardE ru tanks jobs = 0 then (if depF ru tanks jobs < jobs.length then depF ru tanks jobs else 0) else 0
theorem fleet_e {ru : Rules} {tanks : List (List Ev)} {jobs : List Int} {v : Value} {x c : Int} {a : Nat} (ha : atF ru tanks jobs = a) (hc : codeF ru tanks jobs = c) : Ending.returned (.tuple #[v, .int .i64 x, .int .i64 (a : Nat), .int .i64 c]) = .returned (.tuple #[v, .int .i64 x, .int .i64 ((atF ru tanks jobs) : Nat), .int .i64 (codeF ru tanks jobs)]) := by rw [hc, ha]
set_option maxHeartbeats 1000000 in
theorem Fleet_any {ru : Rules} {ua up : List Value} {vl va vp vk : Value} {w : World} {B : Nat} (hr : RdRules w B vl va vp vk ru ua up) (hB : B ≤ w.heap.size) (hs : Short ru) {tanks : List (List Ev)} {vt : Value} {ut : List Value} (ht : RdLL evC 2 w B vt tanks ut) (htn : ∀ i, i < tanks.length → (tanks.getD i []).length ≤ 1048576) (htl : tanks.length ≤ 9223372036854775807) {jobs : List Int} {vj : Value} (hv : Rd w B 1 vj jobs.length (ints jobs)) (hjn : jobs.length ≤ 9223372036854775807) :
  Calls Try.prog 38 #[rulesV vl va vp vk ru, vt, vj] w fun e w' => (∃ v' st c, e = .returned (.tuple #[v', .int .i64 c, .int .i64 ((atF ru tanks jobs) : Nat), .int .i64 (codeF ru tanks jobs)]) ∧ w'.ownsRow w.heap.size 70 2 v' st.length (stsC st) ∧
   (codeF ru tanks jobs = 0 → ∃ p, IsBest (compl (extY (yardOf ru tanks.length)) (jobs.map Int.toNat) (fillF ru tanks tanks.length, pl0)) p ∧ st = p.steps ∧ c = p.cost) ∧ (codeF ru tanks jobs ≠ 0 → st = [] ∧ c = 0)) ∧ Below w.heap.size w w' := by
 obtain ⟨Al, cl, Aa, ca, Ap, cp, Ak, ck, rfl, rfl, rfl, rfl⟩ := hr.sh4;obtain ⟨At, ct, rfl, _⟩ := ht.rd.shape;obtain ⟨Aj, cj, rfl, _⟩ := hv.shape;have hbw := Below.refl w.heap.size w
 unfold rulesV
 refine EC.enter 53 Try.func38 rfl rfl rfl (EC.seq (EC.region (EL.newP (bx_28 rfl) rfl ?_)));intro g1 w1 q1 hb1 hg1 hl1;have bhbw_1 := Nat.le_trans hbw.size hg1;replace hbw := bo_ hbw hb1;clear hb1 hg1 hl1;refine EL.as rfl rfl (EL.as rfl rfl (EL.as rfl rfl (EL.as rfl rfl (EL.nil (EX.seq (EC.seq (EC.region (EL.val (ld_28 rfl (q1.at (j := 0) rfl) (q1.at (j := 1) rfl) (q1.at (j := 2) rfl) (q1.at (j := 3) rfl) (q1.at (j := 4) rfl) (q1.at (j := 5) rfl)) rfl (EL.mv rfl rfl ?_)))))))));refine EL.mv rfl rfl (EL.call (cA3 cF68 rfl rfl rfl) rfl (yard_any (hr.below (hbw.mono hB)) (Nat.le_trans hB hbw.size) hs (ht.below (hbw.mono hB)) htn htl (hv.below (hbw.mono hB)) hjn) ?_)
 rintro e w2 ⟨⟨sf, rfl, hsf, hyf⟩, hc2⟩
 refine ⟨_, rfl, ?_⟩;replace q1 := q1.bl hc2;replace hbw := bo_ hbw hc2;clear hc2;refine EL.mv rfl rfl (EL.xt rfl rfl rfl (EL.xt rfl rfl rfl (EL.xt rfl rfl rfl (EL.newP al_116 rfl ?_))));intro g3 w3 q3 hb3 hg3 hl3;have n1_3 := q1.na hg3;have bhbw_3 := Nat.le_trans hbw.size hg3;replace q1 := q1.bl hb3;replace hbw := bo_ hbw hb3;clear hb3 hg3 hl3;refine EL.newP al_fleet rfl ?_;intro g4 w4 q4 hb4 hg4 hl4;have n1_4 := q1.na hg4;have n3_4 := q3.na hg4;have bhbw_4 := Nat.le_trans hbw.size hg4;replace q1 := q1.bl hb4;replace q3 := q3.bl hb4;replace hbw := bo_ hbw hb4;clear hb4 hg4 hl4;refine EL.store rfl rfl q3 sz_116 rfl rfl rfl rfl ?_;intro w5 hq5 hg5;replace q1 := q1.gr hg5 n1_3;replace q4 := q4.gr hg5 n3_4.symm;replace hbw := below_store hbw hg5 bhbw_3;replace q3 := hq5;clear hg5 hq5;refine EL.store (l' := (flC sf)) rfl rfl q4 sz_150 rfl ((lenV_eq _).trans hsf.fl.len) (by rw [lenV_eq, Nat.ble_eq]; exact Nat.le_of_eq (fl0_len.symm)) (flC_one _) ?_
 intro w6 hq6 hg6;rw [spl_whole (hsf.fl.len.trans fl0_len.symm)] at hq6;replace q1 := q1.gr hg6 n1_4;replace q3 := q3.gr hg6 n3_4;replace hbw := below_store hbw hg6 bhbw_4;replace q4 := hq6;clear hg6 hq6;refine EL.as rfl rfl (EL.nil (EX.seq (EC.seq (EC.seq (EC.region (EL.mv rfl rfl ?_))))))
 by_cases hc : yardE ru tanks jobs = 0
 ·
  refine EL.val (x_neq (r := false) rfl rfl (decide_eq_false (fun h => h hc))) rfl ?_
  refine EL.mv rfl rfl (EL.mg rfl rfl rfl rfl (EL.valg rfl rfl (ln_22 rfl) rfl ?_))
  by_cases he : jobs.length = 0
  ·
   refine EL.valg rfl rfl (x_eql (r := true) rfl rfl (decide_eq_true (by omega))) rfl ?_
   refine EL.pf rfl rfl rfl (EL.nil (EX.seq (EC.yes rfl (EC.seq (EC.region (EL.mv rfl rfl (EL.as rfl rfl (EL.as rfl rfl (EL.as rfl rfl ?_)))))))));refine EL.as rfl rfl (EL.nil (EX.seq (EC.ret (EX.seq_ret ?_))))
   exact EX.done (res4 rfl rfl rfl rfl rfl) ⟨⟨_, [], 0, fleet_e (a := 0) (c := yardE ru tanks jobs) (by unfold atF; rw [if_pos hc, if_neg (by omega)]) (by unfold codeF; rw [if_pos hc, if_neg (by omega), hc]), World.ownsRow_nil _ _ _ _, fun _ => ⟨pl0, by rw [List.eq_nil_of_length_eq_zero he]; exact best_nil, rfl, rfl⟩, fun h => absurd (by unfold codeF; rw [if_pos hc, if_neg (by omega)]) h⟩, hbw⟩
  ·
   refine EL.valg rfl rfl (x_eql (r := false) rfl rfl (decide_eq_false (by omega))) rfl ?_
   refine EL.pf rfl rfl rfl (EL.nil (EX.seq (EC.no rfl (EC.skip (EX.seq (EC.seq (EC.region (EL.val (ld_116 rfl (q3.at (j := 0) rfl) (q3.at (j := 1) rfl) (q3.at (j := 2) rfl) (q3.at (j := 3) rfl) (q3.at (j := 4) rfl) (q3.at (j := 5) rfl)) rfl (EL.val (x_loadA rfl (q4.range (PartAt.whole _)) Try.underlying150 rfl (sz_150.trans (congrArg some hsf.fl.len.symm))) rfl ?_)))))))));refine EL.mv rfl rfl (EL.val (ln_96 rfl) rfl (EL.mv rfl rfl ?_));obtain ⟨hro, ht3, hjz⟩ := yard_ok hc;obtain ⟨hj1, hj2, hj3⟩ := jobs_ok hjz;obtain rfl := hyf hc;refine EL.call (cA4 cF69 rfl rfl rfl rfl) rfl (plans_any (hr.below (hbw.mono hB)) (Nat.le_trans hB hbw.size) hro (fillF_ok ru tanks _) (many := tanks.length) ht3 (js := jobs.map Int.toNat) hj2 (by omega) (C := B) (by rw [List.length_map, hj1]; exact hv.below (hbw.mono hB)) (Nat.le_trans hB hbw.size)) ?_
   rintro e w7 ⟨⟨vp2, lp, rfl, hP, hbs⟩, hc7⟩
   refine ⟨_, rfl, ?_⟩;replace hP := hP.less hbw.size;replace q1 := q1.bl hc7;replace q3 := q3.bl hc7;replace q4 := q4.bl hc7;replace hbw := bo_ hbw hc7;clear hc7;obtain ⟨Aq, cq, rfl, _⟩ := hP.rd.shape;obtain ⟨hb1, hb2⟩ := hbs;rw [List.length_map] at hb1 hb2;have hl10 : lp.length ≤ jobs.length := by have := depth_le (ext := extY (yardOf ru tanks.length)) (jobs.map Int.toNat) (fillF ru tanks tanks.length, pl0); rw [List.length_map] at this; omega
   rw [List.length_map] at hj3;refine EL.as rfl rfl (EL.nil (EX.seq (EC.seq (EC.seq (EC.region (EL.mv rfl rfl (EL.val (ln_130 rfl) rfl (EL.mv rfl rfl (EL.val (ln_22 rfl) rfl ?_)))))))))
   by_cases hlt : lp.length < jobs.length
   ·
    refine EL.val (x_lss (r := true) rfl rfl (decide_eq_true (by omega))) rfl ?_
    refine EL.nil (EX.seq (EC.yes rfl (EC.seq (EC.region (EL.mv rfl rfl (EL.val (ln_130 rfl) rfl (EL.as rfl rfl (EL.as rfl rfl (EL.as rfl rfl ?_)))))))));refine EL.as rfl rfl (EL.nil (EX.seq (EC.ret (EX.seq_ret ?_))));have hcd : codeF ru tanks jobs = 7 := by unfold codeF depF; rw [if_pos hc, ← hb1, if_pos hlt]
    have hat : atF ru tanks jobs = lp.length := by unfold atF depF; rw [if_pos hc, ← hb1, if_pos hlt]
    exact EX.done (res4 rfl rfl rfl rfl rfl) ⟨⟨_, [], 0, fleet_e hat hcd, World.ownsRow_nil _ _ _ _, fun h => absurd h (by rw [hcd]; decide), fun _ => ⟨rfl, rfl⟩⟩, hbw⟩
   ·
    refine EL.val (x_lss (r := false) rfl rfl (decide_eq_false (by omega))) rfl ?_
    refine EL.nil (EX.seq (EC.no rfl (EC.skip (EX.seq (EC.seq (EC.region ?_))))));obtain ⟨nn, hnn⟩ : ∃ nn, lp.length = nn + 1 := ⟨lp.length - 1, by omega⟩
    have hlast := hb2 nn (by omega)
    rw [map_getD (d := pr0) (show nn < lp.length by omega), List.take_of_length_le (by rw [List.length_map]; omega)] at hlast
    have hmem : lp.getD nn pr0 ∈ lp := by rw [getD_in (show nn < lp.length by omega)]; exact List.getElem_mem _
    obtain ⟨⟨pb, Ab, cb⟩, epb⟩ : ∃ z, z = lp.getD nn pr0 := ⟨_, rfl⟩;rw [← epb] at hlast hmem
    dsimp only at hlast
    refine EL.mv rfl rfl (EL.mv rfl rfl (EL.val (ln_130 rfl) rfl ?_));refine EL.val (x_sub rfl rfl (c := ((nn : Nat) : Int)) ((IntWalk.i64_in _ ⟨by omega, by omega⟩).trans (by omega))) rfl ?_
    obtain ⟨bp, op, ep, _, c0, c1, c2⟩ := pls_cells lp nn (by omega) w7 w7.heap.size _ _ _ hP.rd
    rw [← epb] at c0 c1 c2
    dsimp only at c0 c1 c2
    cases ep
    have hst := hP.rows _ hmem
    dsimp only at hst
    refine EL.val (ix_130 rfl rfl (show nn < lp.length by omega)) rfl ?_
    refine EL.val (ld_134 rfl c0 c1 c2) rfl (EL.newP al_134 rfl ?_);intro g8 w8 q8 hb8 hg8 hl8;have n1_8 := q1.na hg8;have n3_8 := q3.na hg8;have n4_8 := q4.na hg8;have bhbw_8 := Nat.le_trans hbw.size hg8;replace q1 := q1.bl hb8;replace q3 := q3.bl hb8;replace q4 := q4.bl hb8;replace hst := own_below hst hb8 (Nat.le_refl _);replace hbw := bo_ hbw hb8;clear hb8 hg8 hl8;refine EL.store rfl rfl q8 sz_134 rfl rfl rfl rfl ?_;intro w9 hq9 hg9;replace q1 := q1.gr hg9 n1_8;replace q3 := q3.gr hg9 n3_8;replace q4 := q4.gr hg9 n4_8;replace hst := own_type hst q8 rfl hg9;replace hbw := below_store hbw hg9 bhbw_8;replace q8 := hq9;clear hg9 hq9;refine EL.nil (EX.seq (EC.seq ?_));have lt_1 := q1.lt;have lt_3 := q3.lt;have lt_4 := q4.lt;have lt_8 := q8.lt;refine EC.regionP [[], [0], [], [2], [0, 1], [0, 1, 2, 3, 4], [0, 1, 2, 3, 4, 5], [0, 1, 2, 3, 4, 5, 6]] 5 [] (phi (fun i_ r => match i_ with | 0 => r 0 = .pointer (some ⟨g8, 0, none⟩) | 1 => r 1 = .slice Ab pb.steps.length cb | 2 => r 2 = .pointer (some ⟨g8, 2, none⟩) | 3 => r 3 = .int .i64 pb.cost | 4 => r 4 = .slice Ab pb.steps.length cb | _ => True) []) (by kernel_rfl) rfl rfl (phi_nil) (fun i_ hi_ => ?_) ?_
    ·match i_, hi_ with
     | 0, _ =>
      intro val w1 a hb ha hd;have ha := ha.s0 (d := 13) rfl
      exact hs_val ha rfl rfl (fa_134_0 rfl) rfl rfl
     | 1, _ =>
      intro val w1 a hb ha hd;have e0 : val 0 = _ := hd 0 (memB_mem.1 rfl);have ha := ha.s1 (d := 49) rfl e0
      exact hs_val ha rfl rfl (ld_65 rfl ((q8.below hb q8.lt).at (j := 0) rfl)) rfl rfl
     | 2, _ =>
      intro val w1 a hb ha hd;have ha := ha.s0 (d := 13) rfl
      exact hs_val ha rfl rfl (fa_134_2 rfl) rfl rfl
     | 3, _ =>
      intro val w1 a hb ha hd;have e2 : val 2 = _ := hd 2 (memB_mem.1 rfl);have ha := ha.s1 (d := 51) rfl e2
      exact hs_val ha rfl rfl (ld_3 rfl ((q8.below hb q8.lt).at (j := 2) rfl)) rfl rfl
     | 4, _ =>
      intro val w1 a hb ha hd;have e1 : val 1 = _ := hd 1 (memB_mem.1 rfl);have ha := ha.s1 (d := 50) rfl e1
      exact hs_val ha rfl rfl (x_assign rfl) rfl rfl
     | k + 5, h => exact absurd h (by omega)
    ·intro val wR8 hb halc hd
     have e0 : val 0 = _ := hd 0 (by omega)
     have e1 : val 1 = _ := hd 1 (by omega)
     have e2 : val 2 = _ := hd 2 (by omega)
     have e3 : val 3 = _ := hd 3 (by omega)
     have e4 : val 4 = _ := hd 4 (by omega)
     refine EL.ends (cs := [_, _, _, _, _]) ⟨e0, e1, e2, e3, e4, trivial⟩ rfl ?_;replace q1 := q1.bl hb;replace q3 := q3.bl hb;replace q4 := q4.bl hb;replace q8 := q8.bl hb;replace hst := own_below hst hb (Nat.le_refl _);replace hbw := bo_ hbw hb;clear hb;refine EL.as rfl rfl (EL.as rfl rfl (EL.as rfl rfl (EL.nil (EX.seq (EC.ret ?_)))));have hcd : codeF ru tanks jobs = 0 := by unfold codeF depF; rw [if_pos hc, ← hb1, if_neg hlt]
     have hat : atF ru tanks jobs = 0 := by unfold atF depF; rw [if_pos hc, ← hb1, if_neg hlt]
     exact EX.done (res4 rfl rfl rfl rfl rfl) ⟨⟨_, pb.steps, pb.cost, fleet_e hat hcd, hst, fun _ => ⟨pb, hlast, rfl, rfl⟩, fun h => absurd hcd h⟩, hbw⟩
 ·
  refine EL.val (x_neq (r := true) rfl rfl (decide_eq_true hc)) rfl (EL.mv rfl rfl (EL.skip rfl rfl rfl rfl (EL.skip rfl rfl rfl rfl (EL.skip rfl rfl rfl rfl (EL.pt rfl rfl rfl (EL.nil (EX.seq (EC.yes rfl (EC.seq ?_)))))))));refine EC.region (EL.mv rfl rfl (EL.as rfl rfl (EL.as rfl rfl (EL.as rfl rfl (EL.as rfl rfl (EL.nil (EX.seq (EC.ret (EX.seq_ret ?_)))))))))
  exact EX.done (res4 rfl rfl rfl rfl rfl) ⟨⟨_, [], 0, fleet_e (by unfold atF; rw [if_neg hc]) (by unfold codeF; rw [if_neg hc]), World.ownsRow_nil _ _ _ _, fun h => absurd h (by unfold codeF; rw [if_neg hc]; exact hc), fun _ => ⟨rfl, rfl⟩⟩, hbw⟩
section
variable {n : Nat} {σ : Sg} {w : World} {dst : Option Tmp} {ty : TypeId} {pos : String} {af : Array Edge} {g : Option (Nat × Bool)} {x y z : Operand} {at' : Array TypeId}
theorem sz_22 : (Try.prog.info? 22).map (·.size) = some 1 := by kernel_rfl
theorem ix_60 {b o m c k : Nat} (hx : evS σ x = some (.slice (some ⟨b, o, none⟩) m c)) (hy : evS σ y = some (.int .i64 (k : Int))) (hk : k < m) : Gives Try.prog n σ w ⟨dst, .indexAddr 60 x y, ty, pos, af, g⟩ (.pointer (some ⟨b, o + k * 2, none⟩)) := fun a ha => by
 have k0 : (0 : Int) ≤ (k : Int) := Int.natCast_nonneg _;have k1 : (k : Int) < (m : Int) := by omega
 simp only [execOp, ha.eval hx, ha.eval hy]
 simp [go_sem, k0, k1]
theorem ln_60 {A : Option Addr} {m c : Nat} (hx : evS σ x = some (.slice A m c)) : Gives Try.prog n σ w ⟨dst, .call { callee := .builtin .len, args := #[x], argTypes := #[60] }, ty, pos, af, g⟩ (.int .i64 (m : Int)) := fun a ha => by
 simp only [execOp, resolve, List.map_toArray, List.map_cons, List.map_nil, ha.eval hx]
 simp [go_sem]
end
theorem bds_cells (l : List Bd) (k : Nat) (hk : k < l.length) (w : World) (B : Nat) (A : Option Addr) (n c : Nat) (hr : Rd w B 2 (.slice A n c) n (bdsC l)) :
  ∃ b off, A = some ⟨b, off, none⟩ ∧ b < B ∧ w.cell? ⟨b, off + k * 2, none⟩ = some (.int .i64 (l.getD k bd0).lo) ∧ w.cell? ⟨b, off + k * 2 + 1, none⟩ = some (.int .i64 (l.getD k bd0).hi) := by
 have hl : n * 2 = l.length * 2 := by rw [← hr.len, bdsC_len]
 obtain ⟨b, off, rfl, hb, hc⟩ := hr.at_ (by omega)
 have e : l.getD k bd0 = l[k] := by simp [hk]
 rw [e];have g := fun j hj => flat_get bdC_len l k hk j hj
 exact ⟨b, off, rfl, hb, hc (k * 2) _ (g 0 (by omega)), hc (k * 2 + 1) _ (g 1 (by omega))⟩
theorem own_bx {w w' : World} {base e size n g : Nat} {v : Value} {xs : List Value} (h : w.ownsRow base e size v n xs) (hn : ∀ k, v.ownBlock = some k → k ≠ g) (hg : w.grownBy w' (some g)) : w'.ownsRow base e size v n xs :=
 h.kept hg (by
  cases e0 : v.ownBlock with
  | none => exact .inl rfl
  | some k => exact .inr fun e1 => hn k e0 (Option.some.inj e1))
/-- a tank of the document, within its bounds -/
structure RtOk (n k : Nat) (t : RT) : Prop where
 rl : t.res.length = n
 al : t.aft.length = n
 bd : ∀ i, (0 ≤ (t.res.getD i bd0).lo ∧ (t.res.getD i bd0).lo ≤ 1000000) ∧ 0 ≤ (t.res.getD i bd0).hi ∧ (t.res.getD i bd0).hi ≤ 1000000
 af : ∀ i, -1 ≤ t.aft.getD i 0 ∧ t.aft.getD i 0 ≤ k
section
variable {n : Nat} {σ : Sg} {w : World} {dst : Option Tmp} {ty : TypeId} {pos : String} {af : Array Edge} {g : Option (Nat × Bool)} {x y z : Operand} {at' : Array TypeId}
theorem bs_22_0 (a : Act) (_ : Env n σ a) : (execOp a.eval ⟨dst, .buildSlice 22 0 #[], ty, pos, af, g⟩).run Try.prog w = .ok (.value (.slice (some ⟨w.heap.size, 0, none⟩) 0 0)) (w.alloc (.cells #[] 3)) := by
 simp only [execOp]
 go_simp
theorem bs_29_0 (a : Act) (_ : Env n σ a) : (execOp a.eval ⟨dst, .buildSlice 29 0 #[], ty, pos, af, g⟩).run Try.prog w = .ok (.value (.slice (some ⟨w.heap.size, 0, none⟩) 0 0)) (w.alloc (.cells #[] 50)) := by
 simp only [execOp]
 go_simp
theorem cF23 : cF 23 := fun _ _ => by simp [go_sem]
theorem bd_50_0_1 {x0 x1 : Operand} {z0 : Int} {z1 : Int} (h0 : evS σ x0 = some (.int .i64 z0)) (h1 : evS σ x1 = some (.int .i64 z1)) : Gives Try.prog n σ w ⟨dst, .build 50 #[(0, x0), (1, x1)], ty, pos, af, g⟩ (.agg #[.int .i64 z0, .int .i64 z1]) := fun a ha => by
 simp only [execOp, List.map_toArray, List.map_cons, List.map_nil, ha.eval h0, ha.eval h1]
 go_simp
theorem lv_50 {b o : Nat} {v0 v1 : Value} (c0 : w.cell? ⟨b, o, none⟩ = some v0) (c1 : w.cell? ⟨b, o + 1, none⟩ = some v1) : (loadVar 50 ⟨b, o, none⟩).run Try.prog w = .ok (.agg #[v0, v1]) w := by
 simp [go_sem, loadVar, c0, c1]
end
theorem ev_info : (Try.prog.info? 50).map (fun i => (i.zero, i.size, i.bytes)) = some (some (.agg #[.int .i64 0, .int .i64 0]), 2, 16) := by kernel_rfl
theorem ev_elem : Elem Try.prog 29 50 2 16 := Elem.mk' Try.underlying29 ev_info rfl (by omega)
theorem numbers_any {l : List Int} {v : Value} {w : World} {B : Nat} (hl : Rd w B 1 v l.length (ints l)) (hB : B ≤ w.heap.size) (hn : l.length ≤ 1048576) :
  Calls Try.prog 23 #[v] w fun e w' => (∃ v', e = .returned v' ∧ w'.ownsRow w.heap.size 3 1 v' l.length (ints l)) ∧ Below w.heap.size w w' := by
 obtain ⟨Ai, ci_, rfl, _⟩ := hl.shape;have hbw := Below.refl w.heap.size w;refine EC.enter 6 Try.func23 rfl rfl rfl (EC.seq (EC.region (EL.as rfl rfl (EL.nil (EX.seq (EC.seq (EC.region (EL.newS (bs_22_0) rfl ?_))))))));intro g1 w1 q1 hb1 hg1 hl1;have bhbw_1 := Nat.le_trans hbw.size hg1;have hbg1 : w.heap.size ≤ g1 := Nat.le_trans hbw.size hg1;replace hbw := bo_ hbw hb1;clear hb1 hg1 hl1;have hemp : w1.ownsRow w.heap.size 3 1 (.slice (some ⟨g1, 0, none⟩) 0 0) 0 [] := own_empty 1 q1 hbg1;refine EL.mv rfl rfl ?_;refine EL.push ir_elem rfl rfl hemp (hl.below (hbw.mono hB)) (ints_one l) (by omega) rfl hbw.size rfl ?_
 intro v2 w9 ho2 hg hb2 _;replace hbw := hbw.trans hb2;rw [Nat.zero_add, List.nil_append] at ho2;refine EL.as rfl rfl (EL.nil (EX.seq (EC.ret ?_)))
 exact EX.done (res1 rfl rfl) ⟨⟨_, rfl, ho2⟩, hbw⟩
theorem events_any {l : List Ev} {v : Value} {w : World} {B : Nat} (hl : Rd w B 2 v l.length (evsC l)) (hB : B ≤ w.heap.size) (hn : l.length ≤ 1048576) :
  Calls Try.prog 15 #[v] w fun e w' => (∃ v', e = .returned v' ∧ w'.ownsRow w.heap.size 50 2 v' l.length (evsC l)) ∧ Below w.heap.size w w' := by
 obtain ⟨Ai, ci_, rfl, _⟩ := hl.shape;have hbw := Below.refl w.heap.size w;refine EC.enter 6 Try.func15 rfl rfl rfl (EC.seq (EC.region (EL.as rfl rfl (EL.nil (EX.seq (EC.seq (EC.region (EL.newS (bs_29_0) rfl ?_))))))));intro g1 w1 q1 hb1 hg1 hl1;have bhbw_1 := Nat.le_trans hbw.size hg1;have hbg1 : w.heap.size ≤ g1 := Nat.le_trans hbw.size hg1;replace hbw := bo_ hbw hb1;clear hb1 hg1 hl1;have hemp : w1.ownsRow w.heap.size 50 2 (.slice (some ⟨g1, 0, none⟩) 0 0) 0 [] := own_empty 2 q1 hbg1;refine EL.mv rfl rfl ?_;refine EL.push ev_elem rfl rfl hemp (hl.below (hbw.mono hB)) (evsC_one l) (by omega) rfl hbw.size rfl ?_
 intro v2 w9 ho2 hg hb2 _;replace hbw := hbw.trans hb2;rw [Nat.zero_add, List.nil_append] at ho2;refine EL.as rfl rfl (EL.nil (EX.seq (EC.ret ?_)))
 exact EX.done (res1 rfl rfl) ⟨⟨_, rfl, ho2⟩, hbw⟩
theorem lload_any (n : Int) (w : World) : Calls Try.prog 46 #[.int .i64 n] w fun e w' => e = .returned (.agg #[.int .i64 1, .int .i64 n]) ∧ Below w.heap.size w w' := by
 have hbw := Below.refl w.heap.size w;refine EC.enter 5 Try.func46 rfl rfl rfl (EC.seq (EC.region (EL.newP al_50 rfl ?_)));intro g1 w1 q1 hb1 hg1 hl1;have bhbw_1 := Nat.le_trans hbw.size hg1;replace hbw := bo_ hbw hb1;clear hb1 hg1 hl1;refine EL.nil (EX.seq (EC.seq (EC.region (EL.mv rfl rfl (EL.val (bd_50_0_1 rfl rfl) rfl (EL.store rfl rfl q1 sz_50 rfl rfl rfl rfl ?_))))));intro w2 hq2 hg2;replace hbw := below_store hbw hg2 bhbw_1;replace q1 := hq2;clear hg2 hq2;refine EL.nil (EX.seq (EC.ret ?_))
 exact EX.done (resc1 rfl rfl (lv_50 (q1.at (j := 0) rfl) (q1.at (j := 1) rfl))) ⟨rfl, hbw⟩
theorem lclean_any (n : Int) (w : World) : Calls Try.prog 45 #[.int .i64 n] w fun e w' => e = .returned (.agg #[.int .i64 2, .int .i64 n]) ∧ Below w.heap.size w w' := by
 have hbw := Below.refl w.heap.size w;refine EC.enter 5 Try.func45 rfl rfl rfl (EC.seq (EC.region (EL.newP al_50 rfl ?_)));intro g1 w1 q1 hb1 hg1 hl1;have bhbw_1 := Nat.le_trans hbw.size hg1;replace hbw := bo_ hbw hb1;clear hb1 hg1 hl1;refine EL.nil (EX.seq (EC.seq (EC.region (EL.mv rfl rfl (EL.val (bd_50_0_1 rfl rfl) rfl (EL.store rfl rfl q1 sz_50 rfl rfl rfl rfl ?_))))));intro w2 hq2 hg2;replace hbw := below_store hbw hg2 bhbw_1;replace q1 := hq2;clear hg2 hq2;refine EL.nil (EX.seq (EC.ret ?_))
 exact EX.done (resc1 rfl rfl (lv_50 (q1.at (j := 0) rfl) (q1.at (j := 1) rfl))) ⟨rfl, hbw⟩
section
variable {n : Nat} {σ : Sg} {w : World} {dst : Option Tmp} {ty : TypeId} {pos : String} {af : Array Edge} {g : Option (Nat × Bool)} {x y z : Operand} {at' : Array TypeId}
theorem al_28 (a : Act) (_ : Env n σ a) : (execOp a.eval ⟨dst, .alloc 28, ty, pos, af, g⟩).run Try.prog w = .ok (.value (.pointer (some ⟨w.heap.size, 0, none⟩))) (w.alloc (.cells #[.slice none 0 0, .int .i64 0, .int .i64 0, .slice none 0 0, .slice none 0 0, .slice none 0 0] 28)) := by
 simp only [execOp]
 simp [go_sem]
theorem sz_26 : (Try.prog.info? 26).map (·.size) = some 1 := by kernel_rfl
theorem sz_28 : (Try.prog.info? 28).map (·.size) = some 6 := by kernel_rfl
theorem lv_28 {b o : Nat} {v0 v1 v2 v3 v4 v5 : Value} (c0 : w.cell? ⟨b, o, none⟩ = some v0) (c1 : w.cell? ⟨b, o + 1, none⟩ = some v1) (c2 : w.cell? ⟨b, o + 2, none⟩ = some v2) (c3 : w.cell? ⟨b, o + 3, none⟩ = some v3) (c4 : w.cell? ⟨b, o + 4, none⟩ = some v4) (c5 : w.cell? ⟨b, o + 5, none⟩ = some v5) : (loadVar 28 ⟨b, o, none⟩).run Try.prog w = .ok (.agg #[v0, v1, v2, v3, v4, v5]) w := by
 simp [go_sem, loadVar, c0, c1, c2, c3, c4, c5]
end
/-- rules and a history that the statements look at -/
structure Wee (ru : Rules) (l : List Ev) : Prop where
 n : ru.levels.length ≤ 12
 a : ru.allow.length ≤ 12
 p : ru.apart.length ≤ 12
 k : ru.kinds.length ≤ 8
 l : l.length ≤ 120
 ra : ∀ j, j < ru.allow.length → (ru.allow.getD j []).length ≤ 12
 rp : ∀ j, j < ru.apart.length → (ru.apart.getD j []).length ≤ 12
theorem kd_info : (Try.prog.info? 52).map (fun i => (i.zero, i.size, i.bytes)) = some (some (.agg #[.int .i64 0, .int .i64 0, .int .i64 0, .int .i64 0, .int .i64 0]), 5, 40) := by kernel_rfl
theorem kd_elem : Elem Try.prog 26 52 5 40 := Elem.mk' Try.underlying26 kd_info rfl (by omega)
def three : Rules := ⟨[100, 60, 40], ⟨10, 20⟩, [[100, 0, 30], [60, 60, 0], [40, 40, 40]], [[0, 1, 0], [0, 0, 0], [0, 0, 0]], [⟨⟨30, 40⟩, 60, 5, 20000⟩, ⟨⟨100, 120⟩, 240, 20, 90000⟩]⟩
def lK : List Ev := [⟨1, 0⟩, ⟨2, 0⟩, ⟨1, 2⟩, ⟨2, 1⟩]
def tK : List (List Ev) := [[⟨1, 0⟩], [⟨1, 1⟩]]
theorem three_ref : refE three lK = 0 := by kernel_rfl
theorem three_ref3 : refE three (lK.take 3) = 0 := by kernel_rfl
theorem three_short : Short three := ⟨by decide, by decide, by decide, by decide⟩
theorem three_res : resE three (lK.take 3) = [⟨40, 60⟩, ⟨0, 0⟩, ⟨40, 40⟩] := by kernel_rfl
theorem three_aud : audE three lK = [⟨2, 0, true⟩] := by kernel_rfl
theorem three_slop : (slopE three lK).length = 2 ∧ ((slopE three lK).getD 1 []) = [0, 2] := ⟨by kernel_rfl, by kernel_rfl⟩
theorem three_bill : billE three lK = .tuple #[.int .i64 300, .int .i64 25, .int .i64 110000, .int .i64 0] := by kernel_rfl
/-- the best, found by looking -/
def bestB (L : List Sx) (p : Pl) : Bool := L.any (fun x => decide (cmpP x.2 p = 0)) && L.all (fun x => decide (cmpP p x.2 ≤ 0))
theorem best_of {L : List Sx} {p : Pl} (h : bestB L p = true) : IsBest L p := by
 unfold bestB at h
 rw [Bool.and_eq_true, List.any_eq_true, List.all_eq_true] at h;obtain ⟨⟨x, hx, h1⟩, h2⟩ := h;have e := cmp_pl.eq _ _ (of_decide_eq_true h1)
 exact ⟨⟨x.1, by rw [← e]; exact hx⟩, fun y hy => of_decide_eq_true (h2 y hy)⟩
def pK : Pl := ⟨[⟨0, 1⟩, ⟨0, -1⟩], 1, 90000⟩
theorem three_code : codeS three (lK.take 1) [2, 1] = 0 := by kernel_rfl
theorem three_code1 : codeS three (lK.take 1) [1] = 7 := by kernel_rfl
theorem three_at1 : atS three (lK.take 1) [1] = 0 := by kernel_rfl
theorem three_plan : IsBest (compl (extY (yardOf three 1)) (([2, 1] : List Int).map Int.toNat) ([tkE three (lK.take 1), tank0, tank0], pl0)) pK := best_of (by kernel_rfl)
theorem three_codeF : codeF three tK [2, 1] = 0 := by kernel_rfl
theorem three_fleet : IsBest (compl (extY (yardOf three tK.length)) (([2, 1] : List Int).map Int.toNat) (fillF three tK tK.length, pl0)) pK := best_of (by kernel_rfl)
section
variable {n : Nat} {σ : Sg} {w : World} {dst : Option Tmp} {ty : TypeId} {pos : String} {af : Array Edge} {g : Option (Nat × Bool)} {x y z : Operand} {at' : Array TypeId}
theorem bs_25_3 {x0 x1 x2 : Operand} {A0 A1 A2 : Option Addr} {m0 c0 m1 c1 m2 c2 : Nat} (h0 : evS σ x0 = some (.slice A0 m0 c0)) (h1 : evS σ x1 = some (.slice A1 m1 c1)) (h2 : evS σ x2 = some (.slice A2 m2 c2)) (a : Act) (ha : Env n σ a) : (execOp a.eval ⟨dst, .buildSlice 25 3 #[(0, x0), (1, x1), (2, x2)], ty, pos, af, g⟩).run Try.prog w = .ok (.value (.slice (some ⟨w.heap.size, 0, none⟩) 3 3)) (w.alloc (.cells #[.slice A0 m0 c0, .slice A1 m1 c1, .slice A2 m2 c2] 22)) := by
 simp only [execOp, List.map_toArray, List.map_cons, List.map_nil, ha.eval h0, ha.eval h1, ha.eval h2]
 go_simp
theorem bd_52_0_1_2_3 {x0 x1 x2 x3 : Operand} {v0_0 : Value} {v0_1 : Value} {z1 : Int} {z2 : Int} {z3 : Int} (h0 : evS σ x0 = some (.agg #[v0_0, v0_1])) (h1 : evS σ x1 = some (.int .i64 z1)) (h2 : evS σ x2 = some (.int .i64 z2)) (h3 : evS σ x3 = some (.int .i64 z3)) : Gives Try.prog n σ w ⟨dst, .build 52 #[(0, x0), (1, x1), (2, x2), (3, x3)], ty, pos, af, g⟩ (.agg #[v0_0, v0_1, .int .i64 z1, .int .i64 z2, .int .i64 z3]) := fun a ha => by
 simp only [execOp, List.map_toArray, List.map_cons, List.map_nil, ha.eval h0, ha.eval h1, ha.eval h2, ha.eval h3]
 go_simp
theorem bs_26_2 {x0 x1 : Operand} {v0_0 v0_1 v0_2 v0_3 v0_4 v1_0 v1_1 v1_2 v1_3 v1_4 : Value} (h0 : evS σ x0 = some (.agg #[v0_0, v0_1, v0_2, v0_3, v0_4])) (h1 : evS σ x1 = some (.agg #[v1_0, v1_1, v1_2, v1_3, v1_4]))  (a : Act) (ha : Env n σ a) : (execOp a.eval ⟨dst, .buildSlice 26 2 #[(0, x0), (1, x1)], ty, pos, af, g⟩).run Try.prog w = .ok (.value (.slice (some ⟨w.heap.size, 0, none⟩) 2 2)) (w.alloc (.cells #[v0_0, v0_1, v0_2, v0_3, v0_4, v1_0, v1_1, v1_2, v1_3, v1_4] 52)) := by
 simp only [execOp, List.map_toArray, List.map_cons, List.map_nil, ha.eval h0, ha.eval h1]
 go_simp
theorem bd_28_0_1_2_3_4 {x0 x1 x2 x3 x4 : Operand} {A0 : Option Addr} {m0 : Nat} {c0 : Nat} {v1_0 : Value} {v1_1 : Value} {A2 : Option Addr} {m2 : Nat} {c2 : Nat} {A3 : Option Addr} {m3 : Nat} {c3 : Nat} {A4 : Option Addr} {m4 : Nat} {c4 : Nat} (h0 : evS σ x0 = some (.slice A0 m0 c0)) (h1 : evS σ x1 = some (.agg #[v1_0, v1_1])) (h2 : evS σ x2 = some (.slice A2 m2 c2)) (h3 : evS σ x3 = some (.slice A3 m3 c3)) (h4 : evS σ x4 = some (.slice A4 m4 c4)) : Gives Try.prog n σ w ⟨dst, .build 28 #[(0, x0), (1, x1), (2, x2), (3, x3), (4, x4)], ty, pos, af, g⟩ (.agg #[.slice A0 m0 c0, v1_0, v1_1, .slice A2 m2 c2, .slice A3 m3 c3, .slice A4 m4 c4]) := fun a ha => by
 simp only [execOp, List.map_toArray, List.map_cons, List.map_nil, ha.eval h0, ha.eval h1, ha.eval h2, ha.eval h3, ha.eval h4]
 go_simp
end
set_option maxHeartbeats 1000000 in
theorem three_any (w : World) :
  Calls Try.prog 47 #[] w fun e w' => (∃ vl va vp vk ua up, e = .returned (rulesV vl va vp vk three) ∧ RdRules w' w'.heap.size vl va vp vk three ua up) ∧ Below w.heap.size w w' := by
 have hbw := Below.refl w.heap.size w;refine EC.enter 17 Try.func47 rfl rfl rfl (EC.seq (EC.region (EL.newP al_28 rfl ?_)));intro g1 w1 q1 hb1 hg1 hl1;have bhbw_1 := Nat.le_trans hbw.size hg1;replace hbw := bo_ hbw hb1;clear hb1 hg1 hl1;refine EL.nil (EX.seq (EC.seq (EC.region (EL.newS (bs_22_3 rfl rfl rfl) rfl ?_))));intro g2 w2 q2 hb2 hg2 hl2;have n1_2 := q1.na hg2;have bhbw_2 := Nat.le_trans hbw.size hg2;replace q1 := q1.bl hb2;replace hbw := bo_ hbw hb2;clear hb2 hg2 hl2;refine EL.val (bd_24_0_1 rfl rfl) rfl (EL.newS (bs_22_3 rfl rfl rfl) rfl ?_);intro g3 w3 q3 hb3 hg3 hl3;have n1_3 := q1.na hg3;have n2_3 := q2.na hg3;have bhbw_3 := Nat.le_trans hbw.size hg3;replace q1 := q1.bl hb3;replace q2 := q2.bl hb3;replace hbw := bo_ hbw hb3;clear hb3 hg3 hl3;refine EL.newS (bs_22_3 rfl rfl rfl) rfl ?_;intro g4 w4 q4 hb4 hg4 hl4;have n1_4 := q1.na hg4;have n2_4 := q2.na hg4;have n3_4 := q3.na hg4;have bhbw_4 := Nat.le_trans hbw.size hg4;replace q1 := q1.bl hb4;replace q2 := q2.bl hb4;replace q3 := q3.bl hb4;replace hbw := bo_ hbw hb4;clear hb4 hg4 hl4;refine EL.newS (bs_22_3 rfl rfl rfl) rfl ?_;intro g5 w5 q5 hb5 hg5 hl5;have n1_5 := q1.na hg5;have n2_5 := q2.na hg5;have n3_5 := q3.na hg5;have n4_5 := q4.na hg5;have bhbw_5 := Nat.le_trans hbw.size hg5;replace q1 := q1.bl hb5;replace q2 := q2.bl hb5;replace q3 := q3.bl hb5;replace q4 := q4.bl hb5;replace hbw := bo_ hbw hb5;clear hb5 hg5 hl5;refine EL.newS (bs_25_3 rfl rfl rfl) rfl ?_;intro g6 w6 q6 hb6 hg6 hl6;have n1_6 := q1.na hg6;have n2_6 := q2.na hg6;have n3_6 := q3.na hg6;have n4_6 := q4.na hg6;have n5_6 := q5.na hg6;have bhbw_6 := Nat.le_trans hbw.size hg6;replace q1 := q1.bl hb6;replace q2 := q2.bl hb6;replace q3 := q3.bl hb6;replace q4 := q4.bl hb6;replace q5 := q5.bl hb6;replace hbw := bo_ hbw hb6;clear hb6 hg6 hl6;refine EL.newS (bs_22_3 rfl rfl rfl) rfl ?_;intro g7 w7 q7 hb7 hg7 hl7;have n1_7 := q1.na hg7;have n2_7 := q2.na hg7;have n3_7 := q3.na hg7;have n4_7 := q4.na hg7;have n5_7 := q5.na hg7;have n6_7 := q6.na hg7;have bhbw_7 := Nat.le_trans hbw.size hg7;replace q1 := q1.bl hb7;replace q2 := q2.bl hb7;replace q3 := q3.bl hb7;replace q4 := q4.bl hb7;replace q5 := q5.bl hb7;replace q6 := q6.bl hb7;replace hbw := bo_ hbw hb7;clear hb7 hg7 hl7;refine EL.newS (bs_22_3 rfl rfl rfl) rfl ?_;intro g8 w8 q8 hb8 hg8 hl8;have n1_8 := q1.na hg8;have n2_8 := q2.na hg8;have n3_8 := q3.na hg8;have n4_8 := q4.na hg8;have n5_8 := q5.na hg8;have n6_8 := q6.na hg8;have n7_8 := q7.na hg8;have bhbw_8 := Nat.le_trans hbw.size hg8;replace q1 := q1.bl hb8;replace q2 := q2.bl hb8;replace q3 := q3.bl hb8;replace q4 := q4.bl hb8;replace q5 := q5.bl hb8;replace q6 := q6.bl hb8;replace q7 := q7.bl hb8;replace hbw := bo_ hbw hb8;clear hb8 hg8 hl8;refine EL.newS (bs_22_3 rfl rfl rfl) rfl ?_;intro g9 w9 q9 hb9 hg9 hl9;have n1_9 := q1.na hg9;have n2_9 := q2.na hg9;have n3_9 := q3.na hg9;have n4_9 := q4.na hg9;have n5_9 := q5.na hg9;have n6_9 := q6.na hg9;have n7_9 := q7.na hg9;have n8_9 := q8.na hg9;have bhbw_9 := Nat.le_trans hbw.size hg9;replace q1 := q1.bl hb9;replace q2 := q2.bl hb9;replace q3 := q3.bl hb9;replace q4 := q4.bl hb9;replace q5 := q5.bl hb9;replace q6 := q6.bl hb9;replace q7 := q7.bl hb9;replace q8 := q8.bl hb9;replace hbw := bo_ hbw hb9;clear hb9 hg9 hl9;refine EL.newS (bs_25_3 rfl rfl rfl) rfl ?_;intro g10 w10 q10 hb10 hg10 hl10;have n1_10 := q1.na hg10;have n2_10 := q2.na hg10;have n3_10 := q3.na hg10;have n4_10 := q4.na hg10;have n5_10 := q5.na hg10;have n6_10 := q6.na hg10;have n7_10 := q7.na hg10;have n8_10 := q8.na hg10;have n9_10 := q9.na hg10;have bhbw_10 := Nat.le_trans hbw.size hg10;replace q1 := q1.bl hb10;replace q2 := q2.bl hb10;replace q3 := q3.bl hb10;replace q4 := q4.bl hb10;replace q5 := q5.bl hb10;replace q6 := q6.bl hb10;replace q7 := q7.bl hb10;replace q8 := q8.bl hb10;replace q9 := q9.bl hb10;replace hbw := bo_ hbw hb10;clear hb10 hg10 hl10;refine EL.val (bd_24_0_1 rfl rfl) rfl (EL.val (bd_52_0_1_2_3 rfl rfl rfl rfl) rfl (EL.val (bd_24_0_1 rfl rfl) rfl (EL.val (bd_52_0_1_2_3 rfl rfl rfl rfl) rfl (EL.newS (bs_26_2 rfl rfl) rfl ?_))));intro g11 w11 q11 hb11 hg11 hl11;have n1_11 := q1.na hg11;have n2_11 := q2.na hg11;have n3_11 := q3.na hg11;have n4_11 := q4.na hg11;have n5_11 := q5.na hg11;have n6_11 := q6.na hg11;have n7_11 := q7.na hg11;have n8_11 := q8.na hg11;have n9_11 := q9.na hg11;have n10_11 := q10.na hg11;have bhbw_11 := Nat.le_trans hbw.size hg11;replace q1 := q1.bl hb11;replace q2 := q2.bl hb11;replace q3 := q3.bl hb11;replace q4 := q4.bl hb11;replace q5 := q5.bl hb11;replace q6 := q6.bl hb11;replace q7 := q7.bl hb11;replace q8 := q8.bl hb11;replace q9 := q9.bl hb11;replace q10 := q10.bl hb11;replace hbw := bo_ hbw hb11;clear hb11 hg11 hl11;refine EL.val (bd_28_0_1_2_3_4 rfl rfl rfl rfl rfl) rfl (EL.store rfl rfl q1 sz_28 rfl rfl rfl rfl ?_);intro w12 hq12 hg12;replace q2 := q2.gr hg12 n1_2.symm;replace q3 := q3.gr hg12 n1_3.symm;replace q4 := q4.gr hg12 n1_4.symm;replace q5 := q5.gr hg12 n1_5.symm;replace q6 := q6.gr hg12 n1_6.symm;replace q7 := q7.gr hg12 n1_7.symm;replace q8 := q8.gr hg12 n1_8.symm;replace q9 := q9.gr hg12 n1_9.symm;replace q10 := q10.gr hg12 n1_10.symm;replace q11 := q11.gr hg12 n1_11.symm;replace hbw := below_store hbw hg12 bhbw_1;replace q1 := hq12;clear hg12 hq12;refine EL.nil (EX.seq (EC.ret ?_));have hL1 : RdLL iC 1 w12 w12.heap.size (.slice (some ⟨g6, 0, none⟩) 3 3) three.allow [.slice (some ⟨g3, 0, none⟩) 3 3, .slice (some ⟨g4, 0, none⟩) 3 3, .slice (some ⟨g5, 0, none⟩) 3 3] := ⟨rfl, rd_blk (k := 3) (l := [.slice (some ⟨g3, 0, none⟩) 3 3, .slice (some ⟨g4, 0, none⟩) 3 3, .slice (some ⟨g5, 0, none⟩) 3 3]) q6 rfl, fun i hi => by (have hi : i < 3 := hi); exact (match i, hi with | 0, _ => rd_blk (k := 3) (l := [.int .i64 100, .int .i64 0, .int .i64 30]) q3 rfl | 1, _ => rd_blk (k := 3) (l := [.int .i64 60, .int .i64 60, .int .i64 0]) q4 rfl | 2, _ => rd_blk (k := 3) (l := [.int .i64 40, .int .i64 40, .int .i64 40]) q5 rfl)⟩
 have hL2 : RdLL iC 1 w12 w12.heap.size (.slice (some ⟨g10, 0, none⟩) 3 3) three.apart [.slice (some ⟨g7, 0, none⟩) 3 3, .slice (some ⟨g8, 0, none⟩) 3 3, .slice (some ⟨g9, 0, none⟩) 3 3] := ⟨rfl, rd_blk (k := 3) (l := [.slice (some ⟨g7, 0, none⟩) 3 3, .slice (some ⟨g8, 0, none⟩) 3 3, .slice (some ⟨g9, 0, none⟩) 3 3]) q10 rfl, fun i hi => by (have hi : i < 3 := hi); exact (match i, hi with | 0, _ => rd_blk (k := 3) (l := [.int .i64 0, .int .i64 1, .int .i64 0]) q7 rfl | 1, _ => rd_blk (k := 3) (l := [.int .i64 0, .int .i64 0, .int .i64 0]) q8 rfl | 2, _ => rd_blk (k := 3) (l := [.int .i64 0, .int .i64 0, .int .i64 0]) q9 rfl)⟩
 exact EX.done (resc1 rfl rfl (lv_28 (q1.at (j := 0) rfl) (q1.at (j := 1) rfl) (q1.at (j := 2) rfl) (q1.at (j := 3) rfl) (q1.at (j := 4) rfl) (q1.at (j := 5) rfl))) ⟨⟨_, _, _, _, _, _, rfl, ⟨rd_blk (k := 3) (l := [.int .i64 100, .int .i64 60, .int .i64 40]) q2 rfl, hL1, hL2, rd_blk (k := 2) (l := [.int .i64 30, .int .i64 40, .int .i64 60, .int .i64 5, .int .i64 20000, .int .i64 100, .int .i64 120, .int .i64 240, .int .i64 20, .int .i64 90000]) q11 rfl⟩⟩, hbw⟩
theorem atF_zero {ru : Rules} {tanks : List (List Ev)} {jobs : List Int} (h : codeF ru tanks jobs = 0) : atF ru tanks jobs = 0 := by
 unfold codeF at h
 unfold atF
 split
 ·rename_i he
  rw [if_pos he] at h
  split
  ·rename_i hd
   rw [if_pos hd] at h
   cases h
  ·rfl
 ·rfl
theorem kRes {ua up : List Value} {vl va vp vk : Value} {w : World} {B : Nat} (hr : RdRules w B vl va vp vk three ua up) (hB : B ≤ w.heap.size) {v : Value} (hl : Rd w B 2 v (lK.take 3).length (evsC (lK.take 3))) : Calls Try.prog 33 #[rulesV vl va vp vk three, v] w fun e w' => (∃ u, e = .returned (.tuple #[u, .int .i64 0]) ∧ w'.ownsRow w.heap.size 24 2 u 3 (bdsC [⟨40, 60⟩, ⟨0, 0⟩, ⟨40, 40⟩])) ∧ Below w.heap.size w w' := by
 have h := Residues_any hr hB three_short hl (by decide)
 rw [three_ref3, three_res] at h
 exact h
theorem kAud {ua up : List Value} {vl va vp vk : Value} {w : World} {B : Nat} (hr : RdRules w B vl va vp vk three ua up) (hB : B ≤ w.heap.size) {v : Value} (hl : Rd w B 2 v lK.length (evsC lK)) : Calls Try.prog 13 #[rulesV vl va vp vk three, v] w fun e w' => (∃ u, e = .returned (.tuple #[u, .int .i64 0]) ∧ w'.ownsRow w.heap.size 46 3 u 1 (brsC [⟨2, 0, true⟩])) ∧ Below w.heap.size w w' := by
 have h := Audit_any hr hB three_short hl (by decide)
 rw [three_ref, three_aud] at h
 exact h
theorem kSlop {ua up : List Value} {vl va vp vk : Value} {w : World} {B : Nat} (hr : RdRules w B vl va vp vk three ua up) (hB : B ≤ w.heap.size) {v : Value} (hl : Rd w B 2 v lK.length (evsC lK)) : Calls Try.prog 16 #[rulesV vl va vp vk three, v] w fun e w' => (∃ u us, e = .returned (.tuple #[u, .int .i64 0]) ∧ OwnLL w' w.heap.size w'.heap.size u (slopE three lK) us) ∧ Below w.heap.size w w' := by
 have h := Slops_any hr hB three_short hl (by decide)
 rw [three_ref] at h
 exact h
theorem kBill {ua up : List Value} {vl va vp vk : Value} {w : World} {B : Nat} (hr : RdRules w B vl va vp vk three ua up) (hB : B ≤ w.heap.size) {v : Value} (hl : Rd w B 2 v lK.length (evsC lK)) : Calls Try.prog 17 #[rulesV vl va vp vk three, v] w fun e w' => e = .returned (.tuple #[.int .i64 300, .int .i64 25, .int .i64 110000, .int .i64 0]) ∧ Below w.heap.size w w' := by
 have h := Bill_any hr hB three_short hl (by decide)
 rw [three_bill] at h
 exact h
theorem kPlan {ua up : List Value} {vl va vp vk : Value} {w : World} {B : Nat} (hr : RdRules w B vl va vp vk three ua up) (hB : B ≤ w.heap.size) {v : Value} (hl : Rd w B 2 v (lK.take 1).length (evsC (lK.take 1))) {vj : Value} (hv : Rd w B 1 vj ([2, 1] : List Int).length (ints [2, 1])) : Calls Try.prog 24 #[rulesV vl va vp vk three, v, vj] w fun e w' => (∃ u, e = .returned (.tuple #[u, .int .i64 90000, .int .i64 0, .int .i64 0]) ∧ w'.ownsRow w.heap.size 3 1 u 2 (ints [1, -1])) ∧ Below w.heap.size w w' := by
 refine (Plan_any hr hB three_short hl (by decide) hv (by decide)).mono fun e w' h => ?_
 obtain ⟨⟨u, ws, c, rfl, ho, h1, _⟩, hb⟩ := h;obtain ⟨p, hp, rfl, rfl⟩ := h1 three_code;obtain rfl := hp.one three_plan
 exact ⟨⟨u, by rw [three_code, at_zero three_code]; rfl, ho⟩, hb⟩
theorem kPlan1 {ua up : List Value} {vl va vp vk : Value} {w : World} {B : Nat} (hr : RdRules w B vl va vp vk three ua up) (hB : B ≤ w.heap.size) {v : Value} (hl : Rd w B 2 v (lK.take 1).length (evsC (lK.take 1))) {vj : Value} (hv : Rd w B 1 vj ([1] : List Int).length (ints [1])) : Calls Try.prog 24 #[rulesV vl va vp vk three, v, vj] w fun e w' => (∃ u, e = .returned (.tuple #[u, .int .i64 0, .int .i64 0, .int .i64 7]) ∧ w'.ownsRow w.heap.size 3 1 u 0 []) ∧ Below w.heap.size w w' := by
 refine (Plan_any hr hB three_short hl (by decide) hv (by decide)).mono fun e w' h => ?_
 obtain ⟨⟨u, ws, c, rfl, ho, _, h1⟩, hb⟩ := h;obtain ⟨rfl, rfl⟩ := h1 (by rw [three_code1]; decide)
 exact ⟨⟨u, by rw [three_code1, three_at1]; rfl, ho⟩, hb⟩
theorem kFleet {ua up : List Value} {vl va vp vk : Value} {w : World} {B : Nat} (hr : RdRules w B vl va vp vk three ua up) (hB : B ≤ w.heap.size) {vt : Value} {ut : List Value} (ht : RdLL evC 2 w B vt tK ut) {vj : Value} (hv : Rd w B 1 vj ([2, 1] : List Int).length (ints [2, 1])) : Calls Try.prog 38 #[rulesV vl va vp vk three, vt, vj] w fun e w' => (∃ u, e = .returned (.tuple #[u, .int .i64 90000, .int .i64 0, .int .i64 0]) ∧ w'.ownsRow w.heap.size 70 2 u 2 (stsC [⟨0, 1⟩, ⟨0, -1⟩])) ∧ Below w.heap.size w w' := by
 refine (Fleet_any hr hB three_short ht (fun i hi => by (have hi : i < 2 := hi); exact (match i, hi with | 0, _ => by decide | 1, _ => by decide)) (by decide) hv (by decide)).mono fun e w' h => ?_
 obtain ⟨⟨u, st, c, rfl, ho, h1, _⟩, hb⟩ := h;obtain ⟨p, hp, rfl, rfl⟩ := h1 three_codeF;obtain rfl := hp.one three_fleet
 exact ⟨⟨u, by rw [three_codeF, atF_zero three_codeF]; rfl, ho⟩, hb⟩
section
variable {n : Nat} {σ : Sg} {w : World} {dst : Option Tmp} {ty : TypeId} {pos : String} {af : Array Edge} {g : Option (Nat × Bool)} {x y z : Operand} {at' : Array TypeId}
theorem eql_24 {a0 a1 b0 b1 : Int} {r : Bool} (hx : evS σ x = some (.agg #[.int .i64 a0, .int .i64 a1])) (hy : evS σ y = some (.agg #[.int .i64 b0, .int .i64 b1])) (hc : decide (a0 = b0 ∧ a1 = b1) = r) : Gives Try.prog n σ w ⟨dst, .binOp .eql 24 x y 24, ty, pos, af, g⟩ (.bool r) := fun a ha => by
 subst hc
 simp only [execOp, ha.eval hx, ha.eval hy]
 go_simp
 repeat' split
 all_goals simp_all
theorem ix_32 {b o m c k : Nat} (hx : evS σ x = some (.slice (some ⟨b, o, none⟩) m c)) (hy : evS σ y = some (.int .i64 (k : Int))) (hk : k < m) : Gives Try.prog n σ w ⟨dst, .indexAddr 32 x y, ty, pos, af, g⟩ (.pointer (some ⟨b, o + k * 3, none⟩)) := fun a ha => by
 have k0 : (0 : Int) ≤ (k : Int) := Int.natCast_nonneg _;have k1 : (k : Int) < (m : Int) := by omega
 simp only [execOp, ha.eval hx, ha.eval hy]
 simp [go_sem, k0, k1]
theorem eql_70 {a0 a1 b0 b1 : Int} {r : Bool} (hx : evS σ x = some (.agg #[.int .i64 a0, .int .i64 a1])) (hy : evS σ y = some (.agg #[.int .i64 b0, .int .i64 b1])) (hc : decide (a0 = b0 ∧ a1 = b1) = r) : Gives Try.prog n σ w ⟨dst, .binOp .eql 70 x y 70, ty, pos, af, g⟩ (.bool r) := fun a ha => by
 subst hc
 simp only [execOp, ha.eval hx, ha.eval hy]
 go_simp
 repeat' split
 all_goals simp_all
theorem cF46 : cF 46 := fun _ _ => by simp [go_sem]
theorem cF45 : cF 45 := fun _ _ => by simp [go_sem]
theorem bs_29_4 {x0 x1 x2 x3 : Operand} {v0_0 v0_1 v1_0 v1_1 v2_0 v2_1 v3_0 v3_1 : Value} (h0 : evS σ x0 = some (.agg #[v0_0, v0_1])) (h1 : evS σ x1 = some (.agg #[v1_0, v1_1])) (h2 : evS σ x2 = some (.agg #[v2_0, v2_1])) (h3 : evS σ x3 = some (.agg #[v3_0, v3_1]))  (a : Act) (ha : Env n σ a) : (execOp a.eval ⟨dst, .buildSlice 29 4 #[(0, x0), (1, x1), (2, x2), (3, x3)], ty, pos, af, g⟩).run Try.prog w = .ok (.value (.slice (some ⟨w.heap.size, 0, none⟩) 4 4)) (w.alloc (.cells #[v0_0, v0_1, v1_0, v1_1, v2_0, v2_1, v3_0, v3_1] 50)) := by
 simp only [execOp, List.map_toArray, List.map_cons, List.map_nil, ha.eval h0, ha.eval h1, ha.eval h2, ha.eval h3]
 go_simp
theorem slh_29 {b o m c hi : Nat} (hx : evS σ x = some (.slice (some ⟨b, o, none⟩) m c)) (hh : evS σ y = some (.int .i64 (hi : Int))) (h2 : hi ≤ c) : Gives Try.prog n σ w ⟨dst, .slice 29 x none (some y) none, ty, pos, af, g⟩ (.slice (some ⟨b, o, none⟩) hi c) := fun a ha => by
 have k1 : (0 : Int) ≤ (hi : Int) := Int.natCast_nonneg _;have k3 : (hi : Int) ≤ (c : Int) := by omega
 simp only [execOp, Option.map_some, Option.map_none, ha.eval hx, ha.eval hh]
 by_cases e : c = 0
 ·subst e; obtain rfl : hi = 0 := by omega
  simp [go_sem]
 ·simp [go_sem, k1, k3, h2, e]
theorem cA0 {F : FuncId} (hF : cF F)  (a : Act) (_ : Env n σ a) : (execOp a.eval ⟨dst, .call { callee := .value (.func F), args := #[], argTypes := at' }, ty, pos, af, g⟩).run Try.prog w = .ok (.enter F #[]) w := by
 simp only [execOp, resolve, List.map_toArray, List.map_nil]
 simp [go_sem, Act.eval, hF _ _]
theorem cF47 : cF 47 := fun _ _ => by simp [go_sem]
theorem cF33 : cF 33 := fun _ _ => by simp [go_sem]
theorem cF13 : cF 13 := fun _ _ => by simp [go_sem]
theorem cF16 : cF 16 := fun _ _ => by simp [go_sem]
theorem cF17 : cF 17 := fun _ _ => by simp [go_sem]
theorem cF24 : cF 24 := fun _ _ => by simp [go_sem]
theorem bs_29_1 {x0 : Operand} {v0_0 v0_1 : Value} (h0 : evS σ x0 = some (.agg #[v0_0, v0_1]))  (a : Act) (ha : Env n σ a) : (execOp a.eval ⟨dst, .buildSlice 29 1 #[(0, x0)], ty, pos, af, g⟩).run Try.prog w = .ok (.value (.slice (some ⟨w.heap.size, 0, none⟩) 1 1)) (w.alloc (.cells #[v0_0, v0_1] 50)) := by
 simp only [execOp, List.map_toArray, List.map_cons, List.map_nil, ha.eval h0]
 go_simp
theorem bs_96_2 {x0 x1 : Operand} {A0 A1 : Option Addr} {m0 c0 m1 c1 : Nat} (h0 : evS σ x0 = some (.slice A0 m0 c0)) (h1 : evS σ x1 = some (.slice A1 m1 c1)) (a : Act) (ha : Env n σ a) : (execOp a.eval ⟨dst, .buildSlice 96 2 #[(0, x0), (1, x1)], ty, pos, af, g⟩).run Try.prog w = .ok (.value (.slice (some ⟨w.heap.size, 0, none⟩) 2 2)) (w.alloc (.cells #[.slice A0 m0 c0, .slice A1 m1 c1] 29)) := by
 simp only [execOp, List.map_toArray, List.map_cons, List.map_nil, ha.eval h0, ha.eval h1]
 go_simp
theorem cF38 : cF 38 := fun _ _ => by simp [go_sem]
theorem ln_32 {A : Option Addr} {m c : Nat} (hx : evS σ x = some (.slice A m c)) : Gives Try.prog n σ w ⟨dst, .call { callee := .builtin .len, args := #[x], argTypes := #[32] }, ty, pos, af, g⟩ (.int .i64 (m : Int)) := fun a ha => by
 simp only [execOp, resolve, List.map_toArray, List.map_cons, List.map_nil, ha.eval hx]
 simp [go_sem]
theorem ld_46 {b o : Nat} {v0 v1 v2 : Value} (hx : evS σ x = some (.pointer (some ⟨b, o, none⟩))) (c0 : w.cell? ⟨b, o, none⟩ = some v0) (c1 : w.cell? ⟨b, o + 1, none⟩ = some v1) (c2 : w.cell? ⟨b, o + 2, none⟩ = some v2) : Gives Try.prog n σ w ⟨dst, .load 46 x, ty, pos, af, g⟩ (.agg #[v0, v1, v2]) := fun a ha => by
 simp only [execOp, ha.eval hx]
 simp [go_sem, c0, c1, c2]
theorem bd_46_0_2 {x0 x1 : Operand} {z0 : Int} {b1 : Bool} (h0 : evS σ x0 = some (.int .i64 z0)) (h1 : evS σ x1 = some (.bool b1)) : Gives Try.prog n σ w ⟨dst, .build 46 #[(0, x0), (2, x1)], ty, pos, af, g⟩ (.agg #[.int .i64 z0, .int .i64 0, .bool b1]) := fun a ha => by
 simp only [execOp, List.map_toArray, List.map_cons, List.map_nil, ha.eval h0, ha.eval h1]
 go_simp
theorem bd_70_1 {x0 : Operand} {z0 : Int} (h0 : evS σ x0 = some (.int .i64 z0)) : Gives Try.prog n σ w ⟨dst, .build 70 #[(1, x0)], ty, pos, af, g⟩ (.agg #[.int .i64 0, .int .i64 z0]) := fun a ha => by
 simp only [execOp, List.map_toArray, List.map_cons, List.map_nil, ha.eval h0]
 go_simp
end
theorem mono_th {k : Nat} : Mono fun r w => ∃ vl va vp vk ua up, r k = rulesV vl va vp vk three ∧ RdRules w w.heap.size vl va vp vk three ua up := fun _ _ _ hb ⟨vl, va, vp, vk, ua, up, h1, h2⟩ => ⟨vl, va, vp, vk, ua, up, h1, (h2.below hb).more hb.size⟩
theorem rd_pre {w : World} {B n c m : Nat} {A : Option Addr} {l : List Ev} (h : Rd w B 2 (.slice A n c) n (evsC l)) (hm : m ≤ n) : Rd w B 2 (.slice A m c) (l.take m).length (evsC (l.take m)) := by
 have hl : l.length = n := by have := h.len; rw [evsC_len] at this; omega
 have hlm : (l.take m).length = m := by rw [List.length_take]; omega
 rw [hlm];obtain ⟨hl0, A', c', h8, hc, hrd⟩ := h
 injection h8 with h8 _ h9
 subst h8 h9;refine ⟨by rw [evsC_len, hlm], A, c, rfl, by omega, fun h0 => ?_⟩
 obtain ⟨b, off, e, hb, hcell⟩ := hrd (by omega)
 refine ⟨b, off, e, hb, fun j u hj => hcell j u ?_⟩
 have e2 : evsC l = evsC (l.take m) ++ evsC (l.drop m) := by
  unfold evsC
  rw [← List.flatMap_append, List.take_append_drop]
 rw [e2, List.getElem?_append_left (List.getElem?_eq_some_iff.1 hj).1]
 exact hj
theorem brs_cells (l : List Br) (k : Nat) (hk : k < l.length) (w : World) (B : Nat) (A : Option Addr) (n c : Nat) (hr : Rd w B 3 (.slice A n c) n (brsC l)) :
  ∃ b off, A = some ⟨b, off, none⟩ ∧ b < B ∧ w.cell? ⟨b, off + k * 3, none⟩ = some (.int .i64 ((l.getD k ⟨0, 0, false⟩).event : Nat)) ∧ w.cell? ⟨b, off + k * 3 + 1, none⟩ = some (.int .i64 ((l.getD k ⟨0, 0, false⟩).cargo : Nat)) ∧ w.cell? ⟨b, off + k * 3 + 2, none⟩ = some (.bool (l.getD k ⟨0, 0, false⟩).sure) := by
 have hl : n * 3 = l.length * 3 := by rw [← hr.len]; exact flat_len brC_len l
 obtain ⟨b, off, rfl, hb, hc⟩ := hr.at_ (by omega)
 have e : l.getD k ⟨0, 0, false⟩ = l[k] := by simp [hk]
 rw [e];have g := fun j hj => flat_get brC_len l k hk j hj
 exact ⟨b, off, rfl, hb, hc (k * 3) _ (g 0 (by omega)), hc (k * 3 + 1) _ (g 1 (by omega)), hc (k * 3 + 2) _ (g 2 (by omega))⟩
theorem x_eqBr {n : Nat} {σ : Sg} {w : World} {dst : Option Tmp} {ty : TypeId} {pos : String} {af : Array Edge} {g : Option (Nat × Bool)} {x y : Operand} {a0 a1 b0 b1 : Int} {a2 b2 r : Bool} (hx : evS σ x = some (.agg #[.int .i64 a0, .int .i64 a1, .bool a2])) (hy : evS σ y = some (.agg #[.int .i64 b0, .int .i64 b1, .bool b2])) (hc : decide (a0 = b0 ∧ a1 = b1 ∧ a2 = b2) = r) : Gives Try.prog n σ w ⟨dst, .binOp .eql 46 x y 46, ty, pos, af, g⟩ (.bool r) := fun a ha => by
 subst hc
 simp only [execOp, ha.eval hx, ha.eval hy]
 go_simp
 repeat' split
 all_goals simp_all
set_option maxHeartbeats 4000000 in
theorem known_any (w : World) : Calls Try.prog 12 #[] w fun e w' => e = .returned (.bool true) ∧ Below w.heap.size w w' := by
 have hbw := Below.refl w.heap.size w;refine EC.enter 213 Try.func12 rfl rfl rfl (EC.seq (EC.region (EL.as rfl rfl (EL.nil (EX.seq (EC.seq (EC.region (EL.call (cA1 cF46 rfl) rfl (lload_any _ _) ?_))))))))
 rintro e w1 ⟨rfl, hc1⟩
 refine ⟨_, rfl, ?_⟩;replace hbw := bo_ hbw hc1;clear hc1;refine EL.call (cA1 cF45 rfl) rfl (lclean_any _ _) ?_
 rintro e w2 ⟨rfl, hc2⟩
 refine ⟨_, rfl, ?_⟩;replace hbw := bo_ hbw hc2;clear hc2;refine EL.call (cA1 cF46 rfl) rfl (lload_any _ _) ?_
 rintro e w3 ⟨rfl, hc3⟩
 refine ⟨_, rfl, ?_⟩;replace hbw := bo_ hbw hc3;clear hc3;refine EL.call (cA1 cF45 rfl) rfl (lclean_any _ _) ?_
 rintro e w4 ⟨rfl, hc4⟩
 refine ⟨_, rfl, ?_⟩;replace hbw := bo_ hbw hc4;clear hc4;refine EL.newS (bs_29_4 rfl rfl rfl rfl) rfl ?_;intro g5 w5 q5 hb5 hg5 hl5;have bhbw_5 := Nat.le_trans hbw.size hg5;replace hbw := bo_ hbw hb5;clear hb5 hg5 hl5;have hE : Rd w5 w5.heap.size 2 (.slice (some ⟨g5, 0, none⟩) 4 4) lK.length (evsC lK) := rd_blk (k := 4) (l := [.int .i64 1, .int .i64 0, .int .i64 2, .int .i64 0, .int .i64 1, .int .i64 2, .int .i64 2, .int .i64 1]) q5 rfl;refine EL.as rfl rfl (EL.nil (EX.seq (EC.seq ?_)));refine EC.regionP [[], [], [1], [0, 1, 2], [0, 1, 2, 3], [0, 1, 2, 3, 4], [0, 1, 2, 3, 4], [0, 1, 2, 3, 4, 5], [0, 1, 2, 3, 4, 5, 6, 7]] 8 [] (phi (fun i_ r => match i_ with | 1 => r 1 = .slice (some ⟨g5, 0, none⟩) 4 4 | 2 => r 2 = .slice (some ⟨g5, 0, none⟩) 3 4 | 6 => r 6 = .int .i64 0 | _ => True) [(0, fun r w_ => ∃ vl va vp vk ua up, r 0 = rulesV vl va vp vk three ∧ RdRules w_ w_.heap.size vl va vp vk three ua up), (3, fun r w_ => ∃ A c, r 3 = .tuple #[.slice A 3 c, .int .i64 0] ∧ w_.ownsRow w.heap.size 24 2 (.slice A 3 c) 3 (bdsC [⟨40, 60⟩, ⟨0, 0⟩, ⟨40, 40⟩])), (4, fun r w_ => ∃ A c, r 4 = .tuple #[.slice A 3 c, .int .i64 0] ∧ w_.ownsRow w.heap.size 24 2 (.slice A 3 c) 3 (bdsC [⟨40, 60⟩, ⟨0, 0⟩, ⟨40, 40⟩])), (5, fun r w_ => ∃ A c, r 5 = .slice A 3 c ∧ w_.ownsRow w.heap.size 24 2 (.slice A 3 c) 3 (bdsC [⟨40, 60⟩, ⟨0, 0⟩, ⟨40, 40⟩])), (7, fun r w_ => ∃ A c, r 7 = .slice A 3 c ∧ w_.ownsRow w.heap.size 24 2 (.slice A 3 c) 3 (bdsC [⟨40, 60⟩, ⟨0, 0⟩, ⟨40, 40⟩]))]) (by kernel_rfl) rfl rfl (phi_cons mono_th (phi_cons (mono_cp (f := fun A c => .tuple #[.slice A 3 c, .int .i64 0])) (phi_cons (mono_cp (f := fun A c => .tuple #[.slice A 3 c, .int .i64 0])) (phi_cons (mono_cp (f := fun A c => .slice A 3 c)) (phi_cons (mono_cp (f := fun A c => .slice A 3 c)) (phi_nil)))))) (fun i_ hi_ => ?_) ?_
 ·match i_, hi_ with
  | 0, _ =>
   intro val w1 a hb ha hd;have ha := ha.sub (Sub.nil _);refine hs_call ha rfl rfl (cA0 cF47) (three_any _) rfl ?_
   rintro e w' ⟨⟨vl, va, vp, vk, ua, up, rfl, hR⟩, hb'⟩
   exact ⟨_, rfl, hb', ⟨vl, va, vp, vk, ua, up, rfl, hR⟩⟩
  | 1, _ =>
   intro val w1 a hb ha hd;have ha := ha.s0 (d := 1) rfl
   exact hs_val ha rfl rfl (x_move rfl) rfl rfl
  | 2, _ =>
   intro val w1 a hb ha hd;have e1 : val 1 = _ := hd 1 (memB_mem.1 rfl);have ha := ha.s1 (d := 31) rfl e1
   exact hs_val ha rfl rfl (slh_29 (hi := 3) rfl rfl (by decide)) rfl rfl
  | 3, _ =>
   intro val w1 a hb ha hd;obtain ⟨vl0_, va0_, vp0_, vk0_, ua0_, up0_, e0, hR0_⟩ := hd 0 (memB_mem.1 rfl);have e2 : val 2 = _ := hd 2 (memB_mem.1 rfl);have ha := ha.s2 (d := 32) (e := 30) rfl e2 rfl e0;refine hs_call ha rfl rfl (cA2 cF33 rfl rfl) (kRes hR0_ (Nat.le_refl _) (rd_pre (m := 3) ((hE.below hb).more hb.size) (by decide))) rfl ?_
   rintro e w' ⟨⟨u, rfl, ho⟩, hb'⟩
   obtain ⟨A, c9, rfl, _⟩ := (Rd.of_own ho).shape
   exact ⟨_, rfl, hb', ⟨A, c9, rfl, own_less ho (Nat.le_trans hbw.size hb.size)⟩⟩
  | 4, _ =>
   intro val w1 a hb ha hd;obtain ⟨A2_3, c2_3, e3, ho2_3⟩ := hd 3 (memB_mem.1 rfl);have ha := ha.s1 (d := 33) rfl e3
   exact hs_val ha rfl rfl (x_move rfl) ⟨A2_3, c2_3, rfl, ho2_3⟩ rfl
  | 5, _ =>
   intro val w1 a hb ha hd;obtain ⟨A2_4, c2_4, e4, ho2_4⟩ := hd 4 (memB_mem.1 rfl);have ha := ha.s1 (d := 29) rfl e4
   exact hs_val ha rfl rfl (x_extract rfl rfl) ⟨A2_4, c2_4, rfl, ho2_4⟩ rfl
  | 6, _ =>
   intro val w1 a hb ha hd;obtain ⟨A2_4, c2_4, e4, ho2_4⟩ := hd 4 (memB_mem.1 rfl);have ha := ha.s1 (d := 29) rfl e4
   exact hs_val ha rfl rfl (x_extract rfl rfl) rfl rfl
  | 7, _ =>
   intro val w1 a hb ha hd;obtain ⟨A2_5, c2_5, e5, ho2_5⟩ := hd 5 (memB_mem.1 rfl);have ha := ha.s1 (d := 34) rfl e5
   exact hs_val ha rfl rfl (x_assign rfl) ⟨A2_5, c2_5, rfl, ho2_5⟩ rfl
  | k + 8, h => exact absurd h (by omega)
 ·intro val wR2 hb halc hd
  obtain ⟨vl0_, va0_, vp0_, vk0_, ua0_, up0_, e0, hR0_⟩ := hd 0 (by omega)
  have e1 : val 1 = _ := hd 1 (by omega)
  have e2 : val 2 = _ := hd 2 (by omega)
  obtain ⟨A2_3, c2_3, e3, ho2_3⟩ := hd 3 (by omega)
  obtain ⟨A2_4, c2_4, e4, ho2_4⟩ := hd 4 (by omega)
  obtain ⟨A2_5, c2_5, e5, ho2_5⟩ := hd 5 (by omega)
  have e6 : val 6 = _ := hd 6 (by omega)
  obtain ⟨A2_7, c2_7, e7, ho2_7⟩ := hd 7 (by omega)
  refine EL.ends (cs := [_, _, _, _, _, _, _, _]) ⟨e0, e1, e2, e3, e4, e5, e6, e7, trivial⟩ rfl ?_;replace hE := (hE.below hb).more hb.size;replace hbw := bo_ hbw hb;clear hb;have hr2 := ho2_7;clear ho2_3 ho2_4 ho2_5 ho2_7 hR0_;refine EL.as rfl rfl (EL.nil (EX.seq (EC.seq (EC.region (EL.call (cA0 cF47) rfl (three_any _) ?_)))))
  rintro e w6 ⟨⟨vl6, va6, vp6, vk6, ua6, up6, rfl, hR⟩, hc6⟩
  refine ⟨_, rfl, ?_⟩;replace hE := (hE.below hc6).more hc6.size;replace hr2 := own_below hr2 hc6 (Nat.le_refl _);replace hbw := bo_ hbw hc6;clear hc6;refine EL.mv rfl rfl (EL.call (cA2 cF13 rfl rfl) rfl (kAud hR (Nat.le_refl _) hE) ?_)
  rintro e w7 ⟨⟨u7, rfl, ho7⟩, hc7⟩
  refine ⟨_, rfl, ?_⟩;have hrA := own_less ho7 hbw.size;clear ho7;replace hE := (hE.below hc7).more hc7.size;replace hr2 := own_below hr2 hc7 (Nat.le_refl _);replace hbw := bo_ hbw hc7;clear hc7 hR;obtain ⟨AhrA, chrA, rfl, _⟩ := (Rd.of_own hrA).shape;refine EL.mv rfl rfl (EL.xt rfl rfl rfl (EL.xt rfl rfl rfl (EL.as rfl rfl (EL.as rfl rfl (EL.nil (EX.seq (EC.seq (EC.region (EL.call (cA0 cF47) rfl (three_any _) ?_)))))))))
  rintro e w8 ⟨⟨vl8, va8, vp8, vk8, ua8, up8, rfl, hR⟩, hc8⟩
  refine ⟨_, rfl, ?_⟩;replace hE := (hE.below hc8).more hc8.size;replace hr2 := own_below hr2 hc8 (Nat.le_refl _);replace hrA := own_below hrA hc8 (Nat.le_refl _);replace hbw := bo_ hbw hc8;clear hc8;refine EL.mv rfl rfl (EL.call (cA2 cF16 rfl rfl) rfl (kSlop hR (Nat.le_refl _) hE) ?_)
  rintro e w9 ⟨⟨u9, usS, rfl, ho9⟩, hc9⟩
  refine ⟨_, rfl, ?_⟩;have hS := ho9.less hbw.size;clear ho9;replace hE := (hE.below hc9).more hc9.size;replace hr2 := own_below hr2 hc9 (Nat.le_refl _);replace hrA := own_below hrA hc9 (Nat.le_refl _);replace hbw := bo_ hbw hc9;clear hc9 hR;obtain ⟨AS, cS, rfl, _⟩ := hS.rd.rd.shape;refine EL.mv rfl rfl (EL.xt rfl rfl rfl (EL.xt rfl rfl rfl (EL.as rfl rfl (EL.as rfl rfl (EL.nil (EX.seq (EC.seq (EC.region (EL.call (cA0 cF47) rfl (three_any _) ?_)))))))))
  rintro e w10 ⟨⟨vl10, va10, vp10, vk10, ua10, up10, rfl, hR⟩, hc10⟩
  refine ⟨_, rfl, ?_⟩;replace hE := (hE.below hc10).more hc10.size;replace hr2 := own_below hr2 hc10 (Nat.le_refl _);replace hrA := own_below hrA hc10 (Nat.le_refl _);replace hS := (hS.below hc10).more hc10.size;replace hbw := bo_ hbw hc10;clear hc10;refine EL.mv rfl rfl (EL.call (cA2 cF17 rfl rfl) rfl (kBill hR (Nat.le_refl _) hE) ?_)
  rintro e w11 ⟨rfl, hc11⟩
  refine ⟨_, rfl, ?_⟩;replace hE := (hE.below hc11).more hc11.size;replace hr2 := own_below hr2 hc11 (Nat.le_refl _);replace hrA := own_below hrA hc11 (Nat.le_refl _);replace hS := (hS.below hc11).more hc11.size;replace hR := (hR.below hc11).more hc11.size;replace hbw := bo_ hbw hc11;clear hc11;clear hR;refine EL.mv rfl rfl (EL.xt rfl rfl rfl (EL.xt rfl rfl rfl (EL.xt rfl rfl rfl (EL.xt rfl rfl rfl (EL.as rfl rfl (EL.as rfl rfl (EL.as rfl rfl (EL.as rfl rfl (EL.nil ?_)))))))));refine EX.seq (EC.seq ?_);refine EC.regionP [[], [], [1], [], [0, 1, 2, 3], [0, 1, 2, 3, 4], [0, 1, 2, 3, 4, 5], [0, 1, 2, 3, 4, 5], [0, 1, 2, 3, 4, 5], [0, 1, 2, 3, 4, 5], [0, 1, 2, 3, 4, 5, 6], [0, 1, 2, 3, 4, 5, 6, 7, 10], [0, 1, 2, 3, 4, 5, 6, 7, 8, 10, 11], [0, 1, 2, 3, 4, 5, 6, 7, 8, 9, 10, 11, 12]] 13 [] (phi (fun i_ r => match i_ with | 1 => r 1 = .slice (some ⟨g5, 0, none⟩) 4 4 | 2 => r 2 = .slice (some ⟨g5, 0, none⟩) 1 4 | 7 => r 7 = .int .i64 90000 | 8 => r 8 = .int .i64 0 | 9 => r 9 = .int .i64 0 | 11 => r 11 = .int .i64 90000 | 12 => r 12 = .int .i64 0 | _ => True) [(0, fun r w_ => ∃ vl va vp vk ua up, r 0 = rulesV vl va vp vk three ∧ RdRules w_ w_.heap.size vl va vp vk three ua up), (3, fun r w_ => ∃ g_, r 3 = .slice (some ⟨g_, 0, none⟩) 2 2 ∧ Blk w_ g_ 3 #[.int .i64 2, .int .i64 1] ∧ w11.heap.size ≤ g_), (4, fun r w_ => ∃ A c, r 4 = .tuple #[.slice A 2 c, .int .i64 90000, .int .i64 0, .int .i64 0] ∧ w_.ownsRow w.heap.size 3 1 (.slice A 2 c) 2 (ints [1, -1])), (5, fun r w_ => ∃ A c, r 5 = .tuple #[.slice A 2 c, .int .i64 90000, .int .i64 0, .int .i64 0] ∧ w_.ownsRow w.heap.size 3 1 (.slice A 2 c) 2 (ints [1, -1])), (6, fun r w_ => ∃ A c, r 6 = .slice A 2 c ∧ w_.ownsRow w.heap.size 3 1 (.slice A 2 c) 2 (ints [1, -1])), (10, fun r w_ => ∃ A c, r 10 = .slice A 2 c ∧ w_.ownsRow w.heap.size 3 1 (.slice A 2 c) 2 (ints [1, -1]))]) (by kernel_rfl) rfl rfl (phi_cons mono_th (phi_cons mono_bs (phi_cons (mono_cp (f := fun A c => .tuple #[.slice A 2 c, .int .i64 90000, .int .i64 0, .int .i64 0])) (phi_cons (mono_cp (f := fun A c => .tuple #[.slice A 2 c, .int .i64 90000, .int .i64 0, .int .i64 0])) (phi_cons (mono_cp (f := fun A c => .slice A 2 c)) (phi_cons (mono_cp (f := fun A c => .slice A 2 c)) (phi_nil))))))) (fun i_ hi_ => ?_) ?_
  ·match i_, hi_ with
   | 0, _ =>
    intro val w1 a hb ha hd;have ha := ha.sub (Sub.nil _);refine hs_call ha rfl rfl (cA0 cF47) (three_any _) rfl ?_
    rintro e w' ⟨⟨vl, va, vp, vk, ua, up, rfl, hR⟩, hb'⟩
    exact ⟨_, rfl, hb', ⟨vl, va, vp, vk, ua, up, rfl, hR⟩⟩
   | 1, _ =>
    intro val w1 a hb ha hd;have ha := ha.s0 (d := 1) rfl
    exact hs_val ha rfl rfl (x_move rfl) rfl rfl
   | 2, _ =>
    intro val w1 a hb ha hd;have e1 : val 1 = _ := hd 1 (memB_mem.1 rfl);have ha := ha.s1 (d := 58) rfl e1
    exact hs_val ha rfl rfl (slh_29 (hi := 1) rfl rfl (by decide)) rfl rfl
   | 3, _ =>
    intro val w1 a hb ha hd;have ha := ha.sub (Sub.nil _)
    exact hs_newS ha rfl rfl (bs_22_2 rfl rfl) rfl (fun g w' hq _ hge => ⟨g, rfl, hq, Nat.le_trans hb.size hge⟩)
   | 4, _ =>
    intro val w1 a hb ha hd;obtain ⟨vl0_, va0_, vp0_, vk0_, ua0_, up0_, e0, hR0_⟩ := hd 0 (memB_mem.1 rfl);have e2 : val 2 = _ := hd 2 (memB_mem.1 rfl);obtain ⟨g3_, e3, q3_, h3_⟩ := hd 3 (memB_mem.1 rfl);change val 3 = _ at e3;have ha := ha.sub (Sub.ins (d := 60) (Sub.ins (d := 59) (Sub.ins (d := 57) (Sub.nil _) (dep_get rfl e0)) (dep_get rfl e2)) (dep_get rfl e3));refine hs_call ha rfl rfl (cA3 cF24 rfl rfl rfl) (kPlan hR0_ (Nat.le_refl _) (rd_pre (m := 1) ((hE.below hb).more hb.size) (by decide)) (rd_blk (k := 2) (l := [.int .i64 2, .int .i64 1]) q3_ rfl)) rfl ?_
    rintro e w' ⟨⟨u, rfl, ho⟩, hb'⟩
    obtain ⟨A, c9, rfl, _⟩ := (Rd.of_own ho).shape
    exact ⟨_, rfl, hb', ⟨A, c9, rfl, own_less ho (Nat.le_trans hbw.size hb.size)⟩⟩
   | 5, _ =>
    intro val w1 a hb ha hd;obtain ⟨A6_4, c6_4, e4, ho6_4⟩ := hd 4 (memB_mem.1 rfl);have ha := ha.s1 (d := 61) rfl e4
    exact hs_val ha rfl rfl (x_move rfl) ⟨A6_4, c6_4, rfl, ho6_4⟩ rfl
   | 6, _ =>
    intro val w1 a hb ha hd;obtain ⟨A6_5, c6_5, e5, ho6_5⟩ := hd 5 (memB_mem.1 rfl);have ha := ha.s1 (d := 56) rfl e5
    exact hs_val ha rfl rfl (x_extract rfl rfl) ⟨A6_5, c6_5, rfl, ho6_5⟩ rfl
   | 7, _ =>
    intro val w1 a hb ha hd;obtain ⟨A6_5, c6_5, e5, ho6_5⟩ := hd 5 (memB_mem.1 rfl);have ha := ha.s1 (d := 56) rfl e5
    exact hs_val ha rfl rfl (x_extract rfl rfl) rfl rfl
   | 8, _ =>
    intro val w1 a hb ha hd;obtain ⟨A6_5, c6_5, e5, ho6_5⟩ := hd 5 (memB_mem.1 rfl);have ha := ha.s1 (d := 56) rfl e5
    exact hs_val ha rfl rfl (x_extract rfl rfl) rfl rfl
   | 9, _ =>
    intro val w1 a hb ha hd;obtain ⟨A6_5, c6_5, e5, ho6_5⟩ := hd 5 (memB_mem.1 rfl);have ha := ha.s1 (d := 56) rfl e5
    exact hs_val ha rfl rfl (x_extract rfl rfl) rfl rfl
   | 10, _ =>
    intro val w1 a hb ha hd;obtain ⟨A6_6, c6_6, e6, ho6_6⟩ := hd 6 (memB_mem.1 rfl);have ha := ha.s1 (d := 62) rfl e6
    exact hs_val ha rfl rfl (x_assign rfl) ⟨A6_6, c6_6, rfl, ho6_6⟩ rfl
   | 11, _ =>
    intro val w1 a hb ha hd;have e7 : val 7 = _ := hd 7 (memB_mem.1 rfl);have ha := ha.s1 (d := 63) rfl e7
    exact hs_val ha rfl rfl (x_assign rfl) rfl rfl
   | 12, _ =>
    intro val w1 a hb ha hd;have e8 : val 8 = _ := hd 8 (memB_mem.1 rfl);have ha := ha.s1 (d := 64) rfl e8
    exact hs_val ha rfl rfl (x_assign rfl) rfl rfl
   | k + 13, h => exact absurd h (by omega)
  ·intro val wR6 hb halc hd
   obtain ⟨vl0_, va0_, vp0_, vk0_, ua0_, up0_, e0, hR0_⟩ := hd 0 (by omega)
   have e1 : val 1 = _ := hd 1 (by omega)
   have e2 : val 2 = _ := hd 2 (by omega)
   obtain ⟨ga3_6, e3, qa3_6, hga3_6⟩ := hd 3 (by omega)
   change val 3 = _ at e3;change Blk wR6 ga3_6 3 #[.int .i64 2, .int .i64 1] at qa3_6;obtain ⟨A6_4, c6_4, e4, ho6_4⟩ := hd 4 (by omega)
   obtain ⟨A6_5, c6_5, e5, ho6_5⟩ := hd 5 (by omega)
   obtain ⟨A6_6, c6_6, e6, ho6_6⟩ := hd 6 (by omega)
   have e7 : val 7 = _ := hd 7 (by omega)
   have e8 : val 8 = _ := hd 8 (by omega)
   have e9 : val 9 = _ := hd 9 (by omega)
   obtain ⟨A6_10, c6_10, e10, ho6_10⟩ := hd 10 (by omega)
   have e11 : val 11 = _ := hd 11 (by omega)
   have e12 : val 12 = _ := hd 12 (by omega)
   refine EL.ends (cs := [_, _, _, _, _, _, _, _, _, _, _, _, _]) ⟨e0, e1, e2, e3, e4, e5, e6, e7, e8, e9, e10, e11, e12, trivial⟩ rfl ?_;replace hE := (hE.below hb).more hb.size;replace hr2 := own_below hr2 hb (Nat.le_refl _);replace hrA := own_below hrA hb (Nat.le_refl _);replace hS := (hS.below hb).more hb.size;have bhbw_12 := Nat.le_trans hbw.size hga3_6;replace hbw := bo_ hbw hb;clear hb;have hr6 := ho6_10;clear ho6_4 ho6_5 ho6_6 ho6_10 hR0_;refine EL.as rfl rfl (EL.nil (EX.seq (EC.seq (EC.region (EL.call (cA0 cF47) rfl (three_any _) ?_)))))
   rintro e w13 ⟨⟨vl13, va13, vp13, vk13, ua13, up13, rfl, hR⟩, hc13⟩
   refine ⟨_, rfl, ?_⟩;replace hE := (hE.below hc13).more hc13.size;replace hr2 := own_below hr2 hc13 (Nat.le_refl _);replace hrA := own_below hrA hc13 (Nat.le_refl _);replace hS := (hS.below hc13).more hc13.size;replace hr6 := own_below hr6 hc13 (Nat.le_refl _);replace hbw := bo_ hbw hc13;clear hc13;refine EL.call (cA1 cF46 rfl) rfl (lload_any _ _) ?_
   rintro e w14 ⟨rfl, hc14⟩
   refine ⟨_, rfl, ?_⟩;replace hE := (hE.below hc14).more hc14.size;replace hr2 := own_below hr2 hc14 (Nat.le_refl _);replace hrA := own_below hrA hc14 (Nat.le_refl _);replace hS := (hS.below hc14).more hc14.size;replace hr6 := own_below hr6 hc14 (Nat.le_refl _);replace hR := (hR.below hc14).more hc14.size;replace hbw := bo_ hbw hc14;clear hc14;refine EL.newS (bs_29_1 rfl) rfl ?_;intro g15 w15 q15 hb15 hg15 hl15;have bhbw_15 := Nat.le_trans hbw.size hg15;replace hE := (hE.below hb15).more hb15.size;replace hr2 := own_below hr2 hb15 (Nat.le_refl _);replace hrA := own_below hrA hb15 (Nat.le_refl _);replace hS := (hS.below hb15).more hb15.size;replace hr6 := own_below hr6 hb15 (Nat.le_refl _);replace hR := (hR.below hb15).more hb15.size;replace hbw := bo_ hbw hb15;clear hb15 hg15 hl15;refine EL.call (cA1 cF46 rfl) rfl (lload_any _ _) ?_
   rintro e w16 ⟨rfl, hc16⟩
   refine ⟨_, rfl, ?_⟩;replace q15 := q15.bl hc16;replace hE := (hE.below hc16).more hc16.size;replace hr2 := own_below hr2 hc16 (Nat.le_refl _);replace hrA := own_below hrA hc16 (Nat.le_refl _);replace hS := (hS.below hc16).more hc16.size;replace hr6 := own_below hr6 hc16 (Nat.le_refl _);replace hR := (hR.below hc16).more hc16.size;replace hbw := bo_ hbw hc16;clear hc16;refine EL.newS (bs_29_1 rfl) rfl ?_;intro g17 w17 q17 hb17 hg17 hl17;have n15_17 := q15.na hg17;have bhbw_17 := Nat.le_trans hbw.size hg17;replace q15 := q15.bl hb17;replace hE := (hE.below hb17).more hb17.size;replace hr2 := own_below hr2 hb17 (Nat.le_refl _);replace hrA := own_below hrA hb17 (Nat.le_refl _);replace hS := (hS.below hb17).more hb17.size;replace hr6 := own_below hr6 hb17 (Nat.le_refl _);replace hR := (hR.below hb17).more hb17.size;replace hbw := bo_ hbw hb17;clear hb17 hg17 hl17;refine EL.newS (bs_96_2 rfl rfl) rfl ?_;intro g18 w18 q18 hb18 hg18 hl18;have n15_18 := q15.na hg18;have n17_18 := q17.na hg18;have bhbw_18 := Nat.le_trans hbw.size hg18;replace q15 := q15.bl hb18;replace q17 := q17.bl hb18;replace hE := (hE.below hb18).more hb18.size;replace hr2 := own_below hr2 hb18 (Nat.le_refl _);replace hrA := own_below hrA hb18 (Nat.le_refl _);replace hS := (hS.below hb18).more hb18.size;replace hr6 := own_below hr6 hb18 (Nat.le_refl _);replace hR := (hR.below hb18).more hb18.size;replace hbw := bo_ hbw hb18;clear hb18 hg18 hl18;refine EL.newS (bs_22_2 rfl rfl) rfl ?_;intro g19 w19 q19 hb19 hg19 hl19;have n15_19 := q15.na hg19;have n17_19 := q17.na hg19;have n18_19 := q18.na hg19;have bhbw_19 := Nat.le_trans hbw.size hg19;replace q15 := q15.bl hb19;replace q17 := q17.bl hb19;replace q18 := q18.bl hb19;replace hE := (hE.below hb19).more hb19.size;replace hr2 := own_below hr2 hb19 (Nat.le_refl _);replace hrA := own_below hrA hb19 (Nat.le_refl _);replace hS := (hS.below hb19).more hb19.size;replace hr6 := own_below hr6 hb19 (Nat.le_refl _);replace hR := (hR.below hb19).more hb19.size;replace hbw := bo_ hbw hb19;clear hb19 hg19 hl19;have hT : RdLL evC 2 w19 w19.heap.size (.slice (some ⟨g18, 0, none⟩) 2 2) tK [.slice (some ⟨g15, 0, none⟩) 1 1, .slice (some ⟨g17, 0, none⟩) 1 1] := ⟨rfl, rd_blk (k := 2) (l := [.slice (some ⟨g15, 0, none⟩) 1 1, .slice (some ⟨g17, 0, none⟩) 1 1]) q18 rfl, fun i hi => by (have hi : i < 2 := hi); exact (match i, hi with | 0, _ => rd_blk (k := 1) (l := [.int .i64 1, .int .i64 0]) q15 rfl | 1, _ => rd_blk (k := 1) (l := [.int .i64 1, .int .i64 1]) q17 rfl)⟩
   have hJ := rd_blk (size := 1) (k := 2) (l := [.int .i64 2, .int .i64 1]) q19 rfl;refine EL.call (cA3 cF38 rfl rfl rfl) rfl (kFleet hR (Nat.le_refl _) hT hJ) ?_
   rintro e w20 ⟨⟨u20, rfl, ho20⟩, hc20⟩
   refine ⟨_, rfl, ?_⟩;have hrF := own_less ho20 hbw.size;clear ho20;replace hE := (hE.below hc20).more hc20.size;replace hr2 := own_below hr2 hc20 (Nat.le_refl _);replace hrA := own_below hrA hc20 (Nat.le_refl _);replace hS := (hS.below hc20).more hc20.size;replace hr6 := own_below hr6 hc20 (Nat.le_refl _);replace hbw := bo_ hbw hc20;clear hc20 hR;obtain ⟨AhrF, chrF, rfl, _⟩ := (Rd.of_own hrF).shape;refine EL.mv rfl rfl (EL.xt rfl rfl rfl (EL.xt rfl rfl rfl (EL.xt rfl rfl rfl (EL.xt rfl rfl rfl (EL.as rfl rfl (EL.as rfl rfl (EL.as rfl rfl (EL.as rfl rfl (EL.nil ?_)))))))));refine EX.seq (EC.seq ?_);refine EC.regionP [[], [], [1], [], [0, 1, 2, 3], [0, 1, 2, 3, 4], [0, 1, 2, 3, 4, 5], [0, 1, 2, 3, 4, 5], [0, 1, 2, 3, 4, 5], [0, 1, 2, 3, 4, 5], [0, 1, 2, 3, 4, 5, 6], [0, 1, 2, 3, 4, 5, 6, 7, 10], [0, 1, 2, 3, 4, 5, 6, 7, 8, 10, 11], [0, 1, 2, 3, 4, 5, 6, 7, 8, 9, 10, 11, 12]] 13 [] (phi (fun i_ r => match i_ with | 1 => r 1 = .slice (some ⟨g5, 0, none⟩) 4 4 | 2 => r 2 = .slice (some ⟨g5, 0, none⟩) 1 4 | 7 => r 7 = .int .i64 0 | 8 => r 8 = .int .i64 0 | 9 => r 9 = .int .i64 7 | 11 => r 11 = .int .i64 0 | 12 => r 12 = .int .i64 0 | _ => True) [(0, fun r w_ => ∃ vl va vp vk ua up, r 0 = rulesV vl va vp vk three ∧ RdRules w_ w_.heap.size vl va vp vk three ua up), (3, fun r w_ => ∃ g_, r 3 = .slice (some ⟨g_, 0, none⟩) 1 1 ∧ Blk w_ g_ 3 #[.int .i64 1] ∧ w20.heap.size ≤ g_), (4, fun r w_ => ∃ A c, r 4 = .tuple #[.slice A 0 c, .int .i64 0, .int .i64 0, .int .i64 7] ∧ w_.ownsRow w.heap.size 3 1 (.slice A 0 c) 0 []), (5, fun r w_ => ∃ A c, r 5 = .tuple #[.slice A 0 c, .int .i64 0, .int .i64 0, .int .i64 7] ∧ w_.ownsRow w.heap.size 3 1 (.slice A 0 c) 0 []), (6, fun r w_ => ∃ A c, r 6 = .slice A 0 c ∧ w_.ownsRow w.heap.size 3 1 (.slice A 0 c) 0 []), (10, fun r w_ => ∃ A c, r 10 = .slice A 0 c ∧ w_.ownsRow w.heap.size 3 1 (.slice A 0 c) 0 [])]) (by kernel_rfl) rfl rfl (phi_cons mono_th (phi_cons mono_bs (phi_cons (mono_cp (f := fun A c => .tuple #[.slice A 0 c, .int .i64 0, .int .i64 0, .int .i64 7])) (phi_cons (mono_cp (f := fun A c => .tuple #[.slice A 0 c, .int .i64 0, .int .i64 0, .int .i64 7])) (phi_cons (mono_cp (f := fun A c => .slice A 0 c)) (phi_cons (mono_cp (f := fun A c => .slice A 0 c)) (phi_nil))))))) (fun i_ hi_ => ?_) ?_
   ·match i_, hi_ with
    | 0, _ =>
     intro val w1 a hb ha hd;have ha := ha.sub (Sub.nil _);refine hs_call ha rfl rfl (cA0 cF47) (three_any _) rfl ?_
     rintro e w' ⟨⟨vl, va, vp, vk, ua, up, rfl, hR⟩, hb'⟩
     exact ⟨_, rfl, hb', ⟨vl, va, vp, vk, ua, up, rfl, hR⟩⟩
    | 1, _ =>
     intro val w1 a hb ha hd;have ha := ha.s0 (d := 1) rfl
     exact hs_val ha rfl rfl (x_move rfl) rfl rfl
    | 2, _ =>
     intro val w1 a hb ha hd;have e1 : val 1 = _ := hd 1 (memB_mem.1 rfl);have ha := ha.s1 (d := 81) rfl e1
     exact hs_val ha rfl rfl (slh_29 (hi := 1) rfl rfl (by decide)) rfl rfl
    | 3, _ =>
     intro val w1 a hb ha hd;have ha := ha.sub (Sub.nil _)
     exact hs_newS ha rfl rfl (bs_22_1 rfl) rfl (fun g w' hq _ hge => ⟨g, rfl, hq, Nat.le_trans hb.size hge⟩)
    | 4, _ =>
     intro val w1 a hb ha hd;obtain ⟨vl0_, va0_, vp0_, vk0_, ua0_, up0_, e0, hR0_⟩ := hd 0 (memB_mem.1 rfl);have e2 : val 2 = _ := hd 2 (memB_mem.1 rfl);obtain ⟨g3_, e3, q3_, h3_⟩ := hd 3 (memB_mem.1 rfl);change val 3 = _ at e3;have ha := ha.sub (Sub.ins (d := 83) (Sub.ins (d := 82) (Sub.ins (d := 80) (Sub.nil _) (dep_get rfl e0)) (dep_get rfl e2)) (dep_get rfl e3));refine hs_call ha rfl rfl (cA3 cF24 rfl rfl rfl) (kPlan1 hR0_ (Nat.le_refl _) (rd_pre (m := 1) ((hE.below hb).more hb.size) (by decide)) (rd_blk (k := 1) (l := [.int .i64 1]) q3_ rfl)) rfl ?_
     rintro e w' ⟨⟨u, rfl, ho⟩, hb'⟩
     obtain ⟨A, c9, rfl, _⟩ := (Rd.of_own ho).shape
     exact ⟨_, rfl, hb', ⟨A, c9, rfl, own_less ho (Nat.le_trans hbw.size hb.size)⟩⟩
    | 5, _ =>
     intro val w1 a hb ha hd;obtain ⟨A8_4, c8_4, e4, ho8_4⟩ := hd 4 (memB_mem.1 rfl);have ha := ha.s1 (d := 84) rfl e4
     exact hs_val ha rfl rfl (x_move rfl) ⟨A8_4, c8_4, rfl, ho8_4⟩ rfl
    | 6, _ =>
     intro val w1 a hb ha hd;obtain ⟨A8_5, c8_5, e5, ho8_5⟩ := hd 5 (memB_mem.1 rfl);have ha := ha.s1 (d := 79) rfl e5
     exact hs_val ha rfl rfl (x_extract rfl rfl) ⟨A8_5, c8_5, rfl, ho8_5⟩ rfl
    | 7, _ =>
     intro val w1 a hb ha hd;obtain ⟨A8_5, c8_5, e5, ho8_5⟩ := hd 5 (memB_mem.1 rfl);have ha := ha.s1 (d := 79) rfl e5
     exact hs_val ha rfl rfl (x_extract rfl rfl) rfl rfl
    | 8, _ =>
     intro val w1 a hb ha hd;obtain ⟨A8_5, c8_5, e5, ho8_5⟩ := hd 5 (memB_mem.1 rfl);have ha := ha.s1 (d := 79) rfl e5
     exact hs_val ha rfl rfl (x_extract rfl rfl) rfl rfl
    | 9, _ =>
     intro val w1 a hb ha hd;obtain ⟨A8_5, c8_5, e5, ho8_5⟩ := hd 5 (memB_mem.1 rfl);have ha := ha.s1 (d := 79) rfl e5
     exact hs_val ha rfl rfl (x_extract rfl rfl) rfl rfl
    | 10, _ =>
     intro val w1 a hb ha hd;obtain ⟨A8_6, c8_6, e6, ho8_6⟩ := hd 6 (memB_mem.1 rfl);have ha := ha.s1 (d := 85) rfl e6
     exact hs_val ha rfl rfl (x_assign rfl) ⟨A8_6, c8_6, rfl, ho8_6⟩ rfl
    | 11, _ =>
     intro val w1 a hb ha hd;have e7 : val 7 = _ := hd 7 (memB_mem.1 rfl);have ha := ha.s1 (d := 86) rfl e7
     exact hs_val ha rfl rfl (x_assign rfl) rfl rfl
    | 12, _ =>
     intro val w1 a hb ha hd;have e8 : val 8 = _ := hd 8 (memB_mem.1 rfl);have ha := ha.s1 (d := 87) rfl e8
     exact hs_val ha rfl rfl (x_assign rfl) rfl rfl
    | k + 13, h => exact absurd h (by omega)
   ·intro val wR8 hb halc hd
    obtain ⟨vl0_, va0_, vp0_, vk0_, ua0_, up0_, e0, hR0_⟩ := hd 0 (by omega)
    have e1 : val 1 = _ := hd 1 (by omega)
    have e2 : val 2 = _ := hd 2 (by omega)
    obtain ⟨ga3_8, e3, qa3_8, hga3_8⟩ := hd 3 (by omega)
    change val 3 = _ at e3;change Blk wR8 ga3_8 3 #[.int .i64 1] at qa3_8;obtain ⟨A8_4, c8_4, e4, ho8_4⟩ := hd 4 (by omega)
    obtain ⟨A8_5, c8_5, e5, ho8_5⟩ := hd 5 (by omega)
    obtain ⟨A8_6, c8_6, e6, ho8_6⟩ := hd 6 (by omega)
    have e7 : val 7 = _ := hd 7 (by omega)
    have e8 : val 8 = _ := hd 8 (by omega)
    have e9 : val 9 = _ := hd 9 (by omega)
    obtain ⟨A8_10, c8_10, e10, ho8_10⟩ := hd 10 (by omega)
    have e11 : val 11 = _ := hd 11 (by omega)
    have e12 : val 12 = _ := hd 12 (by omega)
    refine EL.ends (cs := [_, _, _, _, _, _, _, _, _, _, _, _, _]) ⟨e0, e1, e2, e3, e4, e5, e6, e7, e8, e9, e10, e11, e12, trivial⟩ rfl ?_;replace hE := (hE.below hb).more hb.size;replace hr2 := own_below hr2 hb (Nat.le_refl _);replace hrA := own_below hrA hb (Nat.le_refl _);replace hS := (hS.below hb).more hb.size;replace hr6 := own_below hr6 hb (Nat.le_refl _);replace hrF := own_below hrF hb (Nat.le_refl _);have bhbw_21 := Nat.le_trans hbw.size hga3_8;replace hbw := bo_ hbw hb;clear hb;have hr8 := ho8_10;clear ho8_4 ho8_5 ho8_6 ho8_10 hR0_;refine EL.as rfl rfl (EL.nil (EX.seq (EC.seq (EC.seq (EC.region ?_)))));have h1S : 1 < (slopE three lK).length := by rw [three_slop.1]; decide
    obtain ⟨bS, oS, eS, _, hsc⟩ := vals_cells usS 1 (by rw [hS.len]; exact h1S) wR8 wR8.heap.size _ _ _ hS.rd.rd
    have hSr := hS.rd.row 1 h1S;rw [← ints_flat] at hSr;obtain ⟨AS1, cS1, eS1, _⟩ := hSr.shape;rw [eS1] at hsc hSr;obtain ⟨bS1, oS1, eA1, _, hs1⟩ := ints_cells _ 1 (by rw [three_slop.2]; decide) wR8 wR8.heap.size _ _ _ hSr
    rw [three_slop.2] at hs1;obtain ⟨b2, o2, eR2, _, r0, r1⟩ := bds_cells _ 0 (by decide) wR8 wR8.heap.size _ _ _ (Rd.of_own hr2)
    obtain ⟨bA, oA, eAA, _, a0, a1, a2⟩ := brs_cells _ 0 (by decide) wR8 wR8.heap.size _ _ _ (Rd.of_own hrA)
    obtain ⟨b6, o6, eR6, _, p0⟩ := ints_cells [1, -1] 0 (by decide) wR8 wR8.heap.size _ _ _ (Rd.of_own hr6)
    obtain ⟨b6b, o6b, eR6b, _, p1⟩ := ints_cells [1, -1] 1 (by decide) wR8 wR8.heap.size _ _ _ (Rd.of_own hr6)
    obtain ⟨bF, oF, eRF, _, f0, f1⟩ := sts_cells _ 0 (by decide) wR8 wR8.heap.size _ _ _ (Rd.of_own hrF)
    obtain ⟨bFb, oFb, eRFb, _, f2, f3⟩ := sts_cells _ 1 (by decide) wR8 wR8.heap.size _ _ _ (Rd.of_own hrF)
    refine EL.mv rfl rfl ?_;refine EL.val (x_neq (r := false) rfl rfl (decide_eq_false (by decide))) rfl ?_
    refine EL.mv rfl rfl (EL.mg rfl rfl rfl rfl ?_);refine EL.valg rfl rfl (x_neq (r := false) rfl rfl (decide_eq_false (by decide))) rfl ?_
    refine EL.pf rfl rfl rfl (EL.mv rfl rfl (EL.mg rfl rfl rfl rfl ?_));refine EL.valg rfl rfl (x_neq (r := false) rfl rfl (decide_eq_false (by decide))) rfl ?_
    refine EL.pf rfl rfl rfl (EL.mv rfl rfl (EL.mg rfl rfl rfl rfl ?_));refine EL.valg rfl rfl (x_neq (r := false) rfl rfl (decide_eq_false (by decide))) rfl ?_
    refine EL.pf rfl rfl rfl (EL.mv rfl rfl (EL.mg rfl rfl rfl rfl ?_));refine EL.valg rfl rfl (x_neq (r := false) rfl rfl (decide_eq_false (by decide))) rfl ?_
    refine EL.pf rfl rfl rfl (EL.mv rfl rfl (EL.mg rfl rfl rfl rfl ?_));refine EL.valg rfl rfl (x_neq (r := false) rfl rfl (decide_eq_false (by decide))) rfl ?_
    refine EL.pf rfl rfl rfl (EL.mv rfl rfl (EL.mg rfl rfl rfl rfl ?_));refine EL.valg rfl rfl (x_neq (r := false) rfl rfl (decide_eq_false (by decide))) rfl ?_
    refine EL.pf rfl rfl rfl (EL.mv rfl rfl (EL.mg rfl rfl rfl rfl ?_));refine EL.valg rfl rfl (x_neq (r := false) rfl rfl (decide_eq_false (by decide))) rfl ?_
    refine EL.pf rfl rfl rfl (EL.mv rfl rfl (EL.mg rfl rfl rfl rfl (EL.valg rfl rfl (ln_60 rfl) rfl ?_)));refine EL.valg rfl rfl (x_neq (r := false) rfl rfl (decide_eq_false (by decide))) rfl ?_
    refine EL.pf rfl rfl rfl (EL.mv rfl rfl (EL.mg rfl rfl rfl rfl (EL.valg rfl rfl (ln_32 rfl) rfl ?_)));refine EL.valg rfl rfl (x_neq (r := false) rfl rfl (decide_eq_false (by decide))) rfl ?_
    refine EL.pf rfl rfl rfl (EL.mv rfl rfl (EL.mg rfl rfl rfl rfl (EL.valg rfl rfl (ln_25 rfl) rfl ?_)));refine EL.valg rfl rfl (x_neq (r := false) rfl rfl (decide_eq_false (by rw [three_slop.1]; decide))) rfl ?_
    refine EL.pf rfl rfl rfl (EL.mv rfl rfl (EL.mg rfl rfl rfl rfl ?_));refine EL.valg rfl rfl (ix_25 (k := 1) (by show some (Value.slice AS _ _) = _; rw [eS]) rfl (h1S)) rfl ?_
    refine EL.valg rfl rfl (ld_22 rfl hsc) rfl (EL.valg rfl rfl (ln_22 rfl) rfl ?_);refine EL.valg rfl rfl (x_neq (r := false) rfl rfl (decide_eq_false (by rw [three_slop.2]; decide))) rfl ?_
    refine EL.pf rfl rfl rfl (EL.mv rfl rfl (EL.mg rfl rfl rfl rfl (EL.valg rfl rfl (ln_22 rfl) rfl ?_)));refine EL.valg rfl rfl (x_neq (r := false) rfl rfl (decide_eq_false (by decide))) rfl ?_
    refine EL.pf rfl rfl rfl (EL.mv rfl rfl (EL.mg rfl rfl rfl rfl (EL.valg rfl rfl (ln_65 rfl) rfl ?_)));refine EL.valg rfl rfl (x_neq (r := false) rfl rfl (decide_eq_false (by decide))) rfl ?_
    refine EL.pf rfl rfl rfl (EL.nil (EX.seq (EC.no rfl (EC.skip (EX.seq (EC.seq (EC.region (EL.mv rfl rfl ?_))))))));refine EL.val (ix_60 (k := 0) (by show some (Value.slice A2_7 _ _) = _; rw [eR2]) rfl (by decide)) rfl ?_
    refine EL.val (ld_24 rfl r0 r1) rfl (EL.val (bd_24_0_1 rfl rfl) rfl ?_);refine EL.val (eql_24 (r := true) rfl rfl (by decide)) rfl ?_
    refine EL.mv rfl rfl (EL.mg rfl rfl rfl rfl ?_);refine EL.valg rfl rfl (ix_32 (k := 0) (by show some (Value.slice AhrA _ _) = _; rw [eAA]) rfl (by decide)) rfl ?_
    refine EL.valg rfl rfl (ld_46 rfl a0 a1 a2) rfl (EL.valg rfl rfl (bd_46_0_2 rfl rfl) rfl ?_);refine EL.valg rfl rfl (x_eqBr (r := true) rfl rfl (by decide)) rfl ?_
    refine EL.pt rfl rfl rfl (EL.mv rfl rfl (EL.mg rfl rfl rfl rfl ?_));refine EL.valg rfl rfl (ix_25 (k := 1) (by show some (Value.slice AS _ _) = _; rw [eS]) rfl (h1S)) rfl ?_
    refine EL.valg rfl rfl (ld_22 rfl hsc) rfl ?_;refine EL.valg rfl rfl (ix_22 (k := 1) (by show some (Value.slice AS1 _ _) = _; rw [eA1]) rfl (by rw [three_slop.2]; decide)) rfl ?_
    refine EL.valg rfl rfl (ld_3 rfl hs1) rfl ?_;refine EL.valg rfl rfl (x_eql (r := true) rfl rfl (decide_eq_true (by decide))) rfl ?_
    refine EL.pt rfl rfl rfl (EL.mv rfl rfl (EL.mg rfl rfl rfl rfl ?_));refine EL.valg rfl rfl (x_eql (r := true) rfl rfl (decide_eq_true (by decide))) rfl ?_
    refine EL.pt rfl rfl rfl (EL.mv rfl rfl (EL.mg rfl rfl rfl rfl ?_));refine EL.valg rfl rfl (x_eql (r := true) rfl rfl (decide_eq_true (by decide))) rfl ?_
    refine EL.pt rfl rfl rfl (EL.mv rfl rfl (EL.mg rfl rfl rfl rfl ?_));refine EL.valg rfl rfl (x_eql (r := true) rfl rfl (decide_eq_true (by decide))) rfl ?_
    refine EL.pt rfl rfl rfl (EL.mv rfl rfl (EL.mg rfl rfl rfl rfl ?_));refine EL.valg rfl rfl (ix_22 (k := 0) (by show some (Value.slice A6_10 _ _) = _; rw [eR6]) rfl (by decide)) rfl ?_
    refine EL.valg rfl rfl (ld_3 rfl p0) rfl ?_;refine EL.valg rfl rfl (x_eql (r := true) rfl rfl (decide_eq_true (by decide))) rfl ?_
    refine EL.pt rfl rfl rfl (EL.mv rfl rfl (EL.mg rfl rfl rfl rfl ?_));refine EL.valg rfl rfl (ix_22 (k := 1) (by show some (Value.slice A6_10 _ _) = _; rw [eR6b]) rfl (by decide)) rfl ?_
    refine EL.valg rfl rfl (ld_3 rfl p1) rfl ?_;refine EL.valg rfl rfl (x_eql (r := true) rfl rfl (decide_eq_true (by decide))) rfl ?_
    refine EL.pt rfl rfl rfl (EL.mv rfl rfl (EL.mg rfl rfl rfl rfl ?_));refine EL.valg rfl rfl (x_eql (r := true) rfl rfl (decide_eq_true (by decide))) rfl ?_
    refine EL.pt rfl rfl rfl (EL.mv rfl rfl (EL.mg rfl rfl rfl rfl ?_));refine EL.valg rfl rfl (ix_65 (k := 0) (by show some (Value.slice AhrF _ _) = _; rw [eRF]) rfl (by decide)) rfl ?_
    refine EL.valg rfl rfl (ld_70 rfl f0 f1) rfl (EL.valg rfl rfl (bd_70_1 rfl) rfl ?_);refine EL.valg rfl rfl (eql_70 (r := true) rfl rfl (by decide)) rfl ?_
    refine EL.pt rfl rfl rfl (EL.mv rfl rfl (EL.mg rfl rfl rfl rfl ?_));refine EL.valg rfl rfl (ix_65 (k := 1) (by show some (Value.slice AhrF _ _) = _; rw [eRFb]) rfl (by decide)) rfl ?_
    refine EL.valg rfl rfl (ld_70 rfl f2 f3) rfl (EL.valg rfl rfl (bd_70_1 rfl) rfl ?_);refine EL.valg rfl rfl (eql_70 (r := true) rfl rfl (by decide)) rfl ?_
    refine EL.pt rfl rfl rfl (EL.as rfl rfl (EL.nil (EX.seq (EC.ret ?_))))
    exact EX.done (res1 rfl rfl) ⟨rfl, hbw⟩
def u8s (l : List Int) : List Value := l.map fun x => .int .u8 x
def e2C (p : Int × Int) : List Value := [.int .u8 p.1, .int .u8 p.2]
def k3C (p : Int × Int × Int) : List Value := [.int .u8 p.1, .int .u8 p.2.1, .int .u8 p.2.2]
def byte (x : Int) : Prop := 0 ≤ x ∧ x ≤ 255
def e2s (l : List (Int × Int)) : List Value := l.flatMap e2C
def k3s (l : List (Int × Int × Int)) : List Value := l.flatMap k3C
theorem wrap_byte {x : Int} (h : byte x) : IntKind.i64.wrap x = x := IntWalk.i64_in _ ⟨by have := h.1; omega, by have := h.2; omega⟩
/-- the bytes of rules, their kinds and events -/
structure Sml where
 b : Nat → Int
 kinds : List (Int × Int × Int)
 events : List (Int × Int)
structure SmlOk (x : Sml) : Prop where
 b : ∀ j, j < 38 → byte (x.b j)
 k : ∀ p ∈ x.kinds, byte p.1 ∧ byte p.2.1 ∧ byte p.2.2
 e : ∀ p ∈ x.events, byte p.1 ∧ byte p.2
def smC (b : Nat → Int) (vk ve : Value) : List Value := (List.range 38).map (fun j => .int .u8 (b j)) ++ [vk, ve]
theorem smC_len (b : Nat → Int) (vk ve : Value) : (smC b vk ve).length = 40 := by simp [smC]
theorem smC_at (b : Nat → Int) (vk ve : Value) {j : Nat} (h : j < 38) : (smC b vk ve)[j]? = some (.int .u8 (b j)) := by simp [smC, h, List.getElem?_append_left]
theorem smC_k (b : Nat → Int) (vk ve : Value) : (smC b vk ve)[38]? = some vk := by simp [smC]
theorem smC_e (b : Nat → Int) (vk ve : Value) : (smC b vk ve)[39]? = some ve := by simp [smC]
def jobsL (l : List Int) (m : Nat) : List Int := (l.take m).map fun x => x.tmod 4
def smEv (K : Nat) (p : Int × Int) : Ev := if p.1.tmod 2 = 1 ∧ 0 < K then ⟨2, p.2.tmod K⟩ else ⟨1, p.2.tmod 4⟩
def smHist (K : Nat) (l : List (Int × Int)) : List Ev := (l.take 30).map (smEv K)
theorem e2C_len (p : Int × Int) : (e2C p).length = 2 := rfl
theorem k3C_len (p : Int × Int × Int) : (k3C p).length = 3 := rfl
theorem e2s_len (l : List (Int × Int)) : (e2s l).length = l.length * 2 := flat_len e2C_len l
theorem k3s_len (l : List (Int × Int × Int)) : (k3s l).length = l.length * 3 := flat_len k3C_len l
theorem u8s_len (l : List Int) : (u8s l).length = l.length := by simp [u8s]
theorem e2s_cells (l : List (Int × Int)) (k : Nat) (hk : k < l.length) (w : World) (B : Nat) (A : Option Addr) (n c : Nat) (hr : Rd w B 2 (.slice A n c) n (e2s l)) :
  ∃ b off, A = some ⟨b, off, none⟩ ∧ b < B ∧ w.cell? ⟨b, off + k * 2, none⟩ = some (.int .u8 (l.getD k (0, 0)).1) ∧ w.cell? ⟨b, off + k * 2 + 1, none⟩ = some (.int .u8 (l.getD k (0, 0)).2) := by
 have hl : n * 2 = l.length * 2 := by rw [← hr.len, e2s_len]
 obtain ⟨b, off, rfl, hb, hc⟩ := hr.at_ (by omega)
 have e : l.getD k (0, 0) = l[k] := by simp [hk]
 rw [e];have g := fun j hj => flat_get e2C_len l k hk j hj
 exact ⟨b, off, rfl, hb, hc (k * 2) _ (g 0 (by omega)), hc (k * 2 + 1) _ (g 1 (by omega))⟩
theorem k3s_cells (l : List (Int × Int × Int)) (k : Nat) (hk : k < l.length) (w : World) (B : Nat) (A : Option Addr) (n c : Nat) (hr : Rd w B 3 (.slice A n c) n (k3s l)) :
  ∃ b off, A = some ⟨b, off, none⟩ ∧ b < B ∧ w.cell? ⟨b, off + k * 3, none⟩ = some (.int .u8 (l.getD k (0, 0, 0)).1) ∧ w.cell? ⟨b, off + k * 3 + 1, none⟩ = some (.int .u8 (l.getD k (0, 0, 0)).2.1) ∧ w.cell? ⟨b, off + k * 3 + 2, none⟩ = some (.int .u8 (l.getD k (0, 0, 0)).2.2) := by
 have hl : n * 3 = l.length * 3 := by rw [← hr.len, k3s_len]
 obtain ⟨b, off, rfl, hb, hc⟩ := hr.at_ (by omega)
 have e : l.getD k (0, 0, 0) = l[k] := by simp [hk]
 rw [e];have g := fun j hj => flat_get k3C_len l k hk j hj
 exact ⟨b, off, rfl, hb, hc (k * 3) _ (g 0 (by omega)), hc (k * 3 + 1) _ (g 1 (by omega)), hc (k * 3 + 2) _ (g 2 (by omega))⟩
theorem u8s_cells (l : List Int) (k : Nat) (hk : k < l.length) (w : World) (B : Nat) (A : Option Addr) (n c : Nat) (hr : Rd w B 1 (.slice A n c) n (u8s l)) :
  ∃ b off, A = some ⟨b, off, none⟩ ∧ b < B ∧ w.cell? ⟨b, off + k, none⟩ = some (.int .u8 (l.getD k 0)) := by
 have hl : n * 1 = l.length * 1 := by have h1 := hr.len; rw [u8s_len] at h1; omega
 obtain ⟨b, off, rfl, hb, hc⟩ := hr.at_ (by omega)
 have e : l.getD k 0 = l[k] := by simp [hk]
 rw [e]
 exact ⟨b, off, rfl, hb, hc k _ (by simp [u8s, hk])⟩
theorem take_map_succ {α β : Type} (f : α → β) (l : List α) (d : α) {i : Nat} (h : i < l.length) : (l.take (i + 1)).map f = (l.take i).map f ++ [f (l.getD i d)] := by
 rw [List.take_succ_eq_append_getElem h, List.map_append, getD_in h]
 rfl
section
variable {n : Nat} {σ : Sg} {w : World} {dst : Option Tmp} {ty : TypeId} {pos : String} {af : Array Edge} {g : Option (Nat × Bool)} {x y z : Operand} {at' : Array TypeId}
theorem cF15 : cF 15 := fun _ _ => by simp [go_sem]
theorem cF12 : cF 12 := fun _ _ => by simp [go_sem]
end
section
variable {n : Nat} {σ : Sg} {w : World} {dst : Option Tmp} {ty : TypeId} {pos : String} {af : Array Edge} {g : Option (Nat × Bool)} {x y z : Operand} {at' : Array TypeId}
theorem bs_65_0 (a : Act) (_ : Env n σ a) : (execOp a.eval ⟨dst, .buildSlice 65 0 #[], ty, pos, af, g⟩).run Try.prog w = .ok (.value (.slice (some ⟨w.heap.size, 0, none⟩) 0 0)) (w.alloc (.cells #[] 70)) := by
 simp only [execOp]
 go_simp
end
section
variable {n : Nat} {σ : Sg} {w : World} {dst : Option Tmp} {ty : TypeId} {pos : String} {af : Array Edge} {g : Option (Nat × Bool)} {x y z : Operand} {at' : Array TypeId}
theorem slh_22 {b o m c hi : Nat} (hx : evS σ x = some (.slice (some ⟨b, o, none⟩) m c)) (hh : evS σ y = some (.int .i64 (hi : Int))) (h2 : hi ≤ c) : Gives Try.prog n σ w ⟨dst, .slice 22 x none (some y) none, ty, pos, af, g⟩ (.slice (some ⟨b, o, none⟩) hi c) := fun a ha => by
 have k1 : (0 : Int) ≤ (hi : Int) := Int.natCast_nonneg _;have k3 : (hi : Int) ≤ (c : Int) := by omega
 simp only [execOp, Option.map_some, Option.map_none, ha.eval hx, ha.eval hh]
 by_cases e : c = 0
 ·subst e; obtain rfl : hi = 0 := by omega
  simp [go_sem]
 ·simp [go_sem, k1, k3, h2, e]
end
section
variable {n : Nat} {σ : Sg} {w : World} {dst : Option Tmp} {ty : TypeId} {pos : String} {af : Array Edge} {g : Option (Nat × Bool)} {x y z : Operand} {at' : Array TypeId}
theorem ld_96 {b o : Nat} {v0 : Value} (hx : evS σ x = some (.pointer (some ⟨b, o, none⟩))) (c0 : w.cell? ⟨b, o, none⟩ = some v0) : Gives Try.prog n σ w ⟨dst, .load 96 x, ty, pos, af, g⟩ (v0) := fun a ha => by
 simp only [execOp, ha.eval hx]
 simp [go_sem, c0]
theorem clv_71_0_1_2 {xf x0 : Operand} {v0 p0 p1 : Value} (hf : evS σ xf = some (.func (.func 71) #[] #[p0, p1])) (h0 : evS σ x0 = some v0) (a : Act) (ha : Env n σ a) : (execOp a.eval ⟨dst, .call { callee := .value xf, args := #[x0], argTypes := at' }, ty, pos, af, g⟩).run Try.prog w = .ok (.enter 71 #[v0, p0, p1]) w := by
 simp only [execOp, resolve, List.map_toArray, List.map_cons, List.map_nil, ha.eval hf, ha.eval h0]
 simp [go_sem, Deferred.ofValue]
theorem cF89 : cF 89 := fun _ _ => by simp [go_sem]
theorem bx_96 {v0 : Value} (hx : evS σ x = some (v0)) (h1 : v0.oneCell' = true) (a : Act) (ha : Env n σ a) : (execOp a.eval ⟨dst, .box 96 x, ty, pos, af, g⟩).run Try.prog w = .ok (.value (.pointer (some ⟨w.heap.size, 0, none⟩))) (w.alloc (.cells #[v0] 96)) := by
 simp only [execOp, ha.eval hx]
 cases v0 <;> first | (simp [Value.oneCell'] at h1; done) | simp [go_sem, Value.cells]
theorem mf_71_0_2 {x0 x1 : Operand} {v0 v1 : Value} (h0 : evS σ x0 = some v0) (h1 : evS σ x1 = some v1) : Gives Try.prog n σ w ⟨dst, .makeFunc (.func 71) #[] #[x0, x1], ty, pos, af, g⟩ (.func (.func 71) #[] #[v0, v1]) := fun a ha => by
 simp only [execOp, List.map_toArray, List.map_cons, List.map_nil, ha.eval h0, ha.eval h1]
 simp [go_sem]
theorem cF70 : cF 70 := fun _ _ => by simp [go_sem]
end
section
variable {n : Nat} {σ : Sg} {w : World} {dst : Option Tmp} {ty : TypeId} {pos : String} {af : Array Edge} {g : Option (Nat × Bool)} {x y z : Operand} {at' : Array TypeId}
theorem neq_70 {a0 a1 b0 b1 : Int} {r : Bool} (hx : evS σ x = some (.agg #[.int .i64 a0, .int .i64 a1])) (hy : evS σ y = some (.agg #[.int .i64 b0, .int .i64 b1])) (hc : decide (¬ (a0 = b0 ∧ a1 = b1)) = r) : Gives Try.prog n σ w ⟨dst, .binOp .neq 70 x y 70, ty, pos, af, g⟩ (.bool r) := fun a ha => by
 subst hc
 simp only [execOp, ha.eval hx, ha.eval hy]
 go_simp
 repeat' split
 all_goals simp_all
theorem bs_96_0 (a : Act) (_ : Env n σ a) : (execOp a.eval ⟨dst, .buildSlice 96 0 #[], ty, pos, af, g⟩).run Try.prog w = .ok (.value (.slice (some ⟨w.heap.size, 0, none⟩) 0 0)) (w.alloc (.cells #[] 29)) := by
 simp only [execOp]
 go_simp
theorem bs_96_1 {x0 : Operand} {A0 : Option Addr} {m0 c0 : Nat} (h0 : evS σ x0 = some (.slice A0 m0 c0)) (a : Act) (ha : Env n σ a) : (execOp a.eval ⟨dst, .buildSlice 96 1 #[(0, x0)], ty, pos, af, g⟩).run Try.prog w = .ok (.value (.slice (some ⟨w.heap.size, 0, none⟩) 1 1)) (w.alloc (.cells #[.slice A0 m0 c0] 29)) := by
 simp only [execOp, List.map_toArray, List.map_cons, List.map_nil, ha.eval h0]
 go_simp
end
section
variable {n : Nat} {σ : Sg} {w : World} {dst : Option Tmp} {ty : TypeId} {pos : String} {af : Array Edge} {g : Option (Nat × Bool)} {x y z : Operand} {at' : Array TypeId}
theorem cF39 : cF 39 := fun _ _ => by simp [go_sem]
theorem cF40 : cF 40 := fun _ _ => by simp [go_sem]
end
section
variable {n : Nat} {σ : Sg} {w : World} {dst : Option Tmp} {ty : TypeId} {pos : String} {af : Array Edge} {g : Option (Nat × Bool)} {x y z : Operand} {at' : Array TypeId}
theorem ix_79 {b o m c k : Nat} (hx : evS σ x = some (.slice (some ⟨b, o, none⟩) m c)) (hy : evS σ y = some (.int .i64 (k : Int))) (hk : k < m) : Gives Try.prog n σ w ⟨dst, .indexAddr 79 x y, ty, pos, af, g⟩ (.pointer (some ⟨b, o + k, none⟩)) := fun a ha => by
 have k0 : (0 : Int) ≤ (k : Int) := Int.natCast_nonneg _;have k1 : (k : Int) < (m : Int) := by omega
 simp only [execOp, ha.eval hx, ha.eval hy]
 simp [go_sem, k0, k1]
theorem cv_5_3 {m : Int} (hx : evS σ x = some (.int .u8 m)) (hm : IntKind.i64.wrap m = m) : Gives Try.prog n σ w ⟨dst, .convert 5 3 x, ty, pos, af, g⟩ (.int .i64 m) := fun a ha => by
 simp only [execOp, ha.eval hx]
 simp [go_sem, hm]
theorem ln_79 {A : Option Addr} {m c : Nat} (hx : evS σ x = some (.slice A m c)) : Gives Try.prog n σ w ⟨dst, .call { callee := .builtin .len, args := #[x], argTypes := #[79] }, ty, pos, af, g⟩ (.int .i64 (m : Int)) := fun a ha => by
 simp only [execOp, resolve, List.map_toArray, List.map_cons, List.map_nil, ha.eval hx]
 simp [go_sem]
theorem ld_5 {b o : Nat} {v0 : Value} (hx : evS σ x = some (.pointer (some ⟨b, o, none⟩))) (c0 : w.cell? ⟨b, o, none⟩ = some v0) : Gives Try.prog n σ w ⟨dst, .load 5 x, ty, pos, af, g⟩ (v0) := fun a ha => by
 simp only [execOp, ha.eval hx]
 simp [go_sem, c0]
theorem ix_76 {b o m c k : Nat} (hx : evS σ x = some (.slice (some ⟨b, o, none⟩) m c)) (hy : evS σ y = some (.int .i64 (k : Int))) (hk : k < m) : Gives Try.prog n σ w ⟨dst, .indexAddr 76 x y, ty, pos, af, g⟩ (.pointer (some ⟨b, o + k * 2, none⟩)) := fun a ha => by
 have k0 : (0 : Int) ≤ (k : Int) := Int.natCast_nonneg _;have k1 : (k : Int) < (m : Int) := by omega
 simp only [execOp, ha.eval hx, ha.eval hy]
 simp [go_sem, k0, k1]
theorem fa_78_5 {b o : Nat} (hx : evS σ x = some (.pointer (some ⟨b, o, none⟩))) : Gives Try.prog n σ w ⟨dst, .fieldAddr 78 x 5, ty, pos, af, g⟩ (.pointer (some ⟨b, o + 39, none⟩)) := fun a ha => by
 simp only [execOp, ha.eval hx]
 simp [go_sem]
theorem ld_76 {b o : Nat} {v0 : Value} (hx : evS σ x = some (.pointer (some ⟨b, o, none⟩))) (c0 : w.cell? ⟨b, o, none⟩ = some v0) : Gives Try.prog n σ w ⟨dst, .load 76 x, ty, pos, af, g⟩ (v0) := fun a ha => by
 simp only [execOp, ha.eval hx]
 simp [go_sem, c0]
theorem ln_76 {A : Option Addr} {m c : Nat} (hx : evS σ x = some (.slice A m c)) : Gives Try.prog n σ w ⟨dst, .call { callee := .builtin .len, args := #[x], argTypes := #[76] }, ty, pos, af, g⟩ (.int .i64 (m : Int)) := fun a ha => by
 simp only [execOp, resolve, List.map_toArray, List.map_cons, List.map_nil, ha.eval hx]
 simp [go_sem]
theorem ld_74 {b o : Nat} {v0 v1 : Value} (hx : evS σ x = some (.pointer (some ⟨b, o, none⟩))) (c0 : w.cell? ⟨b, o, none⟩ = some v0) (c1 : w.cell? ⟨b, o + 1, none⟩ = some v1) : Gives Try.prog n σ w ⟨dst, .load 74 x, ty, pos, af, g⟩ (.agg #[v0, v1]) := fun a ha => by
 simp only [execOp, ha.eval hx]
 simp [go_sem, c0, c1]
theorem al_74 (a : Act) (_ : Env n σ a) : (execOp a.eval ⟨dst, .alloc 74, ty, pos, af, g⟩).run Try.prog w = .ok (.value (.pointer (some ⟨w.heap.size, 0, none⟩))) (w.alloc (.cells #[.int .u8 0, .int .u8 0] 74)) := by
 simp only [execOp]
 simp [go_sem]
theorem sz_74 : (Try.prog.info? 74).map (·.size) = some 2 := by kernel_rfl
theorem ixa_74 {b o k : Nat} (hx : evS σ x = some (.pointer (some ⟨b, o, none⟩))) (hy : evS σ y = some (.int .i64 (k : Int))) (hk : k < 2) : Gives Try.prog n σ w ⟨dst, .indexAddr 74 x y, ty, pos, af, g⟩ (.pointer (some ⟨b, o + k, none⟩)) := fun a ha => by
 have k0 : (0 : Int) ≤ (k : Int) := Int.natCast_nonneg _;have k1 : (k : Int) < 2 := by omega
 simp only [execOp, ha.eval hx, ha.eval hy]
 simp [go_sem, k0, k1]
end
end Go.Proofs.Ytdkedhcbdbpccaa
