/- X41: what WashBetterProof needs of them (merged by trimpack.py). -/
import Derived.Test.YtdkedhcbdbpccaaBetterT5
set_option linter.unusedVariables false
set_option linter.unusedSimpArgs false
namespace Go.Proofs.Ytdkedhcbdbpccaa
open Go Go.RowKit
theorem ints_gt2 {t : List Int} {k : Nat} (h : k < t.length) : (ints t)[k]? = some (.int .i64 (t.getD k 0)) := by simp [ints, h]
theorem short_ok {r : Rules} (h : RulesOk r) : Short r := ⟨by have := h.n8; omega, by have := h.al; have := h.n8; omega, by have := h.pl; have := h.n8; omega, by have := h.k4; omega⟩
theorem aud_len {r : Rules} (h : RulesOk r) {l : List Ev} (hl : l.length ≤ 30) : (audE r l).length ≤ 240 := by
 unfold audE
 split
 ·have h1 := audL_len (ru := r) (l := l) (n := l.length)
  have h2 := h.n8;have h3 : l.length * r.levels.length ≤ 30 * 8 := Nat.mul_le_mul hl h2
  omega
 ·simp
theorem inF_step {x : Br} {B : List Br} {k : Nat} (b : Bool) (h : (inF x B k || (decide ((B.getD k ⟨0, 0, false⟩).event = x.event) && decide ((B.getD k ⟨0, 0, false⟩).cargo = x.cargo) && ((B.getD k ⟨0, 0, false⟩).sure || !x.sure))) = b) : b = inF x B (k + 1) := h.symm
theorem mono_rd2 {i z n : Nat} {xs : List Value} : Mono fun r w => ∃ v, r i = v ∧ Rd w w.heap.size z v n xs := fun _ _ _ hb ⟨v, h1, h2⟩ => ⟨v, h1, (h2.below hb).more hb.size⟩
theorem tupA2 {a b c d : Value} (h : Value.tuple #[a, b] = .tuple #[c, d]) : a = c := by
 injection h with h
 have h := congrArg Array.toList h
 simp at h
 exact h.1
theorem tupA3 {a b c d e f_ : Value} (h : Value.tuple #[a, b, e] = .tuple #[c, d, f_]) : a = c := by
 injection h with h
 have h := congrArg Array.toList h
 simp at h
 exact h.1
theorem Few_to {ru : Rules} {ua up : List Value} {vl va vp vk : Value} {w : World} {B : Nat} (hr : RdRules w B vl va vp vk ru ua up) (hB : B ≤ w.heap.size) (hs : Short ru) {l : List Ev} {v : Value} (hl : Rd w B 2 v l.length (evsC l)) (hn : l.length ≤ 1048576) {js : List Int} {vj : Value} (hv : Rd w B 1 vj js.length (ints js)) (hj : js.length ≤ 10) :
  Calls Try.prog 25 #[rulesV vl va vp vk ru, v, vj] w fun e w' => (∃ (A : Option Addr) (c : Nat) (ws : List Int), e = .returned (.tuple #[.slice A ws.length c, .int .i64 ((atS ru l js) : Nat), .int .i64 (codeS ru l js)]) ∧ w'.ownsRow w.heap.size 3 1 (.slice A ws.length c) ws.length (ints ws) ∧ FewW ru l js ws) ∧ Below w.heap.size w w' := (Fewest_any hr hB hs hl hn hv (by omega)).mono fun e w' ⟨⟨u, ws, h1, h2, h3, h4⟩, hb⟩ => by
 obtain ⟨A, c, rfl, _⟩ := (Rd.of_own h2).shape
 exact ⟨⟨A, c, ws, h1, h2, h3⟩, hb⟩
theorem Aud_to {ru : Rules} {ua up : List Value} {vl va vp vk : Value} {w : World} {B : Nat} (hr : RdRules w B vl va vp vk ru ua up) (hB : B ≤ w.heap.size) (hs : Short ru) {l : List Ev} (hz : refE ru l = 0) {v : Value} (hl : Rd w B 2 v l.length (evsC l)) (hn : l.length ≤ 1048576) :
  Calls Try.prog 13 #[rulesV vl va vp vk ru, v] w fun e w' => (∃ A c, e = .returned (.tuple #[.slice A (audE ru l).length c, .int .i64 0]) ∧ w'.ownsRow w.heap.size 46 3 (.slice A (audE ru l).length c) (audE ru l).length (brsC (audE ru l))) ∧ Below w.heap.size w w' := (Audit_any hr hB hs hl hn).mono fun e w' ⟨⟨u, h1, h2⟩, hb⟩ => by
 rw [hz] at h1;obtain ⟨A, c, rfl, _⟩ := (Rd.of_own h2).shape
 exact ⟨⟨A, c, h1, h2⟩, hb⟩
set_option maxRecDepth 100000 in
set_option maxHeartbeats 2000000 in
theorem better_law {x : Sml} (hok : SmlOk x) {vks ves vtd : Value} {w : World} {B : Nat} (hkr : Rd w B 3 vks x.kinds.length (k3s x.kinds)) (her : Rd w B 2 ves x.events.length (e2s x.events)) (hB : B ≤ w.heap.size) {td : List Int} (htr : Rd w B 1 vtd td.length (u8s td)) (htb : ∀ i, i < td.length → byte (td.getD i 0)) {y0 y1 y2 y3 : Int} (hy0 : byte y0) (hy1 : byte y1) (hy2_ : byte y2) (hy3 : byte y3) :
  Calls Try.prog 5 #[.agg (smC x.b vks ves).toArray, vtd, .agg #[.int .u8 y0, .int .u8 y1, .int .u8 y2, .int .u8 y3]] w fun e w' => e = .returned (.bool true) ∧ Below w.heap.size w w' := by
 obtain ⟨Atd, ctd, rfl, _⟩ := htr.shape;have hbw := Below.refl w.heap.size w;have hy1b := hy1
 unfold byte at hy1b
 refine EC.enter 264 Try.func5 rfl rfl rfl (EC.seq (EC.region (EL.newP (x_boxA rfl) rfl ?_)));intro g1 w1 q1 hb1 hg1 hl1;have bhbw_1 := Nat.le_trans hbw.size hg1;replace hbw := bo_ hbw hb1;clear hb1 hg1 hl1;refine EL.newP (bx_72 rfl) rfl ?_;intro g2 w2 q2 hb2 hg2 hl2;have n1_2 := q1.na hg2;have bhbw_2 := Nat.le_trans hbw.size hg2;replace q1 := q1.bl hb2;replace hbw := bo_ hbw hb2;clear hb2 hg2 hl2;refine EL.as rfl rfl (EL.nil (EX.seq (EC.seq (EC.region (EL.val (x_loadA rfl (q1.range (PartAt.whole _)) Try.underlying78 rfl (sz_78.trans (congrArg some (smC_len _ _ _).symm))) rfl (EL.call (cA1 cF29 rfl) rfl (smRules_any hok (hkr.below (hbw.mono hB)) (Nat.le_trans hB hbw.size)) ?_))))))
 rintro e w3 ⟨⟨vl, va, vp, vk, ua, up, rfl, hR⟩, hc3⟩
 refine ⟨_, rfl, ?_⟩;replace q1 := q1.bl hc3;replace q2 := q2.bl hc3;replace hbw := bo_ hbw hc3;clear hc3;obtain ⟨ru, hru⟩ : ∃ ru, ru = smRules x := ⟨_, rfl⟩;have hrb := sm_rules hok;have hs := sm_short hok;have h4 : (smRules x).levels.length = 4 := rfl;have hhl := sm_hist hok;have hz := sm_ref hok;have hro := rules_ok hrb;have hal := sm_allow hok;have hpw := sm_power hok;rw [← hru] at hR hrb hs h4 hhl hz hro hal hpw ⊢;clear hru;obtain ⟨Al, cl, rfl, _⟩ := hR.levels.shape;obtain ⟨Aa, ca, rfl, _⟩ := hR.allow.rd.shape;obtain ⟨Ap, cp, rfl, _⟩ := hR.apart.rd.shape;obtain ⟨Ak, ck, rfl, _⟩ := hR.kinds.shape
 unfold rulesV
 have hbo := Below.refl w3.heap.size w3;have hbo0 := hbw.size;refine EL.newP al_28 rfl ?_;intro g4 w4 q4 hb4 hg4 hl4;have n1_4 := q1.na hg4;have n2_4 := q2.na hg4;have bhbw_4 := Nat.le_trans hbw.size hg4;have bhbo_4 := Nat.le_trans hbo.size hg4;replace q1 := q1.bl hb4;replace q2 := q2.bl hb4;replace hbw := bo_ hbw hb4;replace hbo := bo_ hbo hb4;clear hb4 hg4 hl4;refine EL.store rfl rfl q4 sz_28 rfl rfl rfl rfl ?_;intro w5 hq5 hg5;replace q1 := q1.gr hg5 n1_4;replace q2 := q2.gr hg5 n2_4;replace hbw := below_store hbw hg5 bhbw_4;replace hbo := below_store hbo hg5 bhbo_4;replace q4 := hq5;clear hg5 hq5;refine EL.nil (EX.seq (EC.seq (EC.region (EL.val (x_loadA rfl (q1.range (PartAt.whole _)) Try.underlying78 rfl (sz_78.trans (congrArg some (smC_len _ _ _).symm))) rfl (EL.val (ld_28 rfl (q4.at (j := 0) rfl) (q4.at (j := 1) rfl) (q4.at (j := 2) rfl) (q4.at (j := 3) rfl) (q4.at (j := 4) rfl) (q4.at (j := 5) rfl)) rfl ?_)))));refine EL.call (cA2 cF30 rfl rfl) rfl (history_any hok (her.below (hbw.mono hB)) (Nat.le_trans hB hbw.size) (by have := hro.k4; omega)) ?_
 rintro e w6 ⟨⟨vx, rfl, hx⟩, hc6⟩
 refine ⟨_, rfl, ?_⟩;replace hx := own_less hx hbw.size;replace q1 := q1.bl hc6;replace q2 := q2.bl hc6;replace q4 := q4.bl hc6;replace hbw := bo_ hbw hc6;replace hbo := bo_ hbo hc6;clear hc6
 generalize smHist ru.kinds.length x.events = l at hhl hz hx
 obtain ⟨hl30, hlv⟩ := hhl;have hwee := sm_wee hro hl30;obtain ⟨Ax, cx, rfl, _⟩ := (Rd.of_own hx).shape;refine EL.mv rfl rfl ?_;refine EL.call (cA2 cF31 rfl rfl) rfl (jobs_any (htr.below (hbw.mono hB)) (Nat.le_trans hB hbw.size) htb 8 (by omega)) ?_
 rintro e w7 ⟨⟨vj, rfl, hjs⟩, hc7⟩
 refine ⟨_, rfl, ?_⟩;replace hjs := own_less hjs hbw.size;replace q1 := q1.bl hc7;replace q2 := q2.bl hc7;replace q4 := q4.bl hc7;replace hx := own_below hx hc7 (Nat.le_refl _);replace hbw := bo_ hbw hc7;replace hbo := bo_ hbo hc7;clear hc7;have hj0 := sm_jobs (m := 8) h4 htb (by omega)
 generalize jobsL td 8 = js at hj0 hjs
 obtain ⟨hj8, hjE⟩ := hj0;obtain ⟨Aj, cj, rfl, _⟩ := (Rd.of_own hjs).shape;refine EL.as rfl rfl (EL.as rfl rfl (EL.nil (EX.seq (EC.seq ?_))));have lt_1 := q1.lt;have lt_2 := q2.lt;have lt_4 := q4.lt;refine EC.regionP [[], [], [1], [], [1, 2, 3], [0, 1, 2, 3, 4], [0, 1, 2, 3, 4, 5], [0, 1, 2, 3, 4, 5, 6], [0, 1, 2, 3, 4, 5, 6], [0, 1, 2, 3, 4, 5, 6], [0, 1, 2, 3, 4, 5, 6, 7], [0, 1, 2, 3, 4, 5, 6, 7, 8, 10], [0, 1, 2, 3, 4, 5, 6, 7, 8, 9, 10, 11]] 13 [] (phi (fun i_ r => match i_ with | 0 => r 0 = .agg #[.slice Al ru.levels.length cl, .int .i64 ru.fade.lo, .int .i64 ru.fade.hi, .slice Aa ru.allow.length ca, .slice Ap ru.apart.length cp, .slice Ak ru.kinds.length ck] | 1 => r 1 = .slice Ax l.length cx | 3 => r 3 = .slice Aj js.length cj | 8 => r 8 = .int .i64 ((atS ru l js) : Nat) | 9 => r 9 = .int .i64 (codeS ru l js) | 11 => r 11 = .int .i64 ((atS ru l js) : Nat) | 12 => r 12 = .int .i64 (codeS ru l js) | _ => True) [(2, fun r w_ => ∃ v, r 2 = v ∧ Rd w_ w_.heap.size 2 v l.length (evsC l)), (4, fun r w_ => ∃ v, r 4 = v ∧ Rd w_ w_.heap.size 1 v js.length (ints js)), (5, fun r w_ => ∃ (A : Option Addr) (c : Nat) (ws : List Int), r 5 = .tuple #[.slice A ws.length c, .int .i64 ((atS ru l js) : Nat), .int .i64 (codeS ru l js)] ∧ w_.ownsRow 0 3 1 (.slice A ws.length c) ws.length (ints ws) ∧ FewW ru l js ws), (6, fun r w_ => ∃ (A : Option Addr) (c : Nat) (ws : List Int), r 5 = .tuple #[.slice A ws.length c, .int .i64 ((atS ru l js) : Nat), .int .i64 (codeS ru l js)] ∧ r 6 = .tuple #[.slice A ws.length c, .int .i64 ((atS ru l js) : Nat), .int .i64 (codeS ru l js)]), (7, fun r w_ => ∃ (A : Option Addr) (c : Nat) (ws : List Int), r 5 = .tuple #[.slice A ws.length c, .int .i64 ((atS ru l js) : Nat), .int .i64 (codeS ru l js)] ∧ r 7 = .slice A ws.length c), (10, fun r w_ => ∃ (A : Option Addr) (c : Nat) (ws : List Int), r 5 = .tuple #[.slice A ws.length c, .int .i64 ((atS ru l js) : Nat), .int .i64 (codeS ru l js)] ∧ r 10 = .slice A ws.length c)]) (by kernel_rfl) rfl rfl (phi_cons mono_rd2 (phi_cons mono_rd2 (phi_cons (fun _ _ _ hb ⟨A, c, ws, h1, h2, h3⟩ => ⟨A, c, ws, h1, own_below h2 hb (Nat.le_refl _), h3⟩) (phi_cons (fun _ _ _ _ h => h) (phi_cons (fun _ _ _ _ h => h) (phi_cons (fun _ _ _ _ h => h) (phi_nil))))))) (fun i_ hi_ => ?_) ?_
 ·match i_, hi_ with
  | 0, _ =>
   intro val w1 a hb ha hd;have ha := ha.s0 (d := 7) rfl
   exact hs_val ha rfl rfl (ld_28 rfl ((q4.below hb q4.lt).at (j := 0) rfl) ((q4.below hb q4.lt).at (j := 1) rfl) ((q4.below hb q4.lt).at (j := 2) rfl) ((q4.below hb q4.lt).at (j := 3) rfl) ((q4.below hb q4.lt).at (j := 4) rfl) ((q4.below hb q4.lt).at (j := 5) rfl)) rfl rfl
  | 1, _ =>
   intro val w1 a hb ha hd;have ha := ha.s0 (d := 8) rfl
   exact hs_val ha rfl rfl (x_move rfl) rfl rfl
  | 2, _ =>
   intro val w1 a hb ha hd;have e1 : val 1 = _ := hd 1 (memB_mem.1 rfl);have ha := ha.s1 (d := 36) rfl e1;refine hs_call ha rfl rfl (cA1 cF15 rfl) (events_any (Rd.of_own (own_below hx hb (Nat.le_refl _))) (Nat.le_refl _) (by omega)) rfl ?_
   rintro e w' ⟨⟨v2, rfl, hJ⟩, hb'⟩
   exact ⟨_, rfl, hb', ⟨v2, rfl, Rd.of_own hJ⟩⟩
  | 3, _ =>
   intro val w1 a hb ha hd;have ha := ha.s0 (d := 9) rfl
   exact hs_val ha rfl rfl (x_move rfl) rfl rfl
  | 4, _ =>
   intro val w1 a hb ha hd;have e3 : val 3 = _ := hd 3 (memB_mem.1 rfl);have ha := ha.s1 (d := 38) rfl e3;refine hs_call ha rfl rfl (cA1 cF23 rfl) (numbers_any (Rd.of_own (own_below hjs hb (Nat.le_refl _))) (Nat.le_refl _) (by omega)) rfl ?_
   rintro e w' ⟨⟨v2, rfl, hJ⟩, hb'⟩
   exact ⟨_, rfl, hb', ⟨v2, rfl, Rd.of_own hJ⟩⟩
  | 5, _ =>
   intro val w1 a hb ha hd;have e0 : val 0 = _ := hd 0 (memB_mem.1 rfl);obtain ⟨v2_, e2, hJ2_⟩ := hd 2 (memB_mem.1 rfl);obtain ⟨v4_, e4, hJ4_⟩ := hd 4 (memB_mem.1 rfl);have ha := ha.sub (Sub.ins (d := 39) (Sub.ins (d := 37) (Sub.ins (d := 35) (Sub.nil _) (dep_get rfl e0)) (dep_get rfl e2)) (dep_get rfl e4));refine hs_call ha rfl rfl (cA3 cF25 rfl rfl rfl) (Few_to ((hR.below (hbo.trans (hb.mono hbo.size))).more (Nat.le_trans hbo.size hb.size)) (Nat.le_refl _) hs hJ2_ (by omega) hJ4_ (by omega)) rfl ?_
   rintro e w' ⟨⟨A, c, ws, rfl, ho, hf⟩, hb'⟩
   exact ⟨_, rfl, hb', ⟨A, c, ws, rfl, own_less ho (Nat.zero_le _), hf⟩⟩
  | 6, _ =>
   intro val w1 a hb ha hd;obtain ⟨Af, cf, wf, e5, hbf, hff⟩ := hd 5 (memB_mem.1 rfl);have ha := ha.s1 (d := 40) rfl e5
   exact hs_val ha rfl rfl (x_move rfl) ⟨_, _, _, e5, rfl⟩ rfl
  | 7, _ =>
   intro val w1 a hb ha hd;obtain ⟨A6_, c6_, u6_, x6_, e6⟩ := hd 6 (memB_mem.1 rfl);have ha := ha.s1 (d := 34) rfl e6
   exact hs_val ha rfl rfl (x_extract rfl rfl) ⟨_, _, _, x6_, rfl⟩ rfl
  | 8, _ =>
   intro val w1 a hb ha hd;obtain ⟨A6_, c6_, u6_, x6_, e6⟩ := hd 6 (memB_mem.1 rfl);have ha := ha.s1 (d := 34) rfl e6
   exact hs_val ha rfl rfl (x_extract rfl rfl) rfl rfl
  | 9, _ =>
   intro val w1 a hb ha hd;obtain ⟨A6_, c6_, u6_, x6_, e6⟩ := hd 6 (memB_mem.1 rfl);have ha := ha.s1 (d := 34) rfl e6
   exact hs_val ha rfl rfl (x_extract rfl rfl) rfl rfl
  | 10, _ =>
   intro val w1 a hb ha hd;obtain ⟨A7_, c7_, u7_, x7_, e7⟩ := hd 7 (memB_mem.1 rfl);have ha := ha.s1 (d := 41) rfl e7
   exact hs_val ha rfl rfl (x_assign rfl) ⟨_, _, _, x7_, rfl⟩ rfl
  | 11, _ =>
   intro val w1 a hb ha hd;have e8 : val 8 = _ := hd 8 (memB_mem.1 rfl);have ha := ha.s1 (d := 42) rfl e8
   exact hs_val ha rfl rfl (x_assign rfl) rfl rfl
  | 12, _ =>
   intro val w1 a hb ha hd;have e9 : val 9 = _ := hd 9 (memB_mem.1 rfl);have ha := ha.s1 (d := 43) rfl e9
   exact hs_val ha rfl rfl (x_assign rfl) rfl rfl
  | k + 13, h => exact absurd h (by omega)
 ·intro val wR3 hb halc hd
  have e0 : val 0 = _ := hd 0 (by omega)
  have e1 : val 1 = _ := hd 1 (by omega)
  obtain ⟨v2_, e2, hJ2_⟩ := hd 2 (by omega)
  have e3 : val 3 = _ := hd 3 (by omega)
  obtain ⟨v4_, e4, hJ4_⟩ := hd 4 (by omega)
  obtain ⟨Af, cf, wf, e5, hbf, hff⟩ := hd 5 (by omega)
  obtain ⟨A6_, c6_, u6_, x6_, e6⟩ := hd 6 (by omega)
  obtain ⟨A7_, c7_, u7_, x7_, e7⟩ := hd 7 (by omega)
  have e8 : val 8 = _ := hd 8 (by omega)
  have e9 : val 9 = _ := hd 9 (by omega)
  obtain ⟨A10_, c10_, u10_, x10_, e10⟩ := hd 10 (by omega)
  have e11 : val 11 = _ := hd 11 (by omega)
  have e12 : val 12 = _ := hd 12 (by omega)
  have y6_ := tupA3 (e5.symm.trans x6_);rw [← y6_] at e6;have y7_ := tupA3 (e5.symm.trans x7_);rw [← y7_] at e7;have y10_ := tupA3 (e5.symm.trans x10_);rw [← y10_] at e10;refine EL.ends (cs := [_, _, _, _, _, _, _, _, _, _, _, _, _]) ⟨e0, e1, e2, e3, e4, e5, e6, e7, e8, e9, e10, e11, e12, trivial⟩ rfl ?_;replace q1 := q1.bl hb;replace q2 := q2.bl hb;replace q4 := q4.bl hb;replace hx := own_below hx hb (Nat.le_refl _);replace hjs := own_below hjs hb (Nat.le_refl _);replace hbw := bo_ hbw hb;replace hbo := bo_ hbo hb;clear hb;clear hJ2_ hJ4_;refine EL.nil (EX.seq (EC.seq ?_));have lt_1 := q1.lt;have lt_2 := q2.lt;have lt_4 := q4.lt;refine EC.regionP [[], [], [1], [0, 1, 2], [0, 1, 2, 3], [0, 1, 2, 3, 4], [0, 1, 2, 3, 4], [0, 1, 2, 3, 4, 5], [0, 1, 2, 3, 4, 5, 6, 7]] 9 [] (phi (fun i_ r => match i_ with | 0 => r 0 = .agg #[.slice Al ru.levels.length cl, .int .i64 ru.fade.lo, .int .i64 ru.fade.hi, .slice Aa ru.allow.length ca, .slice Ap ru.apart.length cp, .slice Ak ru.kinds.length ck] | 1 => r 1 = .slice Ax l.length cx | 6 => r 6 = .int .i64 0 | 8 => r 8 = .int .i64 0 | _ => True) [(2, fun r w_ => ∃ v, r 2 = v ∧ Rd w_ w_.heap.size 2 v l.length (evsC l)), (3, fun r w_ => ∃ (A : Option Addr) (c : Nat), r 3 = .tuple #[.slice A (audE ru l).length c, .int .i64 0] ∧ w_.ownsRow 0 46 3 (.slice A (audE ru l).length c) (audE ru l).length (brsC (audE ru l))), (4, fun r w_ => ∃ (A : Option Addr) (c : Nat), r 3 = .tuple #[.slice A (audE ru l).length c, .int .i64 0] ∧ r 4 = .tuple #[.slice A (audE ru l).length c, .int .i64 0]), (5, fun r w_ => ∃ (A : Option Addr) (c : Nat), r 3 = .tuple #[.slice A (audE ru l).length c, .int .i64 0] ∧ r 5 = .slice A (audE ru l).length c), (7, fun r w_ => ∃ (A : Option Addr) (c : Nat), r 3 = .tuple #[.slice A (audE ru l).length c, .int .i64 0] ∧ r 7 = .slice A (audE ru l).length c)]) (by kernel_rfl) rfl rfl (phi_cons mono_rd2 (phi_cons (fun _ _ _ hb ⟨A, c, h1, h2⟩ => ⟨A, c, h1, own_below h2 hb (Nat.le_refl _)⟩) (phi_cons (fun _ _ _ _ h => h) (phi_cons (fun _ _ _ _ h => h) (phi_cons (fun _ _ _ _ h => h) (phi_nil)))))) (fun i_ hi_ => ?_) ?_
  ·match i_, hi_ with
   | 0, _ =>
    intro val w1 a hb ha hd;have ha := ha.s0 (d := 7) rfl
    exact hs_val ha rfl rfl (ld_28 rfl ((q4.below hb q4.lt).at (j := 0) rfl) ((q4.below hb q4.lt).at (j := 1) rfl) ((q4.below hb q4.lt).at (j := 2) rfl) ((q4.below hb q4.lt).at (j := 3) rfl) ((q4.below hb q4.lt).at (j := 4) rfl) ((q4.below hb q4.lt).at (j := 5) rfl)) rfl rfl
   | 1, _ =>
    intro val w1 a hb ha hd;have ha := ha.s0 (d := 8) rfl
    exact hs_val ha rfl rfl (x_move rfl) rfl rfl
   | 2, _ =>
    intro val w1 a hb ha hd;have e1 : val 1 = _ := hd 1 (memB_mem.1 rfl);have ha := ha.s1 (d := 46) rfl e1;refine hs_call ha rfl rfl (cA1 cF15 rfl) (events_any (Rd.of_own (own_below hx hb (Nat.le_refl _))) (Nat.le_refl _) (by omega)) rfl ?_
    rintro e w' ⟨⟨v2, rfl, hJ⟩, hb'⟩
    exact ⟨_, rfl, hb', ⟨v2, rfl, Rd.of_own hJ⟩⟩
   | 3, _ =>
    intro val w1 a hb ha hd;have e0 : val 0 = _ := hd 0 (memB_mem.1 rfl);obtain ⟨v2_, e2, hJ2_⟩ := hd 2 (memB_mem.1 rfl);have ha := ha.s2 (d := 47) (e := 45) rfl e2 rfl e0;refine hs_call ha rfl rfl (cA2 cF13 rfl rfl) (Aud_to ((hR.below (hbo.trans (hb.mono hbo.size))).more (Nat.le_trans hbo.size hb.size)) (Nat.le_refl _) hs hz hJ2_ (by omega)) rfl ?_
    rintro e w' ⟨⟨A, c, rfl, ho⟩, hb'⟩
    exact ⟨_, rfl, hb', ⟨A, c, rfl, own_less ho (Nat.zero_le _)⟩⟩
   | 4, _ =>
    intro val w1 a hb ha hd;obtain ⟨Au, cu, e3, hbu⟩ := hd 3 (memB_mem.1 rfl);have ha := ha.s1 (d := 48) rfl e3
    exact hs_val ha rfl rfl (x_move rfl) ⟨_, _, e3, rfl⟩ rfl
   | 5, _ =>
    intro val w1 a hb ha hd;obtain ⟨A4_, c4_, x4_, e4⟩ := hd 4 (memB_mem.1 rfl);have ha := ha.s1 (d := 44) rfl e4
    exact hs_val ha rfl rfl (x_extract rfl rfl) ⟨_, _, x4_, rfl⟩ rfl
   | 6, _ =>
    intro val w1 a hb ha hd;obtain ⟨A4_, c4_, x4_, e4⟩ := hd 4 (memB_mem.1 rfl);have ha := ha.s1 (d := 44) rfl e4
    exact hs_val ha rfl rfl (x_extract rfl rfl) rfl rfl
   | 7, _ =>
    intro val w1 a hb ha hd;obtain ⟨A5_, c5_, x5_, e5⟩ := hd 5 (memB_mem.1 rfl);have ha := ha.s1 (d := 49) rfl e5
    exact hs_val ha rfl rfl (x_assign rfl) ⟨_, _, x5_, rfl⟩ rfl
   | 8, _ =>
    intro val w1 a hb ha hd;have e6 : val 6 = _ := hd 6 (memB_mem.1 rfl);have ha := ha.s1 (d := 50) rfl e6
    exact hs_val ha rfl rfl (x_assign rfl) rfl rfl
   | k + 9, h => exact absurd h (by omega)
  ·intro val wR4 hb halc hd
   have e0 : val 0 = _ := hd 0 (by omega)
   have e1 : val 1 = _ := hd 1 (by omega)
   obtain ⟨v2_, e2, hJ2_⟩ := hd 2 (by omega)
   obtain ⟨Au, cu, e3, hbu⟩ := hd 3 (by omega)
   obtain ⟨A4_, c4_, x4_, e4⟩ := hd 4 (by omega)
   obtain ⟨A5_, c5_, x5_, e5⟩ := hd 5 (by omega)
   have e6 : val 6 = _ := hd 6 (by omega)
   obtain ⟨A7_, c7_, x7_, e7⟩ := hd 7 (by omega)
   have e8 : val 8 = _ := hd 8 (by omega)
   have y4_ := tupA2 (e3.symm.trans x4_);rw [← y4_] at e4;have y5_ := tupA2 (e3.symm.trans x5_);rw [← y5_] at e5;have y7_ := tupA2 (e3.symm.trans x7_);rw [← y7_] at e7;refine EL.ends (cs := [_, _, _, _, _, _, _, _, _]) ⟨e0, e1, e2, e3, e4, e5, e6, e7, e8, trivial⟩ rfl ?_;replace q1 := q1.bl hb;replace q2 := q2.bl hb;replace q4 := q4.bl hb;replace hx := own_below hx hb (Nat.le_refl _);replace hjs := own_below hjs hb (Nat.le_refl _);replace hbf := own_below hbf hb (Nat.le_refl _);replace hbw := bo_ hbw hb;replace hbo := bo_ hbo hb;clear hb;clear hJ2_;refine EL.nil (EX.seq ?_);refine EC.cutD [6, 51, 52, 53, 54, 55, 56, 57, 58, 59, 60] (fun _ : Unit => []) (fun _ W => wR4 = W) ?_ ?_
   ·
    refine EC.seq (EC.region (EL.mv rfl rfl ?_));refine EL.val (x_neq (r := false) rfl rfl (decide_eq_false (fun h => h rfl))) rfl ?_
    refine EL.mv rfl rfl (EL.mg rfl rfl rfl rfl ?_)
    rcases code_two hz hjE with hcd | hcd
    ·
     refine EL.valg rfl rfl (x_neq (r := false) rfl rfl (decide_eq_false (by rw [hcd]; decide))) rfl ?_
     refine EL.mg rfl rfl rfl rfl (EL.skip rfl rfl rfl rfl (EL.skip rfl rfl rfl rfl (EL.valg rfl rfl (x_pick_f rfl rfl) rfl (EL.pf rfl rfl rfl (EL.nil (EX.seq (EC.no rfl (EC.skip ?_))))))))
     exact EX.cutE () trivial (by repeat first | with_reducible exact (Sub.refl _).del _ | refine sp_ rfl ?_ | exact (Sub.refl _).del _ | refine sd_ rfl ?_ | refine sn_ ?_) rfl
    ·
     refine EL.valg rfl rfl (x_neq (r := true) rfl rfl (decide_eq_true (by rw [hcd]; decide))) rfl ?_
     refine EL.mg rfl rfl rfl rfl (EL.mg rfl rfl rfl rfl ?_);refine EL.valg rfl rfl (x_neq (r := false) rfl rfl (decide_eq_false (by rw [hcd]; decide))) rfl ?_
     refine EL.valg rfl rfl (x_pick_t rfl rfl) rfl (EL.pf rfl rfl rfl (EL.nil (EX.seq (EC.no rfl (EC.skip ?_)))))
     exact EX.cutE () trivial (by repeat first | with_reducible exact (Sub.refl _).del _ | refine sp_ rfl ?_ | exact (Sub.refl _).del _ | refine sd_ rfl ?_ | refine sn_ ?_) rfl
   ·
    rintro _ _ rfl
    refine EC.seq (EC.region (EL.val (ld_28 rfl (q4.at (j := 0) rfl) (q4.at (j := 1) rfl) (q4.at (j := 2) rfl) (q4.at (j := 3) rfl) (q4.at (j := 4) rfl) (q4.at (j := 5) rfl)) rfl ?_));have hbm := Below.refl wR4.heap.size wR4;have q1m := q1;have q2m := q2;have q4m := q4;have hxm := hx;have hjsm := hjs;have hbfm := hbf;have hbum := hbu;have hbwm := hbw;have hbom := hbo;refine EL.call (cA1 cF14 rfl) rfl (own2_any ((hR.below hbo).more hbo.size) (Nat.le_refl _) hwee) ?_
    rintro e w8 ⟨⟨vl2, va2, vp2, vk2, ub, uq, rfl, hO⟩, hc8⟩
    refine ⟨_, rfl, ?_⟩;replace q1 := q1.bl hc8;replace q2 := q2.bl hc8;replace q4 := q4.bl hc8;replace hx := own_below hx hc8 (Nat.le_refl _);replace hjs := own_below hjs hc8 (Nat.le_refl _);replace hbf := own_below hbf hc8 (Nat.le_refl _);replace hbu := own_below hbu hc8 (Nat.le_refl _);replace hbw := bo_ hbw hc8;replace hbo := bo_ hbo hc8;replace hbm := bo_ hbm hc8;clear hc8;obtain ⟨Bl, dl, rfl, _⟩ := hO.rd.levels.shape;obtain ⟨Ba, da, rfl, _⟩ := hO.rd.allow.rd.shape;obtain ⟨Bp, dp, rfl, _⟩ := hO.rd.apart.rd.shape;obtain ⟨Bk, dk, rfl, _⟩ := hO.rd.kinds.shape
    unfold rulesV
    refine EL.newP al_28 rfl ?_;intro g9 w9 q9 hb9 hg9 hl9;have n1_9 := q1.na hg9;have n2_9 := q2.na hg9;have n4_9 := q4.na hg9;have bhbw_9 := Nat.le_trans hbw.size hg9;have bhbo_9 := Nat.le_trans hbo.size hg9;have bhbm_9 := Nat.le_trans hbm.size hg9;replace q1 := q1.bl hb9;replace q2 := q2.bl hb9;replace q4 := q4.bl hb9;replace hx := own_below hx hb9 (Nat.le_refl _);replace hjs := own_below hjs hb9 (Nat.le_refl _);replace hbf := own_below hbf hb9 (Nat.le_refl _);replace hbu := own_below hbu hb9 (Nat.le_refl _);replace hO := hO.below hb9;replace hbw := bo_ hbw hb9;replace hbo := bo_ hbo hb9;replace hbm := bo_ hbm hb9;clear hb9 hg9 hl9;refine EL.store rfl rfl q9 sz_28 rfl rfl rfl rfl ?_;intro w10 hq10 hg10;replace q1 := q1.gr hg10 n1_9;replace q2 := q2.gr hg10 n2_9;replace q4 := q4.gr hg10 n4_9;replace hx := own_type hx q9 rfl hg10;replace hjs := own_type hjs q9 rfl hg10;replace hbf := own_type hbf q9 rfl hg10;replace hbu := own_type hbu q9 rfl hg10;replace hO := hO.box q9 rfl rfl rfl hg10;replace hbw := below_store hbw hg10 bhbw_9;replace hbo := below_store hbo hg10 bhbo_9;replace hbm := below_store hbm hg10 bhbm_9;replace q9 := hq10;clear hg10 hq10;refine EL.nil (EX.seq ?_);refine EC.cutD [16, 63, 64, 65, 66, 67, 68, 69, 70, 71, 72, 73, 74, 75, 76, 77, 78, 79, 80, 81, 82, 83, 84, 85, 86, 87, 88, 89, 90, 91, 92, 93, 94, 95, 96, 97, 98, 99, 100, 101] (fun _ : Nat => []) (fun k W => OwnR W wR4.heap.size (.slice Bl ru.levels.length dl) (.slice Ba ru.allow.length da) (.slice Bp ru.apart.length dp) (.slice Bk ru.kinds.length dk) { ru with kinds := kdUp ru.kinds k y1 } ub uq ∧ Blk W g9 28 #[.slice Bl ru.levels.length dl, .int .i64 ru.fade.lo, .int .i64 ru.fade.hi, .slice Ba ru.allow.length da, .slice Bp ru.apart.length dp, .slice Bk ru.kinds.length dk] ∧ Below wR4.heap.size wR4 W) ?_ ?_
    ·
     refine EC.seq (EC.region (EL.val (fa_28_4 rfl) rfl (EL.val (ld_26 rfl (q9.at (j := 5) rfl)) rfl (EL.val (ln_26 rfl) rfl ?_))))
     by_cases hk0 : 0 < ru.kinds.length
     ·
      obtain ⟨k, hk, hkK⟩ : ∃ k : Nat, y0.tmod (ru.kinds.length : Nat) = ((k : Nat) : Int) ∧ k < ru.kinds.length := ⟨(y0.tmod (ru.kinds.length : Nat)).toNat, by have := byte_rem hy0 (m := (ru.kinds.length : Nat)) (by omega); omega, by have := byte_rem hy0 (m := (ru.kinds.length : Nat)) (by omega); omega⟩
      refine EL.val (x_gtr (r := true) rfl rfl (decide_eq_true (by omega))) rfl ?_
      refine EL.nil (EX.seq (EC.yes rfl (EC.seq (EC.region ?_))));refine EL.val (ixa_72 (k := 0) rfl rfl (by omega)) rfl ?_
      refine EL.val (ld_5 rfl (q2.at (j := 0) rfl)) rfl (EL.val (cv_5_3 rfl (wrap_byte hy0)) rfl (EL.val (fa_28_4 rfl) rfl (EL.val (ld_26 rfl (q9.at (j := 5) rfl)) rfl (EL.val (ln_26 rfl) rfl ?_))));refine EL.val (x_rem rfl rfl (by omega) hk) rfl ?_
      refine EL.as rfl rfl (EL.nil (EX.seq ?_));obtain ⟨bk, ok, eBk, _, hkd⟩ := kds_cells ru.kinds k hkK w10 _ _ _ _ hO.rd.kinds;have hkq := hro.kd k;have hkw := hpw k
      unfold kdB at hkq
      simp only [Bool.and_eq_true, bdB_iff] at hkq
      have lt_1 := q1.lt;have lt_2 := q2.lt;have lt_4 := q4.lt;have lt_9 := q9.lt;refine EC.regionP [[], [0], [], [], [3], [], [3, 4, 5], [3, 4, 5, 6], [3, 4, 5, 6, 7], [3, 4, 5, 6, 7, 8], [], [10], [10, 11], [3, 4, 5, 6, 7, 8, 9, 10, 11, 12], [], [14], [], [14, 15, 16], [14, 15, 16, 17], [14, 15, 16, 17, 18], [14, 15, 16, 17, 18, 19], [], [21], [21, 22], [14, 15, 16, 17, 18, 19, 20, 21, 22, 23], [3, 4, 5, 6, 7, 8, 9, 10, 11, 12, 13, 14, 15, 16, 17, 18, 19, 20, 21, 22, 23, 24], [0, 1, 2, 3, 4, 5, 6, 7, 8, 9, 10, 11, 12, 13, 14, 15, 16, 17, 18, 19, 20, 21, 22, 23, 24, 25], [0, 1, 2, 3, 4, 5, 6, 7, 8, 9, 10, 11, 12, 13, 14, 15, 16, 17, 18, 19, 20, 21, 22, 23, 24, 25, 26], [0, 1, 2, 3, 4, 5, 6, 7, 8, 9, 10, 11, 12, 13, 14, 15, 16, 17, 18, 19, 20, 21, 22, 23, 24, 25, 26, 27]] 28 [] (phi (fun i_ r => match i_ with | 0 => r 0 = .pointer (some ⟨g9, 5, none⟩) | 1 => r 1 = .slice Bk ru.kinds.length dk | 2 => r 2 = .int .i64 (k : Nat) | 3 => r 3 = .pointer (some ⟨g9, 5, none⟩) | 4 => r 4 = .slice Bk ru.kinds.length dk | 5 => r 5 = .int .i64 (k : Nat) | 6 => r 6 = .pointer (some ⟨bk, ok + k * 5, none⟩) | 7 => r 7 = .pointer (some ⟨bk, ok + k * 5, none⟩) | 8 => r 8 = .pointer (some ⟨bk, ok + k * 5, none⟩) | 9 => r 9 = .int .i64 (ru.kinds.getD k kd0).power.lo | 10 => r 10 = .pointer (some ⟨g2, 1, none⟩) | 11 => r 11 = .int .u8 y1 | 12 => r 12 = .int .i64 y1 | 13 => r 13 = .int .i64 ((ru.kinds.getD k kd0).power.lo + y1) | 14 => r 14 = .pointer (some ⟨g9, 5, none⟩) | 15 => r 15 = .slice Bk ru.kinds.length dk | 16 => r 16 = .int .i64 (k : Nat) | 17 => r 17 = .pointer (some ⟨bk, ok + k * 5, none⟩) | 18 => r 18 = .pointer (some ⟨bk, ok + k * 5, none⟩) | 19 => r 19 = .pointer (some ⟨bk, ok + k * 5 + 1, none⟩) | 20 => r 20 = .int .i64 (ru.kinds.getD k kd0).power.hi | 21 => r 21 = .pointer (some ⟨g2, 1, none⟩) | 22 => r 22 = .int .u8 y1 | 23 => r 23 = .int .i64 y1 | 24 => r 24 = .int .i64 ((ru.kinds.getD k kd0).power.hi + y1) | 25 => r 25 = .agg #[.int .i64 ((ru.kinds.getD k kd0).power.lo + y1), .int .i64 ((ru.kinds.getD k kd0).power.hi + y1)] | 26 => r 26 = .pointer (some ⟨bk, ok + k * 5, none⟩) | 27 => r 27 = .pointer (some ⟨bk, ok + k * 5, none⟩) | _ => True) []) (by kernel_rfl) rfl rfl (phi_nil) (fun i_ hi_ => ?_) ?_
      ·match i_, hi_ with
       | 0, _ =>
        intro val w1 a hb ha hd;have ha := ha.s0 (d := 15) rfl
        exact hs_val ha rfl rfl (fa_28_4 rfl) rfl rfl
       | 1, _ =>
        intro val w1 a hb ha hd;have e0 : val 0 = _ := hd 0 (memB_mem.1 rfl);have ha := ha.s1 (d := 74) rfl e0
        exact hs_val ha rfl rfl (ld_26 rfl ((q9.below hb q9.lt).at (j := 5) rfl)) rfl rfl
       | 2, _ =>
        intro val w1 a hb ha hd;have ha := ha.s0 (d := 16) rfl
        exact hs_val ha rfl rfl (x_move rfl) rfl rfl
       | 3, _ =>
        intro val w1 a hb ha hd;have ha := ha.s0 (d := 15) rfl
        exact hs_val ha rfl rfl (fa_28_4 rfl) rfl rfl
       | 4, _ =>
        intro val w1 a hb ha hd;have e3 : val 3 = _ := hd 3 (memB_mem.1 rfl);have ha := ha.s1 (d := 77) rfl e3
        exact hs_val ha rfl rfl (ld_26 rfl ((q9.below hb q9.lt).at (j := 5) rfl)) rfl rfl
       | 5, _ =>
        intro val w1 a hb ha hd;have ha := ha.s0 (d := 16) rfl
        exact hs_val ha rfl rfl (x_move rfl) rfl rfl
       | 6, _ =>
        intro val w1 a hb ha hd;have e4 : val 4 = _ := hd 4 (memB_mem.1 rfl);have e5 : val 5 = _ := hd 5 (memB_mem.1 rfl);have ha := ha.s2 (d := 79) (e := 78) rfl e5 rfl e4
        exact hs_val ha rfl rfl (ix_26 (by show some (Value.slice Bk _ _) = _; rw [eBk]) rfl hkK) rfl rfl
       | 7, _ =>
        intro val w1 a hb ha hd;have e6 : val 6 = _ := hd 6 (memB_mem.1 rfl);have ha := ha.s1 (d := 80) rfl e6
        exact hs_val ha rfl rfl (fa_52_0 rfl) rfl rfl
       | 8, _ =>
        intro val w1 a hb ha hd;have e7 : val 7 = _ := hd 7 (memB_mem.1 rfl);have ha := ha.s1 (d := 81) rfl e7
        exact hs_val ha rfl rfl (fa_24_0 rfl) rfl rfl
       | 9, _ =>
        intro val w1 a hb ha hd;have e8 : val 8 = _ := hd 8 (memB_mem.1 rfl);have ha := ha.s1 (d := 82) rfl e8
        exact hs_val ha rfl rfl (ld_3 rfl (below_load hb hkd.c0)) rfl rfl
       | 10, _ =>
        intro val w1 a hb ha hd;have ha := ha.s0 (d := 5) rfl
        exact hs_val ha rfl rfl (ixa_72 (k := 1) rfl rfl (by omega)) rfl rfl
       | 11, _ =>
        intro val w1 a hb ha hd;have e10 : val 10 = _ := hd 10 (memB_mem.1 rfl);have ha := ha.s1 (d := 84) rfl e10
        exact hs_val ha rfl rfl (ld_5 rfl ((q2.below hb q2.lt).at (j := 1) rfl)) rfl rfl
       | 12, _ =>
        intro val w1 a hb ha hd;have e11 : val 11 = _ := hd 11 (memB_mem.1 rfl);have ha := ha.s1 (d := 85) rfl e11
        exact hs_val ha rfl rfl (cv_5_3 rfl (wrap_byte hy1)) rfl rfl
       | 13, _ =>
        intro val w1 a hb ha hd;have e9 : val 9 = _ := hd 9 (memB_mem.1 rfl);have e12 : val 12 = _ := hd 12 (memB_mem.1 rfl);have ha := ha.s2 (d := 86) (e := 83) rfl e12 rfl e9
        exact hs_val ha rfl rfl (x_add rfl rfl (IntWalk.i64_in _ ⟨by have := hkq.1; omega, by have := hkq.1; omega⟩)) rfl rfl
       | 14, _ =>
        intro val w1 a hb ha hd;have ha := ha.s0 (d := 15) rfl
        exact hs_val ha rfl rfl (fa_28_4 rfl) rfl rfl
       | 15, _ =>
        intro val w1 a hb ha hd;have e14 : val 14 = _ := hd 14 (memB_mem.1 rfl);have ha := ha.s1 (d := 88) rfl e14
        exact hs_val ha rfl rfl (ld_26 rfl ((q9.below hb q9.lt).at (j := 5) rfl)) rfl rfl
       | 16, _ =>
        intro val w1 a hb ha hd;have ha := ha.s0 (d := 16) rfl
        exact hs_val ha rfl rfl (x_move rfl) rfl rfl
       | 17, _ =>
        intro val w1 a hb ha hd;have e15 : val 15 = _ := hd 15 (memB_mem.1 rfl);have e16 : val 16 = _ := hd 16 (memB_mem.1 rfl);have ha := ha.s2 (d := 90) (e := 89) rfl e16 rfl e15
        exact hs_val ha rfl rfl (ix_26 (by show some (Value.slice Bk _ _) = _; rw [eBk]) rfl hkK) rfl rfl
       | 18, _ =>
        intro val w1 a hb ha hd;have e17 : val 17 = _ := hd 17 (memB_mem.1 rfl);have ha := ha.s1 (d := 91) rfl e17
        exact hs_val ha rfl rfl (fa_52_0 rfl) rfl rfl
       | 19, _ =>
        intro val w1 a hb ha hd;have e18 : val 18 = _ := hd 18 (memB_mem.1 rfl);have ha := ha.s1 (d := 92) rfl e18
        exact hs_val ha rfl rfl (fa_24_1 rfl) rfl rfl
       | 20, _ =>
        intro val w1 a hb ha hd;have e19 : val 19 = _ := hd 19 (memB_mem.1 rfl);have ha := ha.s1 (d := 93) rfl e19
        exact hs_val ha rfl rfl (ld_3 rfl (below_load hb hkd.c1)) rfl rfl
       | 21, _ =>
        intro val w1 a hb ha hd;have ha := ha.s0 (d := 5) rfl
        exact hs_val ha rfl rfl (ixa_72 (k := 1) rfl rfl (by omega)) rfl rfl
       | 22, _ =>
        intro val w1 a hb ha hd;have e21 : val 21 = _ := hd 21 (memB_mem.1 rfl);have ha := ha.s1 (d := 95) rfl e21
        exact hs_val ha rfl rfl (ld_5 rfl ((q2.below hb q2.lt).at (j := 1) rfl)) rfl rfl
       | 23, _ =>
        intro val w1 a hb ha hd;have e22 : val 22 = _ := hd 22 (memB_mem.1 rfl);have ha := ha.s1 (d := 96) rfl e22
        exact hs_val ha rfl rfl (cv_5_3 rfl (wrap_byte hy1)) rfl rfl
       | 24, _ =>
        intro val w1 a hb ha hd;have e20 : val 20 = _ := hd 20 (memB_mem.1 rfl);have e23 : val 23 = _ := hd 23 (memB_mem.1 rfl);have ha := ha.s2 (d := 97) (e := 94) rfl e23 rfl e20
        exact hs_val ha rfl rfl (x_add rfl rfl (IntWalk.i64_in _ ⟨by have := hkq.1; omega, by have := hkq.1; omega⟩)) rfl rfl
       | 25, _ =>
        intro val w1 a hb ha hd;have e13 : val 13 = _ := hd 13 (memB_mem.1 rfl);have e24 : val 24 = _ := hd 24 (memB_mem.1 rfl);have ha := ha.s2 (d := 98) (e := 87) rfl e24 rfl e13
        exact hs_val ha rfl rfl (bd_24_0_1 rfl rfl) rfl rfl
       | 26, _ =>
        intro val w1 a hb ha hd;have e1 : val 1 = _ := hd 1 (memB_mem.1 rfl);have e2 : val 2 = _ := hd 2 (memB_mem.1 rfl);have ha := ha.s2 (d := 76) (e := 75) rfl e2 rfl e1
        exact hs_val ha rfl rfl (ix_26 (by show some (Value.slice Bk _ _) = _; rw [eBk]) rfl hkK) rfl rfl
       | 27, _ =>
        intro val w1 a hb ha hd;have e26 : val 26 = _ := hd 26 (memB_mem.1 rfl);have ha := ha.s1 (d := 100) rfl e26
        exact hs_val ha rfl rfl (fa_52_0 rfl) rfl rfl
       | k + 28, h => exact absurd h (by omega)
      ·intro val wR10 hb halc hd
       have e0 : val 0 = _ := hd 0 (by omega)
       have e1 : val 1 = _ := hd 1 (by omega)
       have e2 : val 2 = _ := hd 2 (by omega)
       have e3 : val 3 = _ := hd 3 (by omega)
       have e4 : val 4 = _ := hd 4 (by omega)
       have e5 : val 5 = _ := hd 5 (by omega)
       have e6 : val 6 = _ := hd 6 (by omega)
       have e7 : val 7 = _ := hd 7 (by omega)
       have e8 : val 8 = _ := hd 8 (by omega)
       have e9 : val 9 = _ := hd 9 (by omega)
       have e10 : val 10 = _ := hd 10 (by omega)
       have e11 : val 11 = _ := hd 11 (by omega)
       have e12 : val 12 = _ := hd 12 (by omega)
       have e13 : val 13 = _ := hd 13 (by omega)
       have e14 : val 14 = _ := hd 14 (by omega)
       have e15 : val 15 = _ := hd 15 (by omega)
       have e16 : val 16 = _ := hd 16 (by omega)
       have e17 : val 17 = _ := hd 17 (by omega)
       have e18 : val 18 = _ := hd 18 (by omega)
       have e19 : val 19 = _ := hd 19 (by omega)
       have e20 : val 20 = _ := hd 20 (by omega)
       have e21 : val 21 = _ := hd 21 (by omega)
       have e22 : val 22 = _ := hd 22 (by omega)
       have e23 : val 23 = _ := hd 23 (by omega)
       have e24 : val 24 = _ := hd 24 (by omega)
       have e25 : val 25 = _ := hd 25 (by omega)
       have e26 : val 26 = _ := hd 26 (by omega)
       have e27 : val 27 = _ := hd 27 (by omega)
       refine EL.ends (cs := [_, _, _, _, _, _, _, _, _, _, _, _, _, _, _, _, _, _, _, _, _, _, _, _, _, _, _, _]) ⟨e0, e1, e2, e3, e4, e5, e6, e7, e8, e9, e10, e11, e12, e13, e14, e15, e16, e17, e18, e19, e20, e21, e22, e23, e24, e25, e26, e27, trivial⟩ rfl ?_;replace q1 := q1.bl hb;replace q2 := q2.bl hb;replace q4 := q4.bl hb;replace q9 := q9.bl hb;replace hx := own_below hx hb (Nat.le_refl _);replace hjs := own_below hjs hb (Nat.le_refl _);replace hbf := own_below hbf hb (Nat.le_refl _);replace hbu := own_below hbu hb (Nat.le_refl _);replace hO := hO.below hb;replace hbw := bo_ hbw hb;replace hbo := bo_ hbo hb;replace hbm := bo_ hbm hb;clear hb;have hrow := hO.kin;obtain ⟨gk, dk2, hvk, _, _⟩ := own_shapeZ hrow hk0 (by omega)
       rw [hvk] at hrow
       cases eBk.symm.trans (by injection hvk : Bk = _)
       refine EL.storeRow (l' := [.int .i64 ((ru.kinds.getD k kd0).power.lo + y1), .int .i64 ((ru.kinds.getD k kd0).power.hi + y1)]) rfl rfl hrow sz_24 rfl rfl (by rw [kdsC_len]; omega) rfl ?_
       intro ws2 hy2 hgs2;rw [Nat.zero_add, kd_up hkK, ← kdUp_len ru.kinds k y1] at hy2;have q99 := blk_grown q9 hrow rfl hgs2;have hbm9 := hbm.trans (Kp.own (S := [52]) hrow rfl (Nat.le_refl _) hbm.size hgs2).below;have hO9 := hO.setK (by rw [hvk]; rw [kdUp_len] at hy2 ⊢; exact hy2) (by rw [hvk]; exact hgs2)
       clear hO q9 hbm q1 q2 q4 hx hjs hbf hbu hbw hbo;have hO := hO9;have q9 := q99;have hbm := hbm9;clear hO9 q99 hbm9;have q1 := q1m.below hbm q1m.lt;have q2 := q2m.below hbm q2m.lt;have q4 := q4m.below hbm q4m.lt;have hx := own_below hxm hbm (Nat.le_refl _);have hjs := own_below hjsm hbm (Nat.le_refl _);have hbf := own_below hbfm hbm (Nat.le_refl _);have hbu := own_below hbum hbm (Nat.le_refl _);have hbw := hbwm.trans (hbm.mono hbwm.size);have hbo := hbom.trans (hbm.mono hbom.size);refine EL.nil ?_
       exact EX.cutE k trivial (by repeat first | with_reducible exact (Sub.refl _).del _ | refine sp_ rfl ?_ | exact (Sub.refl _).del _ | refine sd_ rfl ?_ | refine sn_ ?_) ⟨hO, q9, hbm⟩
     ·
      refine EL.val (x_gtr (r := false) rfl rfl (decide_eq_false (by omega))) rfl ?_
      refine EL.nil (EX.seq (EC.no rfl (EC.skip ?_)))
      exact EX.cutE 0 trivial (by repeat first | with_reducible exact (Sub.refl _).del _ | refine sp_ rfl ?_ | exact (Sub.refl _).del _ | refine sd_ rfl ?_ | refine sn_ ?_) ⟨by rw [kdUp_nil hk0]; exact hO, q9, hbm⟩
    ·
     clear hO q9 hbm q1 q2 q4 hx hjs hbf hbu hbw hbo
     rintro k W8 ⟨hO, q9, hbm⟩
     have q1 := q1m.below hbm q1m.lt;have q2 := q2m.below hbm q2m.lt;have q4 := q4m.below hbm q4m.lt;have hx := own_below hxm hbm (Nat.le_refl _);have hjs := own_below hjsm hbm (Nat.le_refl _);have hbf := own_below hbfm hbm (Nat.le_refl _);have hbu := own_below hbum hbm (Nat.le_refl _);have hbw := hbwm.trans (hbm.mono hbwm.size);have hbo := hbom.trans (hbm.mono hbom.size);refine EC.seq ?_;obtain ⟨pn, hpn, hpn4⟩ : ∃ n : Nat, y2.tmod 4 = ((n : Nat) : Int) ∧ n < 4 := ⟨(y2.tmod 4).toNat, by have := byte_rem hy2_ (m := 4) (by omega); omega, by have := byte_rem hy2_ (m := 4) (by omega); omega⟩
     obtain ⟨qn, hqn, hqn4⟩ : ∃ n : Nat, y3.tmod 4 = ((n : Nat) : Int) ∧ n < 4 := ⟨(y3.tmod 4).toNat, by have := byte_rem hy3 (m := 4) (by omega); omega, by have := byte_rem hy3 (m := 4) (by omega); omega⟩
     have lt_1 := q1.lt;have lt_2 := q2.lt;have lt_4 := q4.lt;have lt_9 := q9.lt;refine EC.regionP [[], [0], [0, 1], [0, 1, 2], [], [4], [4, 5], [4, 5, 6], [0, 1, 2, 3], [0, 1, 2, 3, 4, 5, 6, 7, 8]] 10 [] (phi (fun i_ r => match i_ with | 0 => r 0 = .pointer (some ⟨g2, 2, none⟩) | 1 => r 1 = .int .u8 y2 | 2 => r 2 = .int .i64 y2 | 3 => r 3 = .int .i64 (pn : Nat) | 4 => r 4 = .pointer (some ⟨g2, 3, none⟩) | 5 => r 5 = .int .u8 y3 | 6 => r 6 = .int .i64 y3 | 7 => r 7 = .int .i64 (qn : Nat) | 8 => r 8 = .int .i64 (pn : Nat) | 9 => r 9 = .int .i64 (qn : Nat) | _ => True) []) (by kernel_rfl) rfl rfl (phi_nil) (fun i_ hi_ => ?_) ?_
     ·match i_, hi_ with
      | 0, _ =>
       intro val w1 a hb ha hd;have ha := ha.s0 (d := 5) rfl
       exact hs_val ha rfl rfl (ixa_72 (k := 2) rfl rfl (by omega)) rfl rfl
      | 1, _ =>
       intro val w1 a hb ha hd;have e0 : val 0 = _ := hd 0 (memB_mem.1 rfl);have ha := ha.s1 (d := 102) rfl e0
       exact hs_val ha rfl rfl (ld_5 rfl ((q2.below hb q2.lt).at (j := 2) rfl)) rfl rfl
      | 2, _ =>
       intro val w1 a hb ha hd;have e1 : val 1 = _ := hd 1 (memB_mem.1 rfl);have ha := ha.s1 (d := 103) rfl e1
       exact hs_val ha rfl rfl (cv_5_3 rfl (wrap_byte hy2_)) rfl rfl
      | 3, _ =>
       intro val w1 a hb ha hd;have e2 : val 2 = _ := hd 2 (memB_mem.1 rfl);have ha := ha.s1 (d := 104) rfl e2
       exact hs_val ha rfl rfl (x_rem rfl rfl (by decide) hpn) rfl rfl
      | 4, _ =>
       intro val w1 a hb ha hd;have ha := ha.s0 (d := 5) rfl
       exact hs_val ha rfl rfl (ixa_72 (k := 3) rfl rfl (by omega)) rfl rfl
      | 5, _ =>
       intro val w1 a hb ha hd;have e4 : val 4 = _ := hd 4 (memB_mem.1 rfl);have ha := ha.s1 (d := 106) rfl e4
       exact hs_val ha rfl rfl (ld_5 rfl ((q2.below hb q2.lt).at (j := 3) rfl)) rfl rfl
      | 6, _ =>
       intro val w1 a hb ha hd;have e5 : val 5 = _ := hd 5 (memB_mem.1 rfl);have ha := ha.s1 (d := 107) rfl e5
       exact hs_val ha rfl rfl (cv_5_3 rfl (wrap_byte hy3)) rfl rfl
      | 7, _ =>
       intro val w1 a hb ha hd;have e6 : val 6 = _ := hd 6 (memB_mem.1 rfl);have ha := ha.s1 (d := 108) rfl e6
       exact hs_val ha rfl rfl (x_rem rfl rfl (by decide) hqn) rfl rfl
      | 8, _ =>
       intro val w1 a hb ha hd;have e3 : val 3 = _ := hd 3 (memB_mem.1 rfl);have ha := ha.s1 (d := 105) rfl e3
       exact hs_val ha rfl rfl (x_assign rfl) rfl rfl
      | 9, _ =>
       intro val w1 a hb ha hd;have e7 : val 7 = _ := hd 7 (memB_mem.1 rfl);have ha := ha.s1 (d := 109) rfl e7
       exact hs_val ha rfl rfl (x_assign rfl) rfl rfl
      | k + 10, h => exact absurd h (by omega)
     ·intro val wR11 hb halc hd
      have e0 : val 0 = _ := hd 0 (by omega)
      have e1 : val 1 = _ := hd 1 (by omega)
      have e2 : val 2 = _ := hd 2 (by omega)
      have e3 : val 3 = _ := hd 3 (by omega)
      have e4 : val 4 = _ := hd 4 (by omega)
      have e5 : val 5 = _ := hd 5 (by omega)
      have e6 : val 6 = _ := hd 6 (by omega)
      have e7 : val 7 = _ := hd 7 (by omega)
      have e8 : val 8 = _ := hd 8 (by omega)
      have e9 : val 9 = _ := hd 9 (by omega)
      refine EL.ends (cs := [_, _, _, _, _, _, _, _, _, _]) ⟨e0, e1, e2, e3, e4, e5, e6, e7, e8, e9, trivial⟩ rfl ?_;replace q1 := q1.bl hb;replace q2 := q2.bl hb;replace q4 := q4.bl hb;replace q9 := q9.bl hb;replace hx := own_below hx hb (Nat.le_refl _);replace hjs := own_below hjs hb (Nat.le_refl _);replace hbf := own_below hbf hb (Nat.le_refl _);replace hbu := own_below hbu hb (Nat.le_refl _);replace hO := hO.below hb;replace hbw := bo_ hbw hb;replace hbo := bo_ hbo hb;replace hbm := bo_ hbm hb;clear hb;refine EL.nil (EX.seq (EC.seq ?_));have hpa : pn < ru.allow.length := by rw [hro.al, h4]; exact hpn4
      have hqa : qn < (ru.allow.getD pn []).length := by rw [hro.ar pn (by omega), h4]; exact hqn4
      have hav := hro.av pn qn;have hav2 := hal pn qn;obtain ⟨ba_, oa_, eBa, _, hcA⟩ := vals_cells ub pn (by rw [hO.al.len]; exact hpa) wR11 wR11.heap.size _ _ _ hO.al.rd.rd
      have hrow0 := hO.al.rows pn hpa;change wR11.ownsRow _ _ _ _ (ru.allow.getD pn []).length (ints (ru.allow.getD pn [])) at hrow0;obtain ⟨gp, dp2, hvp, _, _⟩ := own_shapeZ hrow0 (by omega) (by omega)
      rw [hvp] at hcA hrow0;have hcq := own_cell hrow0 (ints_gt2 hqa);change _ = some (Value.int .i64 (allowAt ru pn qn)) at hcq;have lt_1 := q1.lt;have lt_2 := q2.lt;have lt_4 := q4.lt;have lt_9 := q9.lt;refine EC.regionP [[], [0], [], [0, 1, 2], [0, 1, 2, 3], [], [0, 1, 2, 3, 4, 5], [0, 1, 2, 3, 4, 5, 6], [], [8], [8, 9], [0, 1, 2, 3, 4, 5, 6, 7, 8, 9, 10], [0, 1, 2, 3, 4, 5, 6, 7, 8, 9, 10, 11], [0, 1, 2, 3, 4, 5, 6, 7, 8, 9, 10, 11, 12]] 13 [] (phi (fun i_ r => match i_ with | 0 => r 0 = .pointer (some ⟨g9, 3, none⟩) | 1 => r 1 = .slice Ba ru.allow.length da | 2 => r 2 = .int .i64 (pn : Nat) | 3 => r 3 = .pointer (some ⟨ba_, oa_ + pn, none⟩) | 4 => r 4 = .slice (some ⟨gp, 0, none⟩) (ru.allow.getD pn []).length dp2 | 5 => r 5 = .int .i64 (qn : Nat) | 6 => r 6 = .pointer (some ⟨gp, 0 + qn, none⟩) | 7 => r 7 = .int .i64 (allowAt ru pn qn) | 8 => r 8 = .pointer (some ⟨g2, 1, none⟩) | 9 => r 9 = .int .u8 y1 | 10 => r 10 = .int .i64 y1 | 11 => r 11 = .int .i64 (allowAt ru pn qn + y1) | 12 => r 12 = .pointer (some ⟨gp, 0 + qn, none⟩) | _ => True) []) (by kernel_rfl) rfl rfl (phi_nil) (fun i_ hi_ => ?_) ?_
      ·match i_, hi_ with
       | 0, _ =>
        intro val w1 a hb ha hd;have ha := ha.s0 (d := 15) rfl
        exact hs_val ha rfl rfl (fa_28_2 rfl) rfl rfl
       | 1, _ =>
        intro val w1 a hb ha hd;have e0 : val 0 = _ := hd 0 (memB_mem.1 rfl);have ha := ha.s1 (d := 110) rfl e0
        exact hs_val ha rfl rfl (ld_25 rfl ((q9.below hb q9.lt).at (j := 3) rfl)) rfl rfl
       | 2, _ =>
        intro val w1 a hb ha hd;have ha := ha.s0 (d := 17) rfl
        exact hs_val ha rfl rfl (x_move rfl) rfl rfl
       | 3, _ =>
        intro val w1 a hb ha hd;have e1 : val 1 = _ := hd 1 (memB_mem.1 rfl);have e2 : val 2 = _ := hd 2 (memB_mem.1 rfl);have ha := ha.s2 (d := 112) (e := 111) rfl e2 rfl e1
        exact hs_val ha rfl rfl (ix_25 (by show some (Value.slice Ba _ _) = _; rw [eBa]) rfl hpa) rfl rfl
       | 4, _ =>
        intro val w1 a hb ha hd;have e3 : val 3 = _ := hd 3 (memB_mem.1 rfl);have ha := ha.s1 (d := 113) rfl e3
        exact hs_val ha rfl rfl (ld_22 rfl (below_load hb hcA)) rfl rfl
       | 5, _ =>
        intro val w1 a hb ha hd;have ha := ha.s0 (d := 18) rfl
        exact hs_val ha rfl rfl (x_move rfl) rfl rfl
       | 6, _ =>
        intro val w1 a hb ha hd;have e4 : val 4 = _ := hd 4 (memB_mem.1 rfl);have e5 : val 5 = _ := hd 5 (memB_mem.1 rfl);have ha := ha.s2 (d := 115) (e := 114) rfl e5 rfl e4
        exact hs_val ha rfl rfl (ix_22 rfl rfl hqa) rfl rfl
       | 7, _ =>
        intro val w1 a hb ha hd;have e6 : val 6 = _ := hd 6 (memB_mem.1 rfl);have ha := ha.s1 (d := 116) rfl e6
        exact hs_val ha rfl rfl (ld_3 rfl (below_load hb hcq)) rfl rfl
       | 8, _ =>
        intro val w1 a hb ha hd;have ha := ha.s0 (d := 5) rfl
        exact hs_val ha rfl rfl (ixa_72 (k := 1) rfl rfl (by omega)) rfl rfl
       | 9, _ =>
        intro val w1 a hb ha hd;have e8 : val 8 = _ := hd 8 (memB_mem.1 rfl);have ha := ha.s1 (d := 118) rfl e8
        exact hs_val ha rfl rfl (ld_5 rfl ((q2.below hb q2.lt).at (j := 1) rfl)) rfl rfl
       | 10, _ =>
        intro val w1 a hb ha hd;have e9 : val 9 = _ := hd 9 (memB_mem.1 rfl);have ha := ha.s1 (d := 119) rfl e9
        exact hs_val ha rfl rfl (cv_5_3 rfl (wrap_byte hy1)) rfl rfl
       | 11, _ =>
        intro val w1 a hb ha hd;have e7 : val 7 = _ := hd 7 (memB_mem.1 rfl);have e10 : val 10 = _ := hd 10 (memB_mem.1 rfl);have ha := ha.s2 (d := 120) (e := 117) rfl e10 rfl e7
        exact hs_val ha rfl rfl (x_add rfl rfl (IntWalk.i64_in _ ⟨by omega, by omega⟩)) rfl rfl
       | 12, _ =>
        intro val w1 a hb ha hd;have e4 : val 4 = _ := hd 4 (memB_mem.1 rfl);have e5 : val 5 = _ := hd 5 (memB_mem.1 rfl);have ha := ha.s2 (d := 115) (e := 114) rfl e5 rfl e4
        exact hs_val ha rfl rfl (ix_22 rfl rfl hqa) rfl rfl
       | k + 13, h => exact absurd h (by omega)
      ·intro val wR12 hb halc hd
       have e0 : val 0 = _ := hd 0 (by omega)
       have e1 : val 1 = _ := hd 1 (by omega)
       have e2 : val 2 = _ := hd 2 (by omega)
       have e3 : val 3 = _ := hd 3 (by omega)
       have e4 : val 4 = _ := hd 4 (by omega)
       have e5 : val 5 = _ := hd 5 (by omega)
       have e6 : val 6 = _ := hd 6 (by omega)
       have e7 : val 7 = _ := hd 7 (by omega)
       have e8 : val 8 = _ := hd 8 (by omega)
       have e9 : val 9 = _ := hd 9 (by omega)
       have e10 : val 10 = _ := hd 10 (by omega)
       have e11 : val 11 = _ := hd 11 (by omega)
       have e12 : val 12 = _ := hd 12 (by omega)
       refine EL.ends (cs := [_, _, _, _, _, _, _, _, _, _, _, _, _]) ⟨e0, e1, e2, e3, e4, e5, e6, e7, e8, e9, e10, e11, e12, trivial⟩ rfl ?_;replace q1 := q1.bl hb;replace q2 := q2.bl hb;replace q4 := q4.bl hb;replace q9 := q9.bl hb;replace hx := own_below hx hb (Nat.le_refl _);replace hjs := own_below hjs hb (Nat.le_refl _);replace hbf := own_below hbf hb (Nat.le_refl _);replace hbu := own_below hbu hb (Nat.le_refl _);replace hO := hO.below hb;replace hbw := bo_ hbw hb;replace hbo := bo_ hbo hb;replace hbm := bo_ hbm hb;clear hb;have hrow : wR12.ownsRow wR4.heap.size 3 1 (.slice (some ⟨gp, 0, none⟩) (ru.allow.getD pn []).length dp2) (ru.allow.getD pn []).length (ints (ru.allow.getD pn [])) := by
        have h := hO.al.rows pn hpa;rw [hvp] at h
        exact h
       refine EL.storeRow (l' := [.int .i64 (allowAt ru pn qn + y1)]) rfl rfl hrow sz_3 rfl rfl (by rw [ints_len]; show 0 + qn + 1 ≤ _; omega) rfl ?_
       intro ws2 hy2 hgs2;rw [spl_int2 hqa] at hy2;have q99 := blk_grown q9 hrow rfl hgs2;have hbm9 := hbm.trans (Kp.own (S := [3]) hrow rfl (Nat.le_refl _) hbm.size hgs2).below;have hO9 := (show OwnR ws2 wR4.heap.size (.slice Bl ru.levels.length dl) (.slice Ba ru.allow.length da) (.slice Bp ru.apart.length dp) (.slice Bk ru.kinds.length dk) { ru with kinds := kdUp ru.kinds k y1, allow := tabSet ru.allow pn qn (allowAt ru pn qn + y1) } ub uq from hO.setA (i := pn) (row := (ru.allow.getD pn []).set qn (allowAt ru pn qn + y1)) hpa (by rw [List.length_set]) (by rw [hvp, List.length_set]; exact hy2) (by rw [hvp]; exact hgs2))
       clear hO q9 hbm q1 q2 q4 hx hjs hbf hbu hbw hbo;have hO := hO9;have q9 := q99;have hbm := hbm9;clear hO9 q99 hbm9;have q1 := q1m.below hbm q1m.lt;have q2 := q2m.below hbm q2m.lt;have q4 := q4m.below hbm q4m.lt;have hx := own_below hxm hbm (Nat.le_refl _);have hjs := own_below hjsm hbm (Nat.le_refl _);have hbf := own_below hbfm hbm (Nat.le_refl _);have hbu := own_below hbum hbm (Nat.le_refl _);have hbw := hbwm.trans (hbm.mono hbwm.size);have hbo := hbom.trans (hbm.mono hbom.size);refine EL.nil (EX.seq (EC.seq ?_));have hpb_ : qn < ru.apart.length := by rw [hro.pl, h4]; exact hqn4
       have hqb_ : pn < (ru.apart.getD qn []).length := by rw [hro.pr qn (by omega), h4]; exact hpn4
       have hpv := hro.pv qn pn;obtain ⟨bp_, op_, eBp, _, hcP⟩ := vals_cells uq qn (by rw [hO.ap.len]; exact hpb_) ws2 ws2.heap.size _ _ _ hO.ap.rd.rd
       have hrow1 := hO.ap.rows qn hpb_;change ws2.ownsRow _ _ _ _ (ru.apart.getD qn []).length (ints (ru.apart.getD qn [])) at hrow1;obtain ⟨gq, dq2, hvq, _, _⟩ := own_shapeZ hrow1 (by omega) (by omega)
       rw [hvq] at hcP hrow1;have hcp := own_cell hrow1 (ints_gt2 hqb_);change _ = some (Value.int .i64 (apartAt ru qn pn)) at hcp;have lt_1 := q1.lt;have lt_2 := q2.lt;have lt_4 := q4.lt;have lt_9 := q9.lt;refine EC.regionP [[], [0], [], [0, 1, 2], [0, 1, 2, 3], [], [], [6], [], [6, 7, 8], [6, 7, 8, 9], [], [6, 7, 8, 9, 10, 11], [6, 7, 8, 9, 10, 11, 12], [6, 7, 8, 9, 10, 11, 12, 13], [6, 7, 8, 9, 10, 11, 12, 13, 14], [0, 1, 2, 3, 4, 5, 6, 7, 8, 9, 10, 11, 12, 13, 14, 15], [0, 1, 2, 3, 4, 5, 6, 7, 8, 9, 10, 11, 12, 13, 14, 15, 16]] 17 [] (phi (fun i_ r => match i_ with | 0 => r 0 = .pointer (some ⟨g9, 4, none⟩) | 1 => r 1 = .slice Bp ru.apart.length dp | 2 => r 2 = .int .i64 (qn : Nat) | 3 => r 3 = .pointer (some ⟨bp_, op_ + qn, none⟩) | 4 => r 4 = .slice (some ⟨gq, 0, none⟩) (ru.apart.getD qn []).length dq2 | 5 => r 5 = .int .i64 (pn : Nat) | 6 => r 6 = .pointer (some ⟨g9, 4, none⟩) | 7 => r 7 = .slice Bp ru.apart.length dp | 8 => r 8 = .int .i64 (qn : Nat) | 9 => r 9 = .pointer (some ⟨bp_, op_ + qn, none⟩) | 10 => r 10 = .slice (some ⟨gq, 0, none⟩) (ru.apart.getD qn []).length dq2 | 11 => r 11 = .int .i64 (pn : Nat) | 12 => r 12 = .pointer (some ⟨gq, 0 + pn, none⟩) | 13 => r 13 = .int .i64 (apartAt ru qn pn) | 14 => r 14 = .int .i64 (apartAt ru qn pn - 1) | 15 => r 15 = .int .i64 (max 0 (apartAt ru qn pn - 1)) | 16 => r 16 = .pointer (some ⟨gq, 0 + pn, none⟩) | _ => True) []) (by kernel_rfl) rfl rfl (phi_nil) (fun i_ hi_ => ?_) ?_
       ·match i_, hi_ with
        | 0, _ =>
         intro val w1 a hb ha hd;have ha := ha.s0 (d := 15) rfl
         exact hs_val ha rfl rfl (fa_28_3 rfl) rfl rfl
        | 1, _ =>
         intro val w1 a hb ha hd;have e0 : val 0 = _ := hd 0 (memB_mem.1 rfl);have ha := ha.s1 (d := 123) rfl e0
         exact hs_val ha rfl rfl (ld_25 rfl ((q9.below hb q9.lt).at (j := 4) rfl)) rfl rfl
        | 2, _ =>
         intro val w1 a hb ha hd;have ha := ha.s0 (d := 18) rfl
         exact hs_val ha rfl rfl (x_move rfl) rfl rfl
        | 3, _ =>
         intro val w1 a hb ha hd;have e1 : val 1 = _ := hd 1 (memB_mem.1 rfl);have e2 : val 2 = _ := hd 2 (memB_mem.1 rfl);have ha := ha.s2 (d := 125) (e := 124) rfl e2 rfl e1
         exact hs_val ha rfl rfl (ix_25 (by show some (Value.slice Bp _ _) = _; rw [eBp]) rfl hpb_) rfl rfl
        | 4, _ =>
         intro val w1 a hb ha hd;have e3 : val 3 = _ := hd 3 (memB_mem.1 rfl);have ha := ha.s1 (d := 126) rfl e3
         exact hs_val ha rfl rfl (ld_22 rfl (below_load hb hcP)) rfl rfl
        | 5, _ =>
         intro val w1 a hb ha hd;have ha := ha.s0 (d := 17) rfl
         exact hs_val ha rfl rfl (x_move rfl) rfl rfl
        | 6, _ =>
         intro val w1 a hb ha hd;have ha := ha.s0 (d := 15) rfl
         exact hs_val ha rfl rfl (fa_28_3 rfl) rfl rfl
        | 7, _ =>
         intro val w1 a hb ha hd;have e6 : val 6 = _ := hd 6 (memB_mem.1 rfl);have ha := ha.s1 (d := 129) rfl e6
         exact hs_val ha rfl rfl (ld_25 rfl ((q9.below hb q9.lt).at (j := 4) rfl)) rfl rfl
        | 8, _ =>
         intro val w1 a hb ha hd;have ha := ha.s0 (d := 18) rfl
         exact hs_val ha rfl rfl (x_move rfl) rfl rfl
        | 9, _ =>
         intro val w1 a hb ha hd;have e7 : val 7 = _ := hd 7 (memB_mem.1 rfl);have e8 : val 8 = _ := hd 8 (memB_mem.1 rfl);have ha := ha.s2 (d := 131) (e := 130) rfl e8 rfl e7
         exact hs_val ha rfl rfl (ix_25 (by show some (Value.slice Bp _ _) = _; rw [eBp]) rfl hpb_) rfl rfl
        | 10, _ =>
         intro val w1 a hb ha hd;have e9 : val 9 = _ := hd 9 (memB_mem.1 rfl);have ha := ha.s1 (d := 132) rfl e9
         exact hs_val ha rfl rfl (ld_22 rfl (below_load hb hcP)) rfl rfl
        | 11, _ =>
         intro val w1 a hb ha hd;have ha := ha.s0 (d := 17) rfl
         exact hs_val ha rfl rfl (x_move rfl) rfl rfl
        | 12, _ =>
         intro val w1 a hb ha hd;have e10 : val 10 = _ := hd 10 (memB_mem.1 rfl);have e11 : val 11 = _ := hd 11 (memB_mem.1 rfl);have ha := ha.s2 (d := 134) (e := 133) rfl e11 rfl e10
         exact hs_val ha rfl rfl (ix_22 rfl rfl hqb_) rfl rfl
        | 13, _ =>
         intro val w1 a hb ha hd;have e12 : val 12 = _ := hd 12 (memB_mem.1 rfl);have ha := ha.s1 (d := 135) rfl e12
         exact hs_val ha rfl rfl (ld_3 rfl (below_load hb hcp)) rfl rfl
        | 14, _ =>
         intro val w1 a hb ha hd;have e13 : val 13 = _ := hd 13 (memB_mem.1 rfl);have ha := ha.s1 (d := 136) rfl e13
         exact hs_val ha rfl rfl (x_sub rfl rfl (IntWalk.i64_in _ ⟨by omega, by omega⟩)) rfl rfl
        | 15, _ =>
         intro val w1 a hb ha hd;have e14 : val 14 = _ := hd 14 (memB_mem.1 rfl);have ha := ha.s1 (d := 137) rfl e14
         exact hs_val ha rfl rfl (mm_max rfl rfl rfl) rfl rfl
        | 16, _ =>
         intro val w1 a hb ha hd;have e4 : val 4 = _ := hd 4 (memB_mem.1 rfl);have e5 : val 5 = _ := hd 5 (memB_mem.1 rfl);have ha := ha.s2 (d := 128) (e := 127) rfl e5 rfl e4
         exact hs_val ha rfl rfl (ix_22 rfl rfl hqb_) rfl rfl
        | k + 17, h => exact absurd h (by omega)
       ·intro val wR13 hb halc hd
        have e0 : val 0 = _ := hd 0 (by omega)
        have e1 : val 1 = _ := hd 1 (by omega)
        have e2 : val 2 = _ := hd 2 (by omega)
        have e3 : val 3 = _ := hd 3 (by omega)
        have e4 : val 4 = _ := hd 4 (by omega)
        have e5 : val 5 = _ := hd 5 (by omega)
        have e6 : val 6 = _ := hd 6 (by omega)
        have e7 : val 7 = _ := hd 7 (by omega)
        have e8 : val 8 = _ := hd 8 (by omega)
        have e9 : val 9 = _ := hd 9 (by omega)
        have e10 : val 10 = _ := hd 10 (by omega)
        have e11 : val 11 = _ := hd 11 (by omega)
        have e12 : val 12 = _ := hd 12 (by omega)
        have e13 : val 13 = _ := hd 13 (by omega)
        have e14 : val 14 = _ := hd 14 (by omega)
        have e15 : val 15 = _ := hd 15 (by omega)
        have e16 : val 16 = _ := hd 16 (by omega)
        refine EL.ends (cs := [_, _, _, _, _, _, _, _, _, _, _, _, _, _, _, _, _]) ⟨e0, e1, e2, e3, e4, e5, e6, e7, e8, e9, e10, e11, e12, e13, e14, e15, e16, trivial⟩ rfl ?_;replace q1 := q1.bl hb;replace q2 := q2.bl hb;replace q4 := q4.bl hb;replace q9 := q9.bl hb;replace hx := own_below hx hb (Nat.le_refl _);replace hjs := own_below hjs hb (Nat.le_refl _);replace hbf := own_below hbf hb (Nat.le_refl _);replace hbu := own_below hbu hb (Nat.le_refl _);replace hO := hO.below hb;replace hbw := bo_ hbw hb;replace hbo := bo_ hbo hb;replace hbm := bo_ hbm hb;clear hb;have hrow : wR13.ownsRow wR4.heap.size 3 1 (.slice (some ⟨gq, 0, none⟩) (ru.apart.getD qn []).length dq2) (ru.apart.getD qn []).length (ints (ru.apart.getD qn [])) := by
         have h := hO.ap.rows qn hpb_;rw [hvq] at h
         exact h
        refine EL.storeRow (l' := [.int .i64 (max 0 (apartAt ru qn pn - 1))]) rfl rfl hrow sz_3 rfl rfl (by rw [ints_len]; show 0 + pn + 1 ≤ _; omega) rfl ?_
        intro ws2 hy2 hgs2;rw [spl_int2 hqb_] at hy2;have q99 := blk_grown q9 hrow rfl hgs2;have hbm9 := hbm.trans (Kp.own (S := [3]) hrow rfl (Nat.le_refl _) hbm.size hgs2).below;have hO9 := (show OwnR ws2 wR4.heap.size (.slice Bl ru.levels.length dl) (.slice Ba ru.allow.length da) (.slice Bp ru.apart.length dp) (.slice Bk ru.kinds.length dk) (betR ru k pn qn y1) ub uq from hO.setP (i := qn) (row := (ru.apart.getD qn []).set pn (max 0 (apartAt ru qn pn - 1))) hpb_ (by rw [List.length_set]) (by rw [hvq, List.length_set]; exact hy2) (by rw [hvq]; exact hgs2))
        clear hO q9 hbm q1 q2 q4 hx hjs hbf hbu hbw hbo;have hO := hO9;have q9 := q99;have hbm := hbm9;clear hO9 q99 hbm9;have q1 := q1m.below hbm q1m.lt;have q2 := q2m.below hbm q2m.lt;have q4 := q4m.below hbm q4m.lt;have hx := own_below hxm hbm (Nat.le_refl _);have hjs := own_below hjsm hbm (Nat.le_refl _);have hbf := own_below hbfm hbm (Nat.le_refl _);have hbu := own_below hbum hbm (Nat.le_refl _);have hbw := hbwm.trans (hbm.mono hbwm.size);have hbo := hbom.trans (hbm.mono hbom.size);have hbet : Better ru (betR ru k pn qn y1) := bet_better hro (by omega)
        have hrb2 : rulesB (betR ru k pn qn y1) = true := bet_rules hrb hal hpw (by omega) (by omega) (by omega) (by omega)
        have hzb : refE (betR ru k pn qn y1) l = 0 := by rw [bet_ref hrb hrb2]; exact hz
        have hsb : Short (betR ru k pn qn y1) := short_ok (rules_ok hrb2);have hcov := aud_cov hbet hz hzb;have hla := aud_len hro hl30;have hlb := aud_len (rules_ok hrb2) hl30;refine EL.nil (EX.seq (EC.seq ?_));have lt_1 := q1.lt;have lt_2 := q2.lt;have lt_4 := q4.lt;have lt_9 := q9.lt;refine EC.regionP [[], [], [1], [], [1, 2, 3], [0, 1, 2, 3, 4], [0, 1, 2, 3, 4, 5], [0, 1, 2, 3, 4, 5, 6], [0, 1, 2, 3, 4, 5, 6], [0, 1, 2, 3, 4, 5, 6], [0, 1, 2, 3, 4, 5, 6, 7], [0, 1, 2, 3, 4, 5, 6, 7, 8, 10], [0, 1, 2, 3, 4, 5, 6, 7, 8, 9, 10, 11]] 13 [] (phi (fun i_ r => match i_ with | 0 => r 0 = .agg #[.slice Bl ru.levels.length dl, .int .i64 ru.fade.lo, .int .i64 ru.fade.hi, .slice Ba ru.allow.length da, .slice Bp ru.apart.length dp, .slice Bk ru.kinds.length dk] | 1 => r 1 = .slice Ax l.length cx | 3 => r 3 = .slice Aj js.length cj | 8 => r 8 = .int .i64 ((atS (betR ru k pn qn y1) l js) : Nat) | 9 => r 9 = .int .i64 (codeS (betR ru k pn qn y1) l js) | 11 => r 11 = .int .i64 ((atS (betR ru k pn qn y1) l js) : Nat) | 12 => r 12 = .int .i64 (codeS (betR ru k pn qn y1) l js) | _ => True) [(2, fun r w_ => ∃ v, r 2 = v ∧ Rd w_ w_.heap.size 2 v l.length (evsC l)), (4, fun r w_ => ∃ v, r 4 = v ∧ Rd w_ w_.heap.size 1 v js.length (ints js)), (5, fun r w_ => ∃ (A : Option Addr) (c : Nat) (ws : List Int), r 5 = .tuple #[.slice A ws.length c, .int .i64 ((atS (betR ru k pn qn y1) l js) : Nat), .int .i64 (codeS (betR ru k pn qn y1) l js)] ∧ w_.ownsRow 0 3 1 (.slice A ws.length c) ws.length (ints ws) ∧ FewW (betR ru k pn qn y1) l js ws), (6, fun r w_ => ∃ (A : Option Addr) (c : Nat) (ws : List Int), r 5 = .tuple #[.slice A ws.length c, .int .i64 ((atS (betR ru k pn qn y1) l js) : Nat), .int .i64 (codeS (betR ru k pn qn y1) l js)] ∧ r 6 = .tuple #[.slice A ws.length c, .int .i64 ((atS (betR ru k pn qn y1) l js) : Nat), .int .i64 (codeS (betR ru k pn qn y1) l js)]), (7, fun r w_ => ∃ (A : Option Addr) (c : Nat) (ws : List Int), r 5 = .tuple #[.slice A ws.length c, .int .i64 ((atS (betR ru k pn qn y1) l js) : Nat), .int .i64 (codeS (betR ru k pn qn y1) l js)] ∧ r 7 = .slice A ws.length c), (10, fun r w_ => ∃ (A : Option Addr) (c : Nat) (ws : List Int), r 5 = .tuple #[.slice A ws.length c, .int .i64 ((atS (betR ru k pn qn y1) l js) : Nat), .int .i64 (codeS (betR ru k pn qn y1) l js)] ∧ r 10 = .slice A ws.length c)]) (by kernel_rfl) rfl rfl (phi_cons mono_rd2 (phi_cons mono_rd2 (phi_cons (fun _ _ _ hb ⟨A, c, ws, h1, h2, h3⟩ => ⟨A, c, ws, h1, own_below h2 hb (Nat.le_refl _), h3⟩) (phi_cons (fun _ _ _ _ h => h) (phi_cons (fun _ _ _ _ h => h) (phi_cons (fun _ _ _ _ h => h) (phi_nil))))))) (fun i_ hi_ => ?_) ?_
        ·match i_, hi_ with
         | 0, _ =>
          intro val w1 a hb ha hd;have ha := ha.s0 (d := 15) rfl
          exact hs_val ha rfl rfl (ld_28 rfl ((q9.below hb q9.lt).at (j := 0) rfl) ((q9.below hb q9.lt).at (j := 1) rfl) ((q9.below hb q9.lt).at (j := 2) rfl) ((q9.below hb q9.lt).at (j := 3) rfl) ((q9.below hb q9.lt).at (j := 4) rfl) ((q9.below hb q9.lt).at (j := 5) rfl)) rfl rfl
         | 1, _ =>
          intro val w1 a hb ha hd;have ha := ha.s0 (d := 8) rfl
          exact hs_val ha rfl rfl (x_move rfl) rfl rfl
         | 2, _ =>
          intro val w1 a hb ha hd;have e1 : val 1 = _ := hd 1 (memB_mem.1 rfl);have ha := ha.s1 (d := 142) rfl e1;refine hs_call ha rfl rfl (cA1 cF15 rfl) (events_any (Rd.of_own (own_below hx hb (Nat.le_refl _))) (Nat.le_refl _) (by omega)) rfl ?_
          rintro e w' ⟨⟨v2, rfl, hJ⟩, hb'⟩
          exact ⟨_, rfl, hb', ⟨v2, rfl, Rd.of_own hJ⟩⟩
         | 3, _ =>
          intro val w1 a hb ha hd;have ha := ha.s0 (d := 9) rfl
          exact hs_val ha rfl rfl (x_move rfl) rfl rfl
         | 4, _ =>
          intro val w1 a hb ha hd;have e3 : val 3 = _ := hd 3 (memB_mem.1 rfl);have ha := ha.s1 (d := 144) rfl e3;refine hs_call ha rfl rfl (cA1 cF23 rfl) (numbers_any (Rd.of_own (own_below hjs hb (Nat.le_refl _))) (Nat.le_refl _) (by omega)) rfl ?_
          rintro e w' ⟨⟨v2, rfl, hJ⟩, hb'⟩
          exact ⟨_, rfl, hb', ⟨v2, rfl, Rd.of_own hJ⟩⟩
         | 5, _ =>
          intro val w1 a hb ha hd;have e0 : val 0 = _ := hd 0 (memB_mem.1 rfl);obtain ⟨v2_, e2, hJ2_⟩ := hd 2 (memB_mem.1 rfl);obtain ⟨v4_, e4, hJ4_⟩ := hd 4 (memB_mem.1 rfl);have ha := ha.sub (Sub.ins (d := 145) (Sub.ins (d := 143) (Sub.ins (d := 141) (Sub.nil _) (dep_get rfl e0)) (dep_get rfl e2)) (dep_get rfl e4));refine hs_call ha rfl rfl (cA3 cF25 rfl rfl rfl) (Few_to ((hO.below hb).rd) (Nat.le_refl _) hsb hJ2_ (by omega) hJ4_ (by omega)) rfl ?_
          rintro e w' ⟨⟨A, c, ws, rfl, ho, hf⟩, hb'⟩
          exact ⟨_, rfl, hb', ⟨A, c, ws, rfl, own_less ho (Nat.zero_le _), hf⟩⟩
         | 6, _ =>
          intro val w1 a hb ha hd;obtain ⟨Ah, ch, wh, e5, hbh, hfh⟩ := hd 5 (memB_mem.1 rfl);have ha := ha.s1 (d := 146) rfl e5
          exact hs_val ha rfl rfl (x_move rfl) ⟨_, _, _, e5, rfl⟩ rfl
         | 7, _ =>
          intro val w1 a hb ha hd;obtain ⟨A6_, c6_, u6_, x6_, e6⟩ := hd 6 (memB_mem.1 rfl);have ha := ha.s1 (d := 140) rfl e6
          exact hs_val ha rfl rfl (x_extract rfl rfl) ⟨_, _, _, x6_, rfl⟩ rfl
         | 8, _ =>
          intro val w1 a hb ha hd;obtain ⟨A6_, c6_, u6_, x6_, e6⟩ := hd 6 (memB_mem.1 rfl);have ha := ha.s1 (d := 140) rfl e6
          exact hs_val ha rfl rfl (x_extract rfl rfl) rfl rfl
         | 9, _ =>
          intro val w1 a hb ha hd;obtain ⟨A6_, c6_, u6_, x6_, e6⟩ := hd 6 (memB_mem.1 rfl);have ha := ha.s1 (d := 140) rfl e6
          exact hs_val ha rfl rfl (x_extract rfl rfl) rfl rfl
         | 10, _ =>
          intro val w1 a hb ha hd;obtain ⟨A7_, c7_, u7_, x7_, e7⟩ := hd 7 (memB_mem.1 rfl);have ha := ha.s1 (d := 147) rfl e7
          exact hs_val ha rfl rfl (x_assign rfl) ⟨_, _, _, x7_, rfl⟩ rfl
         | 11, _ =>
          intro val w1 a hb ha hd;have e8 : val 8 = _ := hd 8 (memB_mem.1 rfl);have ha := ha.s1 (d := 148) rfl e8
          exact hs_val ha rfl rfl (x_assign rfl) rfl rfl
         | 12, _ =>
          intro val w1 a hb ha hd;have e9 : val 9 = _ := hd 9 (memB_mem.1 rfl);have ha := ha.s1 (d := 149) rfl e9
          exact hs_val ha rfl rfl (x_assign rfl) rfl rfl
         | k + 13, h => exact absurd h (by omega)
        ·intro val wR14 hb halc hd
         have e0 : val 0 = _ := hd 0 (by omega)
         have e1 : val 1 = _ := hd 1 (by omega)
         obtain ⟨v2_, e2, hJ2_⟩ := hd 2 (by omega)
         have e3 : val 3 = _ := hd 3 (by omega)
         obtain ⟨v4_, e4, hJ4_⟩ := hd 4 (by omega)
         obtain ⟨Ah, ch, wh, e5, hbh, hfh⟩ := hd 5 (by omega)
         obtain ⟨A6_, c6_, u6_, x6_, e6⟩ := hd 6 (by omega)
         obtain ⟨A7_, c7_, u7_, x7_, e7⟩ := hd 7 (by omega)
         have e8 : val 8 = _ := hd 8 (by omega)
         have e9 : val 9 = _ := hd 9 (by omega)
         obtain ⟨A10_, c10_, u10_, x10_, e10⟩ := hd 10 (by omega)
         have e11 : val 11 = _ := hd 11 (by omega)
         have e12 : val 12 = _ := hd 12 (by omega)
         have y6_ := tupA3 (e5.symm.trans x6_);rw [← y6_] at e6;have y7_ := tupA3 (e5.symm.trans x7_);rw [← y7_] at e7;have y10_ := tupA3 (e5.symm.trans x10_);rw [← y10_] at e10;refine EL.ends (cs := [_, _, _, _, _, _, _, _, _, _, _, _, _]) ⟨e0, e1, e2, e3, e4, e5, e6, e7, e8, e9, e10, e11, e12, trivial⟩ rfl ?_;replace q1 := q1.bl hb;replace q2 := q2.bl hb;replace q4 := q4.bl hb;replace q9 := q9.bl hb;replace hx := own_below hx hb (Nat.le_refl _);replace hjs := own_below hjs hb (Nat.le_refl _);replace hbf := own_below hbf hb (Nat.le_refl _);replace hbu := own_below hbu hb (Nat.le_refl _);replace hO := hO.below hb;replace hbw := bo_ hbw hb;replace hbo := bo_ hbo hb;replace hbm := bo_ hbm hb;clear hb;clear hJ2_ hJ4_;refine EL.nil (EX.seq (EC.seq ?_));have lt_1 := q1.lt;have lt_2 := q2.lt;have lt_4 := q4.lt;have lt_9 := q9.lt;refine EC.regionP [[], [], [1], [0, 1, 2], [0, 1, 2, 3], [0, 1, 2, 3, 4], [0, 1, 2, 3, 4], [0, 1, 2, 3, 4, 5], [0, 1, 2, 3, 4, 5, 6, 7]] 9 [] (phi (fun i_ r => match i_ with | 0 => r 0 = .agg #[.slice Bl ru.levels.length dl, .int .i64 ru.fade.lo, .int .i64 ru.fade.hi, .slice Ba ru.allow.length da, .slice Bp ru.apart.length dp, .slice Bk ru.kinds.length dk] | 1 => r 1 = .slice Ax l.length cx | 6 => r 6 = .int .i64 0 | 8 => r 8 = .int .i64 0 | _ => True) [(2, fun r w_ => ∃ v, r 2 = v ∧ Rd w_ w_.heap.size 2 v l.length (evsC l)), (3, fun r w_ => ∃ (A : Option Addr) (c : Nat), r 3 = .tuple #[.slice A (audE (betR ru k pn qn y1) l).length c, .int .i64 0] ∧ w_.ownsRow 0 46 3 (.slice A (audE (betR ru k pn qn y1) l).length c) (audE (betR ru k pn qn y1) l).length (brsC (audE (betR ru k pn qn y1) l))), (4, fun r w_ => ∃ (A : Option Addr) (c : Nat), r 3 = .tuple #[.slice A (audE (betR ru k pn qn y1) l).length c, .int .i64 0] ∧ r 4 = .tuple #[.slice A (audE (betR ru k pn qn y1) l).length c, .int .i64 0]), (5, fun r w_ => ∃ (A : Option Addr) (c : Nat), r 3 = .tuple #[.slice A (audE (betR ru k pn qn y1) l).length c, .int .i64 0] ∧ r 5 = .slice A (audE (betR ru k pn qn y1) l).length c), (7, fun r w_ => ∃ (A : Option Addr) (c : Nat), r 3 = .tuple #[.slice A (audE (betR ru k pn qn y1) l).length c, .int .i64 0] ∧ r 7 = .slice A (audE (betR ru k pn qn y1) l).length c)]) (by kernel_rfl) rfl rfl (phi_cons mono_rd2 (phi_cons (fun _ _ _ hb ⟨A, c, h1, h2⟩ => ⟨A, c, h1, own_below h2 hb (Nat.le_refl _)⟩) (phi_cons (fun _ _ _ _ h => h) (phi_cons (fun _ _ _ _ h => h) (phi_cons (fun _ _ _ _ h => h) (phi_nil)))))) (fun i_ hi_ => ?_) ?_
         ·match i_, hi_ with
          | 0, _ =>
           intro val w1 a hb ha hd;have ha := ha.s0 (d := 15) rfl
           exact hs_val ha rfl rfl (ld_28 rfl ((q9.below hb q9.lt).at (j := 0) rfl) ((q9.below hb q9.lt).at (j := 1) rfl) ((q9.below hb q9.lt).at (j := 2) rfl) ((q9.below hb q9.lt).at (j := 3) rfl) ((q9.below hb q9.lt).at (j := 4) rfl) ((q9.below hb q9.lt).at (j := 5) rfl)) rfl rfl
          | 1, _ =>
           intro val w1 a hb ha hd;have ha := ha.s0 (d := 8) rfl
           exact hs_val ha rfl rfl (x_move rfl) rfl rfl
          | 2, _ =>
           intro val w1 a hb ha hd;have e1 : val 1 = _ := hd 1 (memB_mem.1 rfl);have ha := ha.s1 (d := 152) rfl e1;refine hs_call ha rfl rfl (cA1 cF15 rfl) (events_any (Rd.of_own (own_below hx hb (Nat.le_refl _))) (Nat.le_refl _) (by omega)) rfl ?_
           rintro e w' ⟨⟨v2, rfl, hJ⟩, hb'⟩
           exact ⟨_, rfl, hb', ⟨v2, rfl, Rd.of_own hJ⟩⟩
          | 3, _ =>
           intro val w1 a hb ha hd;have e0 : val 0 = _ := hd 0 (memB_mem.1 rfl);obtain ⟨v2_, e2, hJ2_⟩ := hd 2 (memB_mem.1 rfl);have ha := ha.s2 (d := 153) (e := 151) rfl e2 rfl e0;refine hs_call ha rfl rfl (cA2 cF13 rfl rfl) (Aud_to ((hO.below hb).rd) (Nat.le_refl _) hsb hzb hJ2_ (by omega)) rfl ?_
           rintro e w' ⟨⟨A, c, rfl, ho⟩, hb'⟩
           exact ⟨_, rfl, hb', ⟨A, c, rfl, own_less ho (Nat.zero_le _)⟩⟩
          | 4, _ =>
           intro val w1 a hb ha hd;obtain ⟨Av, cv, e3, hbv⟩ := hd 3 (memB_mem.1 rfl);have ha := ha.s1 (d := 154) rfl e3
           exact hs_val ha rfl rfl (x_move rfl) ⟨_, _, e3, rfl⟩ rfl
          | 5, _ =>
           intro val w1 a hb ha hd;obtain ⟨A4_, c4_, x4_, e4⟩ := hd 4 (memB_mem.1 rfl);have ha := ha.s1 (d := 150) rfl e4
           exact hs_val ha rfl rfl (x_extract rfl rfl) ⟨_, _, x4_, rfl⟩ rfl
          | 6, _ =>
           intro val w1 a hb ha hd;obtain ⟨A4_, c4_, x4_, e4⟩ := hd 4 (memB_mem.1 rfl);have ha := ha.s1 (d := 150) rfl e4
           exact hs_val ha rfl rfl (x_extract rfl rfl) rfl rfl
          | 7, _ =>
           intro val w1 a hb ha hd;obtain ⟨A5_, c5_, x5_, e5⟩ := hd 5 (memB_mem.1 rfl);have ha := ha.s1 (d := 155) rfl e5
           exact hs_val ha rfl rfl (x_assign rfl) ⟨_, _, x5_, rfl⟩ rfl
          | 8, _ =>
           intro val w1 a hb ha hd;have e6 : val 6 = _ := hd 6 (memB_mem.1 rfl);have ha := ha.s1 (d := 156) rfl e6
           exact hs_val ha rfl rfl (x_assign rfl) rfl rfl
          | k + 9, h => exact absurd h (by omega)
         ·intro val wR15 hb halc hd
          have e0 : val 0 = _ := hd 0 (by omega)
          have e1 : val 1 = _ := hd 1 (by omega)
          obtain ⟨v2_, e2, hJ2_⟩ := hd 2 (by omega)
          obtain ⟨Av, cv, e3, hbv⟩ := hd 3 (by omega)
          obtain ⟨A4_, c4_, x4_, e4⟩ := hd 4 (by omega)
          obtain ⟨A5_, c5_, x5_, e5⟩ := hd 5 (by omega)
          have e6 : val 6 = _ := hd 6 (by omega)
          obtain ⟨A7_, c7_, x7_, e7⟩ := hd 7 (by omega)
          have e8 : val 8 = _ := hd 8 (by omega)
          have y4_ := tupA2 (e3.symm.trans x4_);rw [← y4_] at e4;have y5_ := tupA2 (e3.symm.trans x5_);rw [← y5_] at e5;have y7_ := tupA2 (e3.symm.trans x7_);rw [← y7_] at e7;refine EL.ends (cs := [_, _, _, _, _, _, _, _, _]) ⟨e0, e1, e2, e3, e4, e5, e6, e7, e8, trivial⟩ rfl ?_;replace q1 := q1.bl hb;replace q2 := q2.bl hb;replace q4 := q4.bl hb;replace q9 := q9.bl hb;replace hx := own_below hx hb (Nat.le_refl _);replace hjs := own_below hjs hb (Nat.le_refl _);replace hbf := own_below hbf hb (Nat.le_refl _);replace hbu := own_below hbu hb (Nat.le_refl _);replace hO := hO.below hb;replace hbh := own_below hbh hb (Nat.le_refl _);replace hbw := bo_ hbw hb;replace hbo := bo_ hbo hb;replace hbm := bo_ hbm hb;clear hb;clear hJ2_;refine EL.nil (EX.seq ?_);refine EC.cutD [6, 157, 158, 159, 160, 161, 162, 163, 164, 165, 166, 167, 168, 169, 170, 171, 172, 173, 174, 175, 176, 177, 178, 179, 180, 181, 182, 183, 184, 185, 186, 187] (fun _ : Unit => []) (fun _ W => wR15 = W) ?_ ?_
          ·
           refine EC.seq (EC.region (EL.mv rfl rfl ?_));refine EL.val (x_neq (r := false) rfl rfl (decide_eq_false (fun h => h rfl))) rfl ?_
           refine EL.mv rfl rfl (EL.mg rfl rfl rfl rfl (EL.valg rfl rfl (ln_32 rfl) rfl (EL.mg rfl rfl rfl rfl (EL.valg rfl rfl (ln_32 rfl) rfl ?_))));refine EL.valg rfl rfl (x_gtr (r := false) rfl rfl (decide_eq_false (by have := hcov.len; omega))) rfl ?_
           refine EL.pf rfl rfl rfl (EL.mv rfl rfl (EL.mg rfl rfl rfl rfl ?_))
           rcases code_two hz hjE with hcd | hcd
           ·
            obtain ⟨hc2, hl1, hl2, _⟩ := few_le hbet hz hzb hjE hcd hff hfh;refine EL.valg rfl rfl (x_eql (r := true) rfl rfl (decide_eq_true hcd)) rfl (EL.mg rfl rfl rfl rfl (EL.mg rfl rfl rfl rfl ?_));refine EL.valg rfl rfl (x_neq (r := false) rfl rfl (decide_eq_false (fun h => h hc2))) rfl ?_
            refine EL.mg rfl rfl rfl rfl (EL.mg rfl rfl rfl rfl (EL.valg rfl rfl (ln_22 rfl) rfl (EL.mg rfl rfl rfl rfl (EL.valg rfl rfl (ln_22 rfl) rfl ?_))));refine EL.valg rfl rfl (x_neq (r := false) rfl rfl (decide_eq_false (fun h => h (by rw [hl2])))) rfl ?_
            refine EL.valg rfl rfl (x_pick_f rfl rfl) rfl (EL.mg rfl rfl rfl rfl (EL.mg rfl rfl rfl rfl (EL.valg rfl rfl (ln_22 rfl) rfl (EL.mg rfl rfl rfl rfl (EL.valg rfl rfl (ln_22 rfl) rfl ?_)))));refine EL.valg rfl rfl (x_neq (r := false) rfl rfl (decide_eq_false (fun h => h (by rw [hl1])))) rfl ?_
            refine EL.valg rfl rfl (x_pick_f rfl rfl) rfl (EL.valg rfl rfl (x_pick_t rfl rfl) rfl (EL.pf rfl rfl rfl (EL.nil (EX.seq (EC.no rfl (EC.skip ?_))))))
            exact EX.cutE () trivial (by repeat first | with_reducible exact (Sub.refl _).del _ | refine sp_ rfl ?_ | exact (Sub.refl _).del _ | refine sd_ rfl ?_ | refine sn_ ?_) rfl
           ·
            refine EL.valg rfl rfl (x_eql (r := false) rfl rfl (decide_eq_false (by rw [hcd]; decide))) rfl ?_
            refine EL.mg rfl rfl rfl rfl (EL.skip rfl rfl rfl rfl (EL.skip rfl rfl rfl rfl (EL.skip rfl rfl rfl rfl (EL.skip rfl rfl rfl rfl (EL.skip rfl rfl rfl rfl (EL.skip rfl rfl rfl rfl (EL.skip rfl rfl rfl rfl (EL.skip rfl rfl rfl rfl (EL.skip rfl rfl rfl rfl ?_)))))))));refine EL.skip rfl rfl rfl rfl (EL.skip rfl rfl rfl rfl (EL.skip rfl rfl rfl rfl (EL.skip rfl rfl rfl rfl (EL.skip rfl rfl rfl rfl (EL.skip rfl rfl rfl rfl (EL.skip rfl rfl rfl rfl (EL.valg rfl rfl (x_pick_f rfl rfl) rfl (EL.pf rfl rfl rfl (EL.nil ?_)))))))));refine EX.seq (EC.no rfl (EC.skip ?_))
            exact EX.cutE () trivial (by repeat first | with_reducible exact (Sub.refl _).del _ | refine sp_ rfl ?_ | exact (Sub.refl _).del _ | refine sd_ rfl ?_ | refine sn_ ?_) rfl
          ·
           rintro _ _ rfl
           have hbl := Below.refl wR15.heap.size wR15;refine EC.cutD [6, 23, 188, 189, 190, 191, 192, 193, 194, 195, 196, 197, 198, 199, 200, 201, 202, 203, 204, 205, 206] (fun _ : Unit => []) (fun _ W => Below wR15.heap.size wR15 W) ?_ ?_
           ·
            refine EC.seq (EC.region (EL.as rfl rfl (EL.nil (EX.seq (EC.block ?_)))));refine EC.loopD [6, 23, 188, 189, 190, 191, 192, 193, 194, 195, 196, 197, 198, 199, 200, 201, 202, 203, 204, 205, 206] (fun x : Nat => [(23, .int .i64 (x : Nat))]) (fun x W => x ≤ js.length ∧ Below wR15.heap.size wR15 W) (fun x => js.length - x) 0 ⟨Nat.zero_le _, hbl⟩ ⟨rfl, trivial⟩ ?_
            clear hbl
            rintro i wx ⟨hi, hbl⟩
            replace q1 := q1.bl hbl;replace q2 := q2.bl hbl;replace q4 := q4.bl hbl;replace q9 := q9.bl hbl;replace hx := own_below hx hbl (Nat.le_refl _);replace hjs := own_below hjs hbl (Nat.le_refl _);replace hbf := own_below hbf hbl (Nat.le_refl _);replace hbu := own_below hbu hbl (Nat.le_refl _);replace hO := hO.below hbl;replace hbh := own_below hbh hbl (Nat.le_refl _);replace hbv := own_below hbv hbl (Nat.le_refl _)
            by_cases hlt : i < js.length
            ·
             rcases code_two hz hjE with hcd | hcd
             ·
              obtain ⟨hc2, hl1, hl2, hall⟩ := few_le hbet hz hzb hjE hcd hff hfh;obtain ⟨b1_, o1_, e1_, _, x0⟩ := ints_cells wf i (by omega) wx wx.heap.size _ _ _ (Rd.of_own hbf)
              obtain ⟨b2_, o2_, e2_, _, y0⟩ := ints_cells wh i (by omega) wx wx.heap.size _ _ _ (Rd.of_own hbh)
              refine EC.seq (EC.seq (EC.region (EL.mv rfl rfl (EL.mv rfl rfl (EL.val (ln_22 rfl) rfl ?_)))));refine EL.val (x_lss rfl rfl (decide_eq_true (show (((i : Nat) : Int) < ((js.length : Nat) : Int)) by omega))) rfl ?_
              refine EL.mv rfl rfl (EL.mg rfl rfl rfl rfl (EL.valg rfl rfl (x_eql (r := true) rfl rfl (decide_eq_true hcd)) rfl (EL.pt rfl rfl rfl (EL.nil (EX.seq (EC.yes rfl (EC.skip (EX.seq (EC.seq ?_)))))))));refine EC.block (EC.seq ?_);refine EC.regionQ (by kernel_rfl) (by kernel_rfl) ?_
              refine EQ.mv rfl rfl (EQ.mv rfl rfl ?_);refine EQ.val (fun _ hw => (ix_22 (by show some (Value.slice Ah _ _) = _; rw [e2_]) rfl (by rw [hl2]; exact hlt))) rfl ?_
              refine EQ.val (fun _ hw => (ld_3 rfl (below_load hw y0))) rfl ?_
              refine EQ.mv rfl rfl (EQ.mv rfl rfl ?_);refine EQ.val (fun _ hw => (ix_22 (by show some (Value.slice Af _ _) = _; rw [e1_]) rfl (by rw [hl1]; exact hlt))) rfl ?_
              refine EQ.val (fun _ hw => (ld_3 rfl (below_load hw x0))) rfl ?_
              refine EQ.val (fun _ hw => (x_gtr (r := false) rfl rfl (decide_eq_false (by have := hall i hlt; omega)))) rfl ?_
              refine EQ.fin (fun w11 hw_ => ?_)
              replace q1 := q1.bl hw_;replace q2 := q2.bl hw_;replace q4 := q4.bl hw_;replace q9 := q9.bl hw_;replace hx := own_below hx hw_ (Nat.le_refl _);replace hjs := own_below hjs hw_ (Nat.le_refl _);replace hbf := own_below hbf hw_ (Nat.le_refl _);replace hbu := own_below hbu hw_ (Nat.le_refl _);replace hO := hO.below hw_;replace hbh := own_below hbh hw_ (Nat.le_refl _);replace hbv := own_below hbv hw_ (Nat.le_refl _);replace hbl := bo_ hbl hw_;clear hw_;refine EX.seq (EC.no rfl (EC.skip (EX.blk (EX.seq (EC.region (EL.mv rfl rfl ?_))))));refine EL.val (x_add rfl rfl (c := ((i + 1 : Nat) : Int)) ((IntWalk.i64_in _ ⟨by first | omega | (simp only; omega), by first | omega | (simp only; omega)⟩).trans (by first | omega | (simp only; omega)))) rfl ?_
              refine EL.as rfl rfl (EL.nil ?_);refine EX.roundD (i + 1) ⟨rfl, trivial⟩ (by repeat first | with_reducible exact .refl _ | refine sp_ rfl ?_ | exact .refl _ | refine sd_ rfl ?_ | refine sn_ ?_) ⟨hlt, hbl⟩ (by omega)
             ·
              refine EC.seq (EC.seq (EC.region (EL.mv rfl rfl (EL.mv rfl rfl (EL.val (ln_22 rfl) rfl ?_)))));refine EL.val (x_lss rfl rfl (decide_eq_true (show (((i : Nat) : Int) < ((js.length : Nat) : Int)) by omega))) rfl ?_
              refine EL.mv rfl rfl (EL.mg rfl rfl rfl rfl ?_);refine EL.valg rfl rfl (x_eql (r := false) rfl rfl (decide_eq_false (by rw [hcd]; decide))) rfl ?_
              refine EL.pt rfl rfl rfl (EL.nil (EX.seq (EC.no rfl (EC.exit (EX.seq_exit (EX.seq_exit (EX.blk_here ?_)))))))
              exact EX.cutE () trivial (by repeat first | with_reducible exact (Sub.refl _).del _ | refine sp_ rfl ?_ | exact (Sub.refl _).del _ | refine sd_ rfl ?_ | refine sn_ ?_) hbl
            ·
             obtain rfl : i = js.length := by omega
             refine EC.seq (EC.seq (EC.region (EL.mv rfl rfl (EL.mv rfl rfl (EL.val (ln_22 rfl) rfl ?_)))));refine EL.val (x_lss rfl rfl (decide_eq_false (show ¬(((js.length : Nat) : Int) < ((js.length : Nat) : Int)) by omega))) rfl ?_
             refine EL.mv rfl rfl (EL.skip rfl rfl rfl rfl (EL.skip rfl rfl rfl rfl (EL.pf rfl rfl rfl (EL.nil (EX.seq (EC.no rfl (EC.exit (EX.seq_exit (EX.seq_exit ?_)))))))));refine EX.blk_here ?_
             exact EX.cutE () trivial (by repeat first | with_reducible exact (Sub.refl _).del _ | refine sp_ rfl ?_ | exact (Sub.refl _).del _ | refine sd_ rfl ?_ | refine sn_ ?_) hbl
           ·
            clear hbl
            rintro _ W19 hbl
            replace q1 := q1.bl hbl;replace q2 := q2.bl hbl;replace q4 := q4.bl hbl;replace q9 := q9.bl hbl;replace hx := own_below hx hbl (Nat.le_refl _);replace hjs := own_below hjs hbl (Nat.le_refl _);replace hbf := own_below hbf hbl (Nat.le_refl _);replace hbu := own_below hbu hbl (Nat.le_refl _);replace hO := hO.below hbl;replace hbh := own_below hbh hbl (Nat.le_refl _);replace hbv := own_below hbv hbl (Nat.le_refl _);replace hbw := bo_ hbw hbl;replace hbo := bo_ hbo hbl;replace hbm := bo_ hbm hbl;clear hbl;refine EC.seq (EC.seq (EC.region (EL.as rfl rfl (EL.nil (EX.seq (EC.block ?_))))));have hbl := Below.refl W19.heap.size W19;refine EC.loopD [6, 24, 25, 26, 207, 208, 209, 210, 211, 212, 213, 214, 215, 216, 217, 218, 219, 220, 221, 222, 223, 224, 225, 226, 227, 228, 229, 230, 231, 232, 233, 234, 235, 236, 237, 238, 239, 240, 241, 242, 243, 244, 245, 246, 247, 248, 249, 250, 251, 252, 253, 254, 255, 256, 257, 258, 259, 260, 261, 262] (fun x : Nat => [(24, .int .i64 (x : Nat))]) (fun x W => x ≤ (audE (betR ru k pn qn y1) l).length ∧ Below W19.heap.size W19 W) (fun x => (audE (betR ru k pn qn y1) l).length - x) 0 ⟨Nat.zero_le _, hbl⟩ ⟨rfl, trivial⟩ ?_
            clear hbl
            rintro i wx ⟨hi, hbl⟩
            replace q1 := q1.bl hbl;replace q2 := q2.bl hbl;replace q4 := q4.bl hbl;replace q9 := q9.bl hbl;replace hx := own_below hx hbl (Nat.le_refl _);replace hjs := own_below hjs hbl (Nat.le_refl _);replace hbf := own_below hbf hbl (Nat.le_refl _);replace hbu := own_below hbu hbl (Nat.le_refl _);replace hO := hO.below hbl;replace hbh := own_below hbh hbl (Nat.le_refl _);replace hbv := own_below hbv hbl (Nat.le_refl _);replace hbw := hbw.trans (hbl.mono hbw.size)
            by_cases hlt : i < (audE (betR ru k pn qn y1) l).length
            ·
             refine EC.seq (EC.seq (EC.region (EL.mv rfl rfl (EL.mv rfl rfl (EL.val (ln_32 rfl) rfl ?_)))));refine EL.val (x_lss rfl rfl (decide_eq_true (show (((i : Nat) : Int) < (((audE (betR ru k pn qn y1) l).length : Nat) : Int)) by omega))) rfl ?_
             refine EL.nil (EX.seq (EC.yes rfl (EC.skip (EX.seq (EC.seq (EC.block (EC.seq (EC.region (EL.as rfl rfl ?_)))))))));refine EL.nil (EX.seq (EC.seq (EC.seq (EC.region (EL.as rfl rfl (EL.nil (EX.seq (EC.block ?_))))))));have hbk := Below.refl wx.heap.size wx;refine EC.loopD [25, 26, 213, 214, 215, 216, 217, 218, 219, 220, 221, 222, 223, 224, 225, 226, 227, 228, 229, 230, 231, 232, 233, 234, 235, 236, 237, 238, 239, 240, 241, 242, 243, 244, 245, 246, 247, 248, 249, 250, 251, 252, 253, 254, 255, 256, 257, 258, 259, 260] (fun x : Nat => [(25, .bool (inF ((audE (betR ru k pn qn y1) l).getD i ⟨0, 0, false⟩) (audE ru l) x)), (26, .int .i64 (x : Nat))]) (fun x W => x ≤ (audE ru l).length ∧ Below wx.heap.size wx W) (fun x => (audE ru l).length - x) 0 ⟨Nat.zero_le _, hbk⟩ ⟨rfl, rfl, trivial⟩ ?_
             clear hbk
             rintro k2 wy ⟨hi2, hbk⟩
             replace q1 := q1.bl hbk;replace q2 := q2.bl hbk;replace q4 := q4.bl hbk;replace q9 := q9.bl hbk;replace hx := own_below hx hbk (Nat.le_refl _);replace hjs := own_below hjs hbk (Nat.le_refl _);replace hbf := own_below hbf hbk (Nat.le_refl _);replace hbu := own_below hbu hbk (Nat.le_refl _);replace hO := hO.below hbk;replace hbh := own_below hbh hbk (Nat.le_refl _);replace hbv := own_below hbv hbk (Nat.le_refl _);replace hbw := hbw.trans (hbk.mono hbw.size);replace hbl := hbl.trans (hbk.mono hbl.size)
             by_cases hlt2 : k2 < (audE ru l).length
             ·
              obtain ⟨b1_, o1_, e1_, _, x0, x1, x2⟩ := brs_cells (audE (betR ru k pn qn y1) l) i hlt wy wy.heap.size _ _ _ (Rd.of_own hbv);obtain ⟨b2_, o2_, e2_, _, y0_, y1_, y2_⟩ := brs_cells (audE ru l) k2 hlt2 wy wy.heap.size _ _ _ (Rd.of_own hbu);refine EC.seq (EC.seq (EC.region (EL.mv rfl rfl (EL.mv rfl rfl (EL.val (ln_32 rfl) rfl ?_)))));refine EL.val (x_lss rfl rfl (decide_eq_true (show (((k2 : Nat) : Int) < (((audE ru l).length : Nat) : Int)) by omega))) rfl ?_
              refine EL.nil (EX.seq (EC.yes rfl (EC.skip (EX.seq (EC.seq (EC.block ?_))))))
              cases hm : inF ((audE (betR ru k pn qn y1) l).getD i ⟨0, 0, false⟩) (audE ru l) k2
              ·
               by_cases h0 : ((audE ru l).getD k2 ⟨0, 0, false⟩).event = ((audE (betR ru k pn qn y1) l).getD i ⟨0, 0, false⟩).event
               ·
                by_cases h1 : ((audE ru l).getD k2 ⟨0, 0, false⟩).cargo = ((audE (betR ru k pn qn y1) l).getD i ⟨0, 0, false⟩).cargo
                ·
                 cases hs1 : ((audE ru l).getD k2 ⟨0, 0, false⟩).sure
                 ·
                  rw [hs1] at y2_
                  cases hs2 : ((audE (betR ru k pn qn y1) l).getD i ⟨0, 0, false⟩).sure
                  ·
                   rw [hs2] at x2;refine EC.regionQ (by kernel_rfl) (by kernel_rfl) ?_
                   refine EQ.mv rfl rfl (EQ.mv rfl rfl (EQ.mg rfl rfl rfl rfl (EQ.mg rfl rfl rfl rfl ?_)));refine EQ.valg rfl rfl (fun _ hw => (ix_32 (by show some (Value.slice Au _ _) = _; rw [e2_]) rfl hlt2)) rfl ?_
                   refine EQ.valg rfl rfl (fun _ hw => (fa_46_0 rfl)) rfl ?_
                   refine EQ.valg rfl rfl (fun _ hw => (ld_3 rfl (below_load hw y0_))) rfl ?_
                   refine EQ.mg rfl rfl rfl rfl (EQ.mg rfl rfl rfl rfl ?_);refine EQ.valg rfl rfl (fun _ hw => (ix_32 (by show some (Value.slice Av _ _) = _; rw [e1_]) rfl hlt)) rfl ?_
                   refine EQ.valg rfl rfl (fun _ hw => (fa_46_0 rfl)) rfl ?_
                   refine EQ.valg rfl rfl (fun _ hw => (ld_3 rfl (below_load hw x0))) rfl ?_
                   refine EQ.valg rfl rfl (fun _ hw => (x_eql (r := true) rfl rfl (decide_eq_true (by omega)))) rfl ?_
                   refine EQ.mg rfl rfl rfl rfl (EQ.mg rfl rfl rfl rfl (EQ.mg rfl rfl rfl rfl ?_));refine EQ.valg rfl rfl (fun _ hw => (ix_32 (by show some (Value.slice Au _ _) = _; rw [e2_]) rfl hlt2)) rfl ?_
                   refine EQ.valg rfl rfl (fun _ hw => (fa_46_1 rfl)) rfl ?_
                   refine EQ.valg rfl rfl (fun _ hw => (ld_3 rfl (below_load hw y1_))) rfl ?_
                   refine EQ.mg rfl rfl rfl rfl (EQ.mg rfl rfl rfl rfl ?_);refine EQ.valg rfl rfl (fun _ hw => (ix_32 (by show some (Value.slice Av _ _) = _; rw [e1_]) rfl hlt)) rfl ?_
                   refine EQ.valg rfl rfl (fun _ hw => (fa_46_1 rfl)) rfl ?_
                   refine EQ.valg rfl rfl (fun _ hw => (ld_3 rfl (below_load hw x1))) rfl ?_
                   refine EQ.valg rfl rfl (fun _ hw => (x_eql (r := true) rfl rfl (decide_eq_true (by omega)))) rfl ?_
                   refine EQ.valg rfl rfl (fun _ hw => (x_pick_t rfl rfl)) rfl ?_
                   refine EQ.mg rfl rfl rfl rfl (EQ.mg rfl rfl rfl rfl (EQ.mg rfl rfl rfl rfl ?_));refine EQ.valg rfl rfl (fun _ hw => (ix_32 (by show some (Value.slice Au _ _) = _; rw [e2_]) rfl hlt2)) rfl ?_
                   refine EQ.valg rfl rfl (fun _ hw => (fa_46_2 rfl)) rfl ?_
                   refine EQ.valg rfl rfl (fun _ hw => (ld_4 rfl (below_load hw y2_))) rfl ?_
                   refine EQ.mg rfl rfl rfl rfl (EQ.mg rfl rfl rfl rfl (EQ.mg rfl rfl rfl rfl ?_));refine EQ.valg rfl rfl (fun _ hw => (ix_32 (by show some (Value.slice Av _ _) = _; rw [e1_]) rfl hlt)) rfl ?_
                   refine EQ.valg rfl rfl (fun _ hw => (fa_46_2 rfl)) rfl ?_
                   refine EQ.valg rfl rfl (fun _ hw => (ld_4 rfl (below_load hw x2))) rfl ?_
                   refine EQ.valg rfl rfl (fun _ hw => (x_not rfl)) rfl ?_
                   refine EQ.valg rfl rfl (fun _ hw => (x_pick_f rfl rfl)) rfl ?_
                   refine EQ.valg rfl rfl (fun _ hw => (x_pick_t rfl rfl)) rfl ?_
                   refine EQ.val (fun _ hw => (x_pick_f rfl rfl)) rfl ?_
                   refine EQ.val (fun _ hw => (x_assign rfl)) rfl ?_
                   refine EQ.fin (fun w12 hw_ => ?_)
                   replace q1 := q1.bl hw_;replace q2 := q2.bl hw_;replace q4 := q4.bl hw_;replace q9 := q9.bl hw_;replace hx := own_below hx hw_ (Nat.le_refl _);replace hjs := own_below hjs hw_ (Nat.le_refl _);replace hbf := own_below hbf hw_ (Nat.le_refl _);replace hbu := own_below hbu hw_ (Nat.le_refl _);replace hO := hO.below hw_;replace hbh := own_below hbh hw_ (Nat.le_refl _);replace hbv := own_below hbv hw_ (Nat.le_refl _);replace hbw := bo_ hbw hw_;replace hbl := bo_ hbl hw_;replace hbk := bo_ hbk hw_;clear hw_;refine EX.blk (EX.seq (EC.region (EL.mv rfl rfl ?_)));refine EL.val (x_add rfl rfl (c := ((k2 + 1 : Nat) : Int)) ((IntWalk.i64_in _ ⟨by first | omega | (simp only; omega), by first | omega | (simp only; omega)⟩).trans (by first | omega | (simp only; omega)))) rfl ?_
                   refine EL.as rfl rfl (EL.nil ?_);refine EX.roundD (k2 + 1) ⟨agree_b (inF_step true (by simp only [hm, h0, h1, hs1, hs2, decide_true, decide_false, Bool.true_and, Bool.false_and, Bool.and_true, Bool.and_false, Bool.or_true, Bool.true_or, Bool.or_false, Bool.false_or, Bool.not_true, Bool.not_false])) rfl, rfl, trivial⟩ (by repeat first | with_reducible exact .refl _ | refine sp_ rfl ?_ | exact .refl _ | refine sd_ rfl ?_ | refine sn_ ?_) ⟨hlt2, hbk⟩ (by omega)
                  ·
                   rw [hs2] at x2;refine EC.regionQ (by kernel_rfl) (by kernel_rfl) ?_
                   refine EQ.mv rfl rfl (EQ.mv rfl rfl (EQ.mg rfl rfl rfl rfl (EQ.mg rfl rfl rfl rfl ?_)));refine EQ.valg rfl rfl (fun _ hw => (ix_32 (by show some (Value.slice Au _ _) = _; rw [e2_]) rfl hlt2)) rfl ?_
                   refine EQ.valg rfl rfl (fun _ hw => (fa_46_0 rfl)) rfl ?_
                   refine EQ.valg rfl rfl (fun _ hw => (ld_3 rfl (below_load hw y0_))) rfl ?_
                   refine EQ.mg rfl rfl rfl rfl (EQ.mg rfl rfl rfl rfl ?_);refine EQ.valg rfl rfl (fun _ hw => (ix_32 (by show some (Value.slice Av _ _) = _; rw [e1_]) rfl hlt)) rfl ?_
                   refine EQ.valg rfl rfl (fun _ hw => (fa_46_0 rfl)) rfl ?_
                   refine EQ.valg rfl rfl (fun _ hw => (ld_3 rfl (below_load hw x0))) rfl ?_
                   refine EQ.valg rfl rfl (fun _ hw => (x_eql (r := true) rfl rfl (decide_eq_true (by omega)))) rfl ?_
                   refine EQ.mg rfl rfl rfl rfl (EQ.mg rfl rfl rfl rfl (EQ.mg rfl rfl rfl rfl ?_));refine EQ.valg rfl rfl (fun _ hw => (ix_32 (by show some (Value.slice Au _ _) = _; rw [e2_]) rfl hlt2)) rfl ?_
                   refine EQ.valg rfl rfl (fun _ hw => (fa_46_1 rfl)) rfl ?_
                   refine EQ.valg rfl rfl (fun _ hw => (ld_3 rfl (below_load hw y1_))) rfl ?_
                   refine EQ.mg rfl rfl rfl rfl (EQ.mg rfl rfl rfl rfl ?_);refine EQ.valg rfl rfl (fun _ hw => (ix_32 (by show some (Value.slice Av _ _) = _; rw [e1_]) rfl hlt)) rfl ?_
                   refine EQ.valg rfl rfl (fun _ hw => (fa_46_1 rfl)) rfl ?_
                   refine EQ.valg rfl rfl (fun _ hw => (ld_3 rfl (below_load hw x1))) rfl ?_
                   refine EQ.valg rfl rfl (fun _ hw => (x_eql (r := true) rfl rfl (decide_eq_true (by omega)))) rfl ?_
                   refine EQ.valg rfl rfl (fun _ hw => (x_pick_t rfl rfl)) rfl ?_
                   refine EQ.mg rfl rfl rfl rfl (EQ.mg rfl rfl rfl rfl (EQ.mg rfl rfl rfl rfl ?_));refine EQ.valg rfl rfl (fun _ hw => (ix_32 (by show some (Value.slice Au _ _) = _; rw [e2_]) rfl hlt2)) rfl ?_
                   refine EQ.valg rfl rfl (fun _ hw => (fa_46_2 rfl)) rfl ?_
                   refine EQ.valg rfl rfl (fun _ hw => (ld_4 rfl (below_load hw y2_))) rfl ?_
                   refine EQ.mg rfl rfl rfl rfl (EQ.mg rfl rfl rfl rfl (EQ.mg rfl rfl rfl rfl ?_));refine EQ.valg rfl rfl (fun _ hw => (ix_32 (by show some (Value.slice Av _ _) = _; rw [e1_]) rfl hlt)) rfl ?_
                   refine EQ.valg rfl rfl (fun _ hw => (fa_46_2 rfl)) rfl ?_
                   refine EQ.valg rfl rfl (fun _ hw => (ld_4 rfl (below_load hw x2))) rfl ?_
                   refine EQ.valg rfl rfl (fun _ hw => (x_not rfl)) rfl ?_
                   refine EQ.valg rfl rfl (fun _ hw => (x_pick_f rfl rfl)) rfl ?_
                   refine EQ.valg rfl rfl (fun _ hw => (x_pick_t rfl rfl)) rfl ?_
                   refine EQ.val (fun _ hw => (x_pick_f rfl rfl)) rfl ?_
                   refine EQ.val (fun _ hw => (x_assign rfl)) rfl ?_
                   refine EQ.fin (fun w13 hw_ => ?_)
                   replace q1 := q1.bl hw_;replace q2 := q2.bl hw_;replace q4 := q4.bl hw_;replace q9 := q9.bl hw_;replace hx := own_below hx hw_ (Nat.le_refl _);replace hjs := own_below hjs hw_ (Nat.le_refl _);replace hbf := own_below hbf hw_ (Nat.le_refl _);replace hbu := own_below hbu hw_ (Nat.le_refl _);replace hO := hO.below hw_;replace hbh := own_below hbh hw_ (Nat.le_refl _);replace hbv := own_below hbv hw_ (Nat.le_refl _);replace hbw := bo_ hbw hw_;replace hbl := bo_ hbl hw_;replace hbk := bo_ hbk hw_;clear hw_;refine EX.blk (EX.seq (EC.region (EL.mv rfl rfl ?_)));refine EL.val (x_add rfl rfl (c := ((k2 + 1 : Nat) : Int)) ((IntWalk.i64_in _ ⟨by first | omega | (simp only; omega), by first | omega | (simp only; omega)⟩).trans (by first | omega | (simp only; omega)))) rfl ?_
                   refine EL.as rfl rfl (EL.nil ?_);refine EX.roundD (k2 + 1) ⟨agree_b (inF_step false (by simp only [hm, h0, h1, hs1, hs2, decide_true, decide_false, Bool.true_and, Bool.false_and, Bool.and_true, Bool.and_false, Bool.or_true, Bool.true_or, Bool.or_false, Bool.false_or, Bool.not_true, Bool.not_false])) rfl, rfl, trivial⟩ (by repeat first | with_reducible exact .refl _ | refine sp_ rfl ?_ | exact .refl _ | refine sd_ rfl ?_ | refine sn_ ?_) ⟨hlt2, hbk⟩ (by omega)
                 ·
                  rw [hs1] at y2_;refine EC.regionQ (by kernel_rfl) (by kernel_rfl) ?_
                  refine EQ.mv rfl rfl (EQ.mv rfl rfl (EQ.mg rfl rfl rfl rfl (EQ.mg rfl rfl rfl rfl ?_)));refine EQ.valg rfl rfl (fun _ hw => (ix_32 (by show some (Value.slice Au _ _) = _; rw [e2_]) rfl hlt2)) rfl ?_
                  refine EQ.valg rfl rfl (fun _ hw => (fa_46_0 rfl)) rfl ?_
                  refine EQ.valg rfl rfl (fun _ hw => (ld_3 rfl (below_load hw y0_))) rfl ?_
                  refine EQ.mg rfl rfl rfl rfl (EQ.mg rfl rfl rfl rfl ?_);refine EQ.valg rfl rfl (fun _ hw => (ix_32 (by show some (Value.slice Av _ _) = _; rw [e1_]) rfl hlt)) rfl ?_
                  refine EQ.valg rfl rfl (fun _ hw => (fa_46_0 rfl)) rfl ?_
                  refine EQ.valg rfl rfl (fun _ hw => (ld_3 rfl (below_load hw x0))) rfl ?_
                  refine EQ.valg rfl rfl (fun _ hw => (x_eql (r := true) rfl rfl (decide_eq_true (by omega)))) rfl ?_
                  refine EQ.mg rfl rfl rfl rfl (EQ.mg rfl rfl rfl rfl (EQ.mg rfl rfl rfl rfl ?_));refine EQ.valg rfl rfl (fun _ hw => (ix_32 (by show some (Value.slice Au _ _) = _; rw [e2_]) rfl hlt2)) rfl ?_
                  refine EQ.valg rfl rfl (fun _ hw => (fa_46_1 rfl)) rfl ?_
                  refine EQ.valg rfl rfl (fun _ hw => (ld_3 rfl (below_load hw y1_))) rfl ?_
                  refine EQ.mg rfl rfl rfl rfl (EQ.mg rfl rfl rfl rfl ?_);refine EQ.valg rfl rfl (fun _ hw => (ix_32 (by show some (Value.slice Av _ _) = _; rw [e1_]) rfl hlt)) rfl ?_
                  refine EQ.valg rfl rfl (fun _ hw => (fa_46_1 rfl)) rfl ?_
                  refine EQ.valg rfl rfl (fun _ hw => (ld_3 rfl (below_load hw x1))) rfl ?_
                  refine EQ.valg rfl rfl (fun _ hw => (x_eql (r := true) rfl rfl (decide_eq_true (by omega)))) rfl ?_
                  refine EQ.valg rfl rfl (fun _ hw => (x_pick_t rfl rfl)) rfl ?_
                  refine EQ.mg rfl rfl rfl rfl (EQ.mg rfl rfl rfl rfl (EQ.mg rfl rfl rfl rfl ?_));refine EQ.valg rfl rfl (fun _ hw => (ix_32 (by show some (Value.slice Au _ _) = _; rw [e2_]) rfl hlt2)) rfl ?_
                  refine EQ.valg rfl rfl (fun _ hw => (fa_46_2 rfl)) rfl ?_
                  refine EQ.valg rfl rfl (fun _ hw => (ld_4 rfl (below_load hw y2_))) rfl ?_
                  refine EQ.mg rfl rfl rfl rfl (EQ.skip rfl rfl rfl rfl (EQ.skip rfl rfl rfl rfl (EQ.skip rfl rfl rfl rfl (EQ.skip rfl rfl rfl rfl (EQ.skip rfl rfl rfl rfl (EQ.skip rfl rfl rfl rfl ?_))))));refine EQ.valg rfl rfl (fun _ hw => (x_pick_t rfl rfl)) rfl ?_
                  refine EQ.valg rfl rfl (fun _ hw => (x_pick_t rfl rfl)) rfl ?_
                  refine EQ.val (fun _ hw => (x_pick_f rfl rfl)) rfl ?_
                  refine EQ.val (fun _ hw => (x_assign rfl)) rfl ?_
                  refine EQ.fin (fun w14 hw_ => ?_)
                  replace q1 := q1.bl hw_;replace q2 := q2.bl hw_;replace q4 := q4.bl hw_;replace q9 := q9.bl hw_;replace hx := own_below hx hw_ (Nat.le_refl _);replace hjs := own_below hjs hw_ (Nat.le_refl _);replace hbf := own_below hbf hw_ (Nat.le_refl _);replace hbu := own_below hbu hw_ (Nat.le_refl _);replace hO := hO.below hw_;replace hbh := own_below hbh hw_ (Nat.le_refl _);replace hbv := own_below hbv hw_ (Nat.le_refl _);replace hbw := bo_ hbw hw_;replace hbl := bo_ hbl hw_;replace hbk := bo_ hbk hw_;clear hw_;refine EX.blk (EX.seq (EC.region (EL.mv rfl rfl ?_)));refine EL.val (x_add rfl rfl (c := ((k2 + 1 : Nat) : Int)) ((IntWalk.i64_in _ ⟨by first | omega | (simp only; omega), by first | omega | (simp only; omega)⟩).trans (by first | omega | (simp only; omega)))) rfl ?_
                  refine EL.as rfl rfl (EL.nil ?_);refine EX.roundD (k2 + 1) ⟨agree_b (inF_step true (by simp only [hm, h0, h1, hs1, decide_true, decide_false, Bool.true_and, Bool.false_and, Bool.and_true, Bool.and_false, Bool.or_true, Bool.true_or, Bool.or_false, Bool.false_or, Bool.not_true, Bool.not_false])) rfl, rfl, trivial⟩ (by repeat first | with_reducible exact .refl _ | refine sp_ rfl ?_ | exact .refl _ | refine sd_ rfl ?_ | refine sn_ ?_) ⟨hlt2, hbk⟩ (by omega)
                ·
                 refine EC.regionQ (by kernel_rfl) (by kernel_rfl) ?_
                 refine EQ.mv rfl rfl (EQ.mv rfl rfl (EQ.mg rfl rfl rfl rfl (EQ.mg rfl rfl rfl rfl ?_)));refine EQ.valg rfl rfl (fun _ hw => (ix_32 (by show some (Value.slice Au _ _) = _; rw [e2_]) rfl hlt2)) rfl ?_
                 refine EQ.valg rfl rfl (fun _ hw => (fa_46_0 rfl)) rfl ?_
                 refine EQ.valg rfl rfl (fun _ hw => (ld_3 rfl (below_load hw y0_))) rfl ?_
                 refine EQ.mg rfl rfl rfl rfl (EQ.mg rfl rfl rfl rfl ?_);refine EQ.valg rfl rfl (fun _ hw => (ix_32 (by show some (Value.slice Av _ _) = _; rw [e1_]) rfl hlt)) rfl ?_
                 refine EQ.valg rfl rfl (fun _ hw => (fa_46_0 rfl)) rfl ?_
                 refine EQ.valg rfl rfl (fun _ hw => (ld_3 rfl (below_load hw x0))) rfl ?_
                 refine EQ.valg rfl rfl (fun _ hw => (x_eql (r := true) rfl rfl (decide_eq_true (by omega)))) rfl ?_
                 refine EQ.mg rfl rfl rfl rfl (EQ.mg rfl rfl rfl rfl (EQ.mg rfl rfl rfl rfl ?_));refine EQ.valg rfl rfl (fun _ hw => (ix_32 (by show some (Value.slice Au _ _) = _; rw [e2_]) rfl hlt2)) rfl ?_
                 refine EQ.valg rfl rfl (fun _ hw => (fa_46_1 rfl)) rfl ?_
                 refine EQ.valg rfl rfl (fun _ hw => (ld_3 rfl (below_load hw y1_))) rfl ?_
                 refine EQ.mg rfl rfl rfl rfl (EQ.mg rfl rfl rfl rfl ?_);refine EQ.valg rfl rfl (fun _ hw => (ix_32 (by show some (Value.slice Av _ _) = _; rw [e1_]) rfl hlt)) rfl ?_
                 refine EQ.valg rfl rfl (fun _ hw => (fa_46_1 rfl)) rfl ?_
                 refine EQ.valg rfl rfl (fun _ hw => (ld_3 rfl (below_load hw x1))) rfl ?_
                 refine EQ.valg rfl rfl (fun _ hw => (x_eql (r := false) rfl rfl (decide_eq_false (by omega)))) rfl ?_
                 refine EQ.valg rfl rfl (fun _ hw => (x_pick_t rfl rfl)) rfl ?_
                 refine EQ.mg rfl rfl rfl rfl (EQ.skip rfl rfl rfl rfl (EQ.skip rfl rfl rfl rfl (EQ.skip rfl rfl rfl rfl (EQ.skip rfl rfl rfl rfl (EQ.skip rfl rfl rfl rfl (EQ.skip rfl rfl rfl rfl (EQ.skip rfl rfl rfl rfl (EQ.skip rfl rfl rfl rfl (EQ.skip rfl rfl rfl rfl ?_)))))))));refine EQ.skip rfl rfl rfl rfl (EQ.skip rfl rfl rfl rfl (EQ.skip rfl rfl rfl rfl (EQ.skip rfl rfl rfl rfl ?_)));refine EQ.valg rfl rfl (fun _ hw => (x_pick_f rfl rfl)) rfl ?_
                 refine EQ.val (fun _ hw => (x_pick_f rfl rfl)) rfl ?_
                 refine EQ.val (fun _ hw => (x_assign rfl)) rfl ?_
                 refine EQ.fin (fun w15 hw_ => ?_)
                 replace q1 := q1.bl hw_;replace q2 := q2.bl hw_;replace q4 := q4.bl hw_;replace q9 := q9.bl hw_;replace hx := own_below hx hw_ (Nat.le_refl _);replace hjs := own_below hjs hw_ (Nat.le_refl _);replace hbf := own_below hbf hw_ (Nat.le_refl _);replace hbu := own_below hbu hw_ (Nat.le_refl _);replace hO := hO.below hw_;replace hbh := own_below hbh hw_ (Nat.le_refl _);replace hbv := own_below hbv hw_ (Nat.le_refl _);replace hbw := bo_ hbw hw_;replace hbl := bo_ hbl hw_;replace hbk := bo_ hbk hw_;clear hw_;refine EX.blk (EX.seq (EC.region (EL.mv rfl rfl ?_)));refine EL.val (x_add rfl rfl (c := ((k2 + 1 : Nat) : Int)) ((IntWalk.i64_in _ ⟨by first | omega | (simp only; omega), by first | omega | (simp only; omega)⟩).trans (by first | omega | (simp only; omega)))) rfl ?_
                 refine EL.as rfl rfl (EL.nil ?_);refine EX.roundD (k2 + 1) ⟨agree_b (inF_step false (by simp only [hm, h0, h1, decide_true, decide_false, Bool.true_and, Bool.false_and, Bool.and_true, Bool.and_false, Bool.or_true, Bool.true_or, Bool.or_false, Bool.false_or, Bool.not_true, Bool.not_false])) rfl, rfl, trivial⟩ (by repeat first | with_reducible exact .refl _ | refine sp_ rfl ?_ | exact .refl _ | refine sd_ rfl ?_ | refine sn_ ?_) ⟨hlt2, hbk⟩ (by omega)
               ·
                refine EC.regionQ (by kernel_rfl) (by kernel_rfl) ?_
                refine EQ.mv rfl rfl (EQ.mv rfl rfl (EQ.mg rfl rfl rfl rfl (EQ.mg rfl rfl rfl rfl ?_)));refine EQ.valg rfl rfl (fun _ hw => (ix_32 (by show some (Value.slice Au _ _) = _; rw [e2_]) rfl hlt2)) rfl ?_
                refine EQ.valg rfl rfl (fun _ hw => (fa_46_0 rfl)) rfl ?_
                refine EQ.valg rfl rfl (fun _ hw => (ld_3 rfl (below_load hw y0_))) rfl ?_
                refine EQ.mg rfl rfl rfl rfl (EQ.mg rfl rfl rfl rfl ?_);refine EQ.valg rfl rfl (fun _ hw => (ix_32 (by show some (Value.slice Av _ _) = _; rw [e1_]) rfl hlt)) rfl ?_
                refine EQ.valg rfl rfl (fun _ hw => (fa_46_0 rfl)) rfl ?_
                refine EQ.valg rfl rfl (fun _ hw => (ld_3 rfl (below_load hw x0))) rfl ?_
                refine EQ.valg rfl rfl (fun _ hw => (x_eql (r := false) rfl rfl (decide_eq_false (by omega)))) rfl ?_
                refine EQ.mg rfl rfl rfl rfl (EQ.skip rfl rfl rfl rfl (EQ.skip rfl rfl rfl rfl (EQ.skip rfl rfl rfl rfl (EQ.skip rfl rfl rfl rfl (EQ.skip rfl rfl rfl rfl (EQ.skip rfl rfl rfl rfl (EQ.skip rfl rfl rfl rfl (EQ.skip rfl rfl rfl rfl (EQ.skip rfl rfl rfl rfl ?_)))))))));refine EQ.skip rfl rfl rfl rfl (EQ.skip rfl rfl rfl rfl ?_);refine EQ.valg rfl rfl (fun _ hw => (x_pick_f rfl rfl)) rfl ?_
                refine EQ.mg rfl rfl rfl rfl (EQ.skip rfl rfl rfl rfl (EQ.skip rfl rfl rfl rfl (EQ.skip rfl rfl rfl rfl (EQ.skip rfl rfl rfl rfl (EQ.skip rfl rfl rfl rfl (EQ.skip rfl rfl rfl rfl (EQ.skip rfl rfl rfl rfl (EQ.skip rfl rfl rfl rfl (EQ.skip rfl rfl rfl rfl ?_)))))))));refine EQ.skip rfl rfl rfl rfl (EQ.skip rfl rfl rfl rfl (EQ.skip rfl rfl rfl rfl (EQ.skip rfl rfl rfl rfl ?_)));refine EQ.valg rfl rfl (fun _ hw => (x_pick_f rfl rfl)) rfl ?_
                refine EQ.val (fun _ hw => (x_pick_f rfl rfl)) rfl ?_
                refine EQ.val (fun _ hw => (x_assign rfl)) rfl ?_
                refine EQ.fin (fun w16 hw_ => ?_)
                replace q1 := q1.bl hw_;replace q2 := q2.bl hw_;replace q4 := q4.bl hw_;replace q9 := q9.bl hw_;replace hx := own_below hx hw_ (Nat.le_refl _);replace hjs := own_below hjs hw_ (Nat.le_refl _);replace hbf := own_below hbf hw_ (Nat.le_refl _);replace hbu := own_below hbu hw_ (Nat.le_refl _);replace hO := hO.below hw_;replace hbh := own_below hbh hw_ (Nat.le_refl _);replace hbv := own_below hbv hw_ (Nat.le_refl _);replace hbw := bo_ hbw hw_;replace hbl := bo_ hbl hw_;replace hbk := bo_ hbk hw_;clear hw_;refine EX.blk (EX.seq (EC.region (EL.mv rfl rfl ?_)));refine EL.val (x_add rfl rfl (c := ((k2 + 1 : Nat) : Int)) ((IntWalk.i64_in _ ⟨by first | omega | (simp only; omega), by first | omega | (simp only; omega)⟩).trans (by first | omega | (simp only; omega)))) rfl ?_
                refine EL.as rfl rfl (EL.nil ?_);refine EX.roundD (k2 + 1) ⟨agree_b (inF_step false (by simp only [hm, h0, decide_true, decide_false, Bool.true_and, Bool.false_and, Bool.and_true, Bool.and_false, Bool.or_true, Bool.true_or, Bool.or_false, Bool.false_or, Bool.not_true, Bool.not_false])) rfl, rfl, trivial⟩ (by repeat first | with_reducible exact .refl _ | refine sp_ rfl ?_ | exact .refl _ | refine sd_ rfl ?_ | refine sn_ ?_) ⟨hlt2, hbk⟩ (by omega)
              ·
               refine EC.regionQ (by kernel_rfl) (by kernel_rfl) ?_
               refine EQ.mv rfl rfl (EQ.mv rfl rfl (EQ.skip rfl rfl rfl rfl (EQ.skip rfl rfl rfl rfl (EQ.skip rfl rfl rfl rfl (EQ.skip rfl rfl rfl rfl (EQ.skip rfl rfl rfl rfl (EQ.skip rfl rfl rfl rfl (EQ.skip rfl rfl rfl rfl (EQ.skip rfl rfl rfl rfl ?_)))))))));refine EQ.skip rfl rfl rfl rfl (EQ.skip rfl rfl rfl rfl (EQ.skip rfl rfl rfl rfl (EQ.skip rfl rfl rfl rfl (EQ.skip rfl rfl rfl rfl (EQ.skip rfl rfl rfl rfl (EQ.skip rfl rfl rfl rfl (EQ.skip rfl rfl rfl rfl (EQ.skip rfl rfl rfl rfl (EQ.skip rfl rfl rfl rfl ?_)))))))));refine EQ.skip rfl rfl rfl rfl (EQ.skip rfl rfl rfl rfl (EQ.skip rfl rfl rfl rfl (EQ.skip rfl rfl rfl rfl (EQ.skip rfl rfl rfl rfl (EQ.skip rfl rfl rfl rfl (EQ.skip rfl rfl rfl rfl (EQ.skip rfl rfl rfl rfl (EQ.skip rfl rfl rfl rfl (EQ.skip rfl rfl rfl rfl ?_)))))))));refine EQ.skip rfl rfl rfl rfl (EQ.skip rfl rfl rfl rfl (EQ.skip rfl rfl rfl rfl (EQ.skip rfl rfl rfl rfl (EQ.skip rfl rfl rfl rfl (EQ.skip rfl rfl rfl rfl (EQ.skip rfl rfl rfl rfl (EQ.skip rfl rfl rfl rfl (EQ.skip rfl rfl rfl rfl (EQ.skip rfl rfl rfl rfl ?_)))))))));refine EQ.skip rfl rfl rfl rfl ?_;refine EQ.val (fun _ hw => (x_pick_t rfl rfl)) rfl ?_
               refine EQ.val (fun _ hw => (x_assign rfl)) rfl ?_
               refine EQ.fin (fun w17 hw_ => ?_)
               replace q1 := q1.bl hw_;replace q2 := q2.bl hw_;replace q4 := q4.bl hw_;replace q9 := q9.bl hw_;replace hx := own_below hx hw_ (Nat.le_refl _);replace hjs := own_below hjs hw_ (Nat.le_refl _);replace hbf := own_below hbf hw_ (Nat.le_refl _);replace hbu := own_below hbu hw_ (Nat.le_refl _);replace hO := hO.below hw_;replace hbh := own_below hbh hw_ (Nat.le_refl _);replace hbv := own_below hbv hw_ (Nat.le_refl _);replace hbw := bo_ hbw hw_;replace hbl := bo_ hbl hw_;replace hbk := bo_ hbk hw_;clear hw_;refine EX.blk (EX.seq (EC.region (EL.mv rfl rfl ?_)));refine EL.val (x_add rfl rfl (c := ((k2 + 1 : Nat) : Int)) ((IntWalk.i64_in _ ⟨by first | omega | (simp only; omega), by first | omega | (simp only; omega)⟩).trans (by first | omega | (simp only; omega)))) rfl ?_
               refine EL.as rfl rfl (EL.nil ?_);refine EX.roundD (k2 + 1) ⟨agree_b (inF_step true (by simp only [hm, decide_true, decide_false, Bool.true_and, Bool.false_and, Bool.and_true, Bool.and_false, Bool.or_true, Bool.true_or, Bool.or_false, Bool.false_or, Bool.not_true, Bool.not_false])) rfl, rfl, trivial⟩ (by repeat first | with_reducible exact .refl _ | refine sp_ rfl ?_ | exact .refl _ | refine sd_ rfl ?_ | refine sn_ ?_) ⟨hlt2, hbk⟩ (by omega)
             ·
              obtain rfl : k2 = (audE ru l).length := by omega
              rw [show inF ((audE (betR ru k pn qn y1) l).getD i ⟨0, 0, false⟩) (audE ru l) (audE ru l).length = true from cov_in hcov hlt];refine EC.seq (EC.seq (EC.region (EL.mv rfl rfl (EL.mv rfl rfl (EL.val (ln_32 rfl) rfl ?_)))));refine EL.val (x_lss rfl rfl (decide_eq_false (show ¬((((audE ru l).length : Nat) : Int) < (((audE ru l).length : Nat) : Int)) by omega))) rfl ?_
              refine EL.nil (EX.seq (EC.no rfl (EC.exit (EX.seq_exit (EX.seq_exit (EX.blk_here (EX.seq (EC.seq (EC.region ?_)))))))));refine EL.mv rfl rfl (EL.val (x_not rfl) rfl (EL.nil (EX.seq (EC.no rfl (EC.skip (EX.blk (EX.seq (EC.region (EL.mv rfl rfl ?_)))))))));refine EL.val (x_add rfl rfl (c := ((i + 1 : Nat) : Int)) ((IntWalk.i64_in _ ⟨by first | omega | (simp only; omega), by first | omega | (simp only; omega)⟩).trans (by first | omega | (simp only; omega)))) rfl ?_
              refine EL.as rfl rfl (EL.nil ?_);refine EX.roundD (i + 1) ⟨rfl, trivial⟩ (by repeat first | with_reducible exact .refl _ | refine sp_ rfl ?_ | exact .refl _ | refine sd_ rfl ?_ | refine sn_ ?_) ⟨hlt, hbl⟩ (by omega)
            ·
             obtain rfl : i = (audE (betR ru k pn qn y1) l).length := by omega
             refine EC.seq (EC.seq (EC.region (EL.mv rfl rfl (EL.mv rfl rfl (EL.val (ln_32 rfl) rfl ?_)))));refine EL.val (x_lss rfl rfl (decide_eq_false (show ¬((((audE (betR ru k pn qn y1) l).length : Nat) : Int) < (((audE (betR ru k pn qn y1) l).length : Nat) : Int)) by omega))) rfl ?_
             refine EL.nil (EX.seq (EC.no rfl (EC.exit (EX.seq_exit (EX.seq_exit (EX.blk_here (EX.seq (EC.seq (EC.region ?_)))))))));refine EL.call (cA0 cF12) rfl (known_any _) ?_
             rintro e w18 ⟨rfl, hc18⟩
             refine ⟨_, rfl, ?_⟩;replace q1 := q1.bl hc18;replace q2 := q2.bl hc18;replace q4 := q4.bl hc18;replace q9 := q9.bl hc18;replace hx := own_below hx hc18 (Nat.le_refl _);replace hjs := own_below hjs hc18 (Nat.le_refl _);replace hbf := own_below hbf hc18 (Nat.le_refl _);replace hbu := own_below hbu hc18 (Nat.le_refl _);replace hO := hO.below hc18;replace hbh := own_below hbh hc18 (Nat.le_refl _);replace hbv := own_below hbv hc18 (Nat.le_refl _);replace hbw := bo_ hbw hc18;replace hbl := bo_ hbl hc18;clear hc18;refine EL.as rfl rfl (EL.nil (EX.seq (EC.ret ?_)))
             exact EX.done (res1 rfl rfl) ⟨rfl, hbw⟩
end Go.Proofs.Ytdkedhcbdbpccaa
