/- X37, WsFam, ExX38, X38, WsLift3, WsLift5, WsTruth, E28, ExX39, X40, WsMono, WsRef, X29, WsVer, X33, WsNever, X34, X35: what WashFewestProof needs of them (merged by trimpack.py). -/
import Derived.Test.YtdkedhcbdbpccaaFewestT4
set_option linter.unusedVariables false
set_option linter.unusedSimpArgs false
namespace Go.Proofs.Ytdkedhcbdbpccaa
open Go Go.RowKit
theorem ints_app (a b : List Int) : ints (a ++ b) = ints a ++ ints b := by simp [ints]
theorem jobs_end {W : World} {base i m : Nat} {v : Value} {l : List Int} (hx : i = min l.length m) (h : W.ownsRow base 3 1 v i (ints ((l.take i).map fun x => x.tmod 4))) : W.ownsRow base 3 1 v (jobsL l m).length (ints (jobsL l m)) := by
 have e : l.take i = l.take m := by
  subst hx
  rcases Nat.le_total l.length m with h1 | h1
  ·rw [Nat.min_eq_left h1, List.take_length, List.take_of_length_le h1]
  ·rw [Nat.min_eq_right h1]
 have e2 : (jobsL l m).length = i := by simp [jobsL, hx, Nat.min_comm]
 rw [e2, jobsL, ← e]
 exact h
theorem jobs_any {l : List Int} {v : Value} {w : World} {B : Nat} (hl : Rd w B 1 v l.length (u8s l)) (hB : B ≤ w.heap.size) (hb : ∀ i, i < l.length → byte (l.getD i 0)) (m : Nat) (hm : m ≤ 1000) :
  Calls Try.prog 31 #[v, .int .i64 (m : Nat)] w fun e w' => (∃ v', e = .returned v' ∧ w'.ownsRow w.heap.size 3 1 v' (jobsL l m).length (ints (jobsL l m))) ∧ Below w.heap.size w w' := by
 obtain ⟨Ae, ce, rfl, _⟩ := hl.shape;have hbw := Below.refl w.heap.size w;refine EC.enter 29 Try.func31 rfl rfl rfl (EC.seq (EC.region (EL.as rfl rfl (EL.nil (EX.seq (EC.seq (EC.region (EL.newS (bs_22_0) rfl ?_))))))));intro g1 w1 q1 hb1 hg1 hl1;have bhbw_1 := Nat.le_trans hbw.size hg1;have hbg1 : w.heap.size ≤ g1 := Nat.le_trans hbw.size hg1;replace hbw := bo_ hbw hb1;clear hb1 hg1 hl1;have hO : w1.ownsRow w.heap.size 3 1 (.slice (some ⟨g1, 0, none⟩) 0 0) 0 [] := own_empty 1 q1 hbg1;refine EL.as rfl rfl (EL.nil (EX.seq (EC.seq (EC.seq (EC.region (EL.as rfl rfl (EL.nil (EX.seq (EC.block ?_)))))))));refine EC.loopD [5, 6, 8, 9, 10, 11, 12, 13, 14, 15, 16, 17, 18, 19, 20, 21, 22, 23, 24, 25, 26, 27] (fun x : Nat × Value => [(6, .int .i64 (x.1 : Nat)), (5, x.2)]) (fun x W => (x.1 ≤ l.length ∧ x.1 ≤ m) ∧ W.ownsRow w.heap.size 3 1 x.2 x.1 (ints ((l.take x.1).map fun x => x.tmod 4)) ∧ Below w.heap.size w W) (fun x => l.length - x.1) (0, .slice (some ⟨g1, 0, none⟩) 0 0) ⟨⟨Nat.zero_le _, Nat.zero_le _⟩, hO, hbw⟩ ⟨rfl, rfl, trivial⟩ ?_
 clear hbw hO
 rintro ⟨i, v3⟩ wx ⟨⟨hi, hi2⟩, hO, hbw⟩
 dsimp only at hi hi2 hO
 by_cases hlt : i < l.length
 ·
  by_cases hlm : i < m
  ·
   obtain ⟨bx, ox, ebx, _, x0⟩ := u8s_cells l i hlt wx B _ _ _ (hl.below (hbw.mono hB));have hby := hb i hlt;refine EC.seq (EC.seq (EC.region (EL.mv rfl rfl (EL.mv rfl rfl (EL.val (ln_79 rfl) rfl ?_)))));refine EL.val (x_lss rfl rfl (decide_eq_true (show (((i : Nat) : Int) < ((l.length : Nat) : Int)) by omega))) rfl ?_
   refine EL.mv rfl rfl (EL.mg rfl rfl rfl rfl (EL.mg rfl rfl rfl rfl ?_));refine EL.valg rfl rfl (x_lss rfl rfl (decide_eq_true (show (((i : Nat) : Int) < ((m : Nat) : Int)) by omega))) rfl ?_
   refine EL.pt rfl rfl rfl (EL.nil (EX.seq (EC.yes rfl (EC.skip (EX.seq (EC.seq (EC.block (EC.region (EL.mv rfl rfl ?_)))))))));refine EL.mv rfl rfl (EL.mv rfl rfl ?_);refine EL.val (ix_79 (by show some (Value.slice Ae _ _) = _; rw [ebx]) rfl hlt) rfl ?_
   refine EL.val (ld_5 rfl x0) rfl (EL.val (cv_5_3 rfl (wrap_byte hby)) rfl ?_);refine EL.val (x_rem rfl rfl (by decide) rfl) rfl ?_
   refine EL.newS (bs_22_1 rfl) rfl ?_;intro g2 w2 q2 hb2 hg2 hl2;have bhbw_2 := Nat.le_trans hbw.size hg2;have hbg2 : w.heap.size ≤ g2 := Nat.le_trans hbw.size hg2;replace hO := own_below hO hb2 (Nat.le_refl _);replace hbw := bo_ hbw hb2;clear hb2 hg2 hl2;refine EL.push ir_elem rfl rfl hO (rd_one (l := [.int .i64 ((l.getD i 0).tmod 4)]) q2 rfl) (by intro u hu; simp only [List.mem_cons, List.not_mem_nil, or_false] at hu; subst hu; rfl) (by omega) rfl hbw.size rfl ?_
   intro v9 w9 ho9 hgr hb_ hat;replace hbw := hbw.trans hb_;clear hO hgr hb_ hat;refine EL.as rfl rfl (EL.nil (EX.blk (EX.seq (EC.region (EL.mv rfl rfl ?_)))));refine EL.val (x_add rfl rfl (c := ((i + 1 : Nat) : Int)) ((IntWalk.i64_in _ ⟨by first | omega | (simp only; omega), by first | omega | (simp only; omega)⟩).trans (by first | omega | (simp only; omega)))) rfl ?_
   refine EL.as rfl rfl (EL.nil ?_);refine EX.roundD (i + 1, v9) ⟨rfl, rfl, trivial⟩ (by repeat first | with_reducible exact .refl _ | refine sp_ rfl ?_ | exact .refl _ | refine sd_ rfl ?_ | refine sn_ ?_) ⟨⟨hlt, hlm⟩, by simp only; rw [take_map_succ _ l 0 hlt, ints_app]; exact ho9, hbw⟩ (by simp only; omega)
  ·
   have hxe : i = min l.length m := by omega
   refine EC.seq (EC.seq (EC.region (EL.mv rfl rfl (EL.mv rfl rfl (EL.val (ln_79 rfl) rfl ?_)))));refine EL.val (x_lss rfl rfl (decide_eq_true (show (((i : Nat) : Int) < ((l.length : Nat) : Int)) by omega))) rfl ?_
   refine EL.mv rfl rfl (EL.mg rfl rfl rfl rfl (EL.mg rfl rfl rfl rfl ?_));refine EL.valg rfl rfl (x_lss rfl rfl (decide_eq_false (show ¬(((i : Nat) : Int) < ((m : Nat) : Int)) by omega))) rfl ?_
   refine EL.pt rfl rfl rfl (EL.nil (EX.seq (EC.no rfl (EC.exit (EX.seq_exit (EX.seq_exit (EX.blk_here (EX.seq (EC.seq ?_)))))))));refine EC.region (EL.mv rfl rfl (EL.as rfl rfl (EL.nil (EX.seq (EC.ret ?_)))))
   exact EX.done (res1 rfl rfl) ⟨⟨_, rfl, jobs_end hxe hO⟩, hbw⟩
 ·
  have hxe : i = min l.length m := by omega
  refine EC.seq (EC.seq (EC.region (EL.mv rfl rfl (EL.mv rfl rfl (EL.val (ln_79 rfl) rfl ?_)))));refine EL.val (x_lss rfl rfl (decide_eq_false (show ¬(((i : Nat) : Int) < ((l.length : Nat) : Int)) by omega))) rfl ?_
  refine EL.mv rfl rfl (EL.skip rfl rfl rfl rfl (EL.skip rfl rfl rfl rfl (EL.skip rfl rfl rfl rfl (EL.pf rfl rfl rfl (EL.nil (EX.seq (EC.no rfl (EC.exit (EX.seq_exit ?_)))))))));refine EX.seq_exit (EX.blk_here (EX.seq (EC.seq (EC.region (EL.mv rfl rfl (EL.as rfl rfl (EL.nil (EX.seq (EC.ret ?_)))))))))
  exact EX.done (res1 rfl rfl) ⟨⟨_, rfl, jobs_end hxe hO⟩, hbw⟩
theorem evsC_app (a b : List Ev) : evsC (a ++ b) = evsC a ++ evsC b := List.flatMap_append
theorem getD_mem {α : Type} {l : List α} {i : Nat} (h : i < l.length) (d : α) : l.getD i d ∈ l := by rw [getD_in h]; exact List.getElem_mem h
theorem hist_end {W : World} {base i K : Nat} {v : Value} {l : List (Int × Int)} (hx : i = min l.length 30) (h : W.ownsRow base 50 2 v i (evsC ((l.take i).map (smEv K)))) : W.ownsRow base 50 2 v (smHist K l).length (evsC (smHist K l)) := by
 have e : l.take i = l.take 30 := by
  subst hx
  rcases Nat.le_total l.length 30 with h1 | h1
  ·rw [Nat.min_eq_left h1, List.take_length, List.take_of_length_le h1]
  ·rw [Nat.min_eq_right h1]
 have e2 : (smHist K l).length = i := by simp [smHist, hx, Nat.min_comm]
 rw [e2, smHist, ← e]
 exact h
theorem history_any {x : Sml} (hok : SmlOk x) {vks ves : Value} {w : World} {B : Nat} (hl : Rd w B 2 ves x.events.length (e2s x.events)) (hB : B ≤ w.heap.size) {ru : Rules} {vl va vp : Value} {Ak : Option Addr} {ck : Nat} (hkn : ru.kinds.length ≤ 1000) :
  Calls Try.prog 30 #[.agg (smC x.b vks ves).toArray, rulesV vl va vp (.slice Ak ru.kinds.length ck) ru] w fun e w' => (∃ v', e = .returned v' ∧ w'.ownsRow w.heap.size 50 2 v' (smHist ru.kinds.length x.events).length (evsC (smHist ru.kinds.length x.events))) ∧ Below w.heap.size w w' := by
 obtain ⟨Ae, ce, rfl, _⟩ := hl.shape;have hbw := Below.refl w.heap.size w
 unfold rulesV
 refine EC.enter 55 Try.func30 rfl rfl rfl (EC.seq (EC.region (EL.newP (x_boxA rfl) rfl ?_)));intro g1 w1 q1 hb1 hg1 hl1;have bhbw_1 := Nat.le_trans hbw.size hg1;have hbg1 : w.heap.size ≤ g1 := Nat.le_trans hbw.size hg1;replace hbw := bo_ hbw hb1;clear hb1 hg1 hl1;refine EL.newP (bx_28 rfl) rfl ?_;intro g2 w2 q2 hb2 hg2 hl2;have n1_2 := q1.na hg2;have bhbw_2 := Nat.le_trans hbw.size hg2;have hbg2 : w.heap.size ≤ g2 := Nat.le_trans hbw.size hg2;replace q1 := q1.bl hb2;replace hbw := bo_ hbw hb2;clear hb2 hg2 hl2;refine EL.as rfl rfl (EL.nil (EX.seq (EC.seq (EC.region (EL.newS (bs_29_0) rfl ?_)))));intro g3 w3 q3 hb3 hg3 hl3;have n1_3 := q1.na hg3;have n2_3 := q2.na hg3;have bhbw_3 := Nat.le_trans hbw.size hg3;have hbg3 : w.heap.size ≤ g3 := Nat.le_trans hbw.size hg3;replace q1 := q1.bl hb3;replace q2 := q2.bl hb3;replace hbw := bo_ hbw hb3;clear hb3 hg3 hl3;have hO : w3.ownsRow w.heap.size 50 2 (.slice (some ⟨g3, 0, none⟩) 0 0) 0 [] := own_empty 2 q3 hbg3;refine EL.as rfl rfl (EL.nil (EX.seq (EC.seq (EC.seq (EC.region (EL.as rfl rfl (EL.nil (EX.seq (EC.block ?_)))))))));refine EC.loopD [5, 6, 7, 9, 10, 11, 12, 13, 14, 15, 16, 17, 18, 19, 20, 21, 22, 23, 24, 25, 26, 27, 28, 29, 30, 31, 32, 33, 34, 35, 36, 37, 38, 39, 40, 41, 42, 43, 44, 45, 46, 47, 48, 49, 50, 51, 52, 53] (fun x_ : Nat × Value => [(6, .int .i64 (x_.1 : Nat)), (5, x_.2)]) (fun x_ W => (x_.1 ≤ x.events.length ∧ x_.1 ≤ 30) ∧ W.ownsRow w.heap.size 50 2 x_.2 x_.1 (evsC ((x.events.take x_.1).map (smEv ru.kinds.length))) ∧ Below w.heap.size w W ∧ Blk W g1 78 (smC x.b vks (.slice Ae x.events.length ce)).toArray ∧ Blk W g2 28 #[vl, .int .i64 ru.fade.lo, .int .i64 ru.fade.hi, va, vp, .slice Ak ru.kinds.length ck]) (fun x_ => x.events.length - x_.1) (0, .slice (some ⟨g3, 0, none⟩) 0 0) ⟨⟨Nat.zero_le _, Nat.zero_le _⟩, hO, hbw, q1, q2⟩ ⟨rfl, rfl, trivial⟩ ?_
 clear hbw hO q1 q2
 rintro ⟨i, v3⟩ wx ⟨⟨hi, hi2⟩, hO, hbw, q1, q2⟩
 dsimp only at hi hi2 hO
 by_cases hlt : i < x.events.length
 ·
  by_cases hlm : i < 30
  ·
   obtain ⟨bx, ox, ebx, _, x0, x1⟩ := e2s_cells x.events i hlt wx B _ _ _ (hl.below (hbw.mono hB));obtain ⟨hy0, hy1⟩ := hok.e _ (getD_mem hlt (0, 0));refine EC.seq (EC.seq (EC.region (EL.mv rfl rfl (EL.val (fa_78_5 rfl) rfl (EL.val (ld_76 rfl (q1.cellA (smC_e _ _ _))) rfl (EL.val (ln_76 rfl) rfl ?_))))));refine EL.val (x_lss rfl rfl (decide_eq_true (show (((i : Nat) : Int) < ((x.events.length : Nat) : Int)) by omega))) rfl ?_
   refine EL.mv rfl rfl (EL.mg rfl rfl rfl rfl ?_);refine EL.valg rfl rfl (x_lss rfl rfl (decide_eq_true (show (((i : Nat) : Int) < ((30 : Nat) : Int)) by omega))) rfl ?_
   refine EL.pt rfl rfl rfl (EL.nil (EX.seq (EC.yes rfl (EC.skip (EX.seq (EC.seq (EC.block (EC.seq (EC.region ?_)))))))));refine EL.val (fa_78_5 rfl) rfl (EL.val (ld_76 rfl (q1.cellA (smC_e _ _ _))) rfl (EL.mv rfl rfl ?_));refine EL.val (ix_76 (by show some (Value.slice Ae _ _) = _; rw [ebx]) rfl hlt) rfl ?_
   refine EL.val (ld_74 rfl x0 x1) rfl (EL.newP al_74 rfl ?_);intro g4 w4 q4 hb4 hg4 hl4;have n1_4 := q1.na hg4;have n2_4 := q2.na hg4;have bhbw_4 := Nat.le_trans hbw.size hg4;have hbg4 : w.heap.size ≤ g4 := Nat.le_trans hbw.size hg4;replace q1 := q1.bl hb4;replace q2 := q2.bl hb4;replace hO := own_below hO hb4 (Nat.le_refl _);replace hbw := bo_ hbw hb4;clear hb4 hg4 hl4;refine EL.store rfl rfl q4 sz_74 rfl rfl rfl rfl ?_;intro w5 hq5 hg5;replace q1 := q1.gr hg5 n1_4;replace q2 := q2.gr hg5 n2_4;replace hO := own_type hO q4 rfl hg5;replace hbw := below_store hbw hg5 bhbw_4;replace q4 := hq5;clear hg5 hq5;refine EL.nil (EX.seq (EC.seq (EC.region ?_)));refine EL.val (ixa_74 (k := 0) rfl rfl (by omega)) rfl ?_
   refine EL.val (ld_5 rfl (q4.at (j := 0) rfl)) rfl ?_;refine EL.val (x_rem rfl rfl (by decide) rfl) rfl ?_
   by_cases ho : (x.events.getD i (0, 0)).1.tmod 2 = 1
   ·
    refine EL.val (x_eql (r := true) rfl rfl (decide_eq_true ho)) rfl (EL.mv rfl rfl (EL.valg rfl rfl (fa_28_4 rfl) rfl (EL.valg rfl rfl (ld_26 rfl (q2.at (j := 5) rfl)) rfl (EL.valg rfl rfl (ln_26 rfl) rfl ?_))))
    by_cases hk : 0 < ru.kinds.length
    ·
     refine EL.valg rfl rfl (x_gtr (r := true) rfl rfl (decide_eq_true (by omega))) rfl ?_
     refine EL.pt rfl rfl rfl (EL.nil (EX.seq (EC.yes rfl (EC.region (EL.mv rfl rfl ?_)))));refine EL.val (ixa_74 (k := 1) rfl rfl (by omega)) rfl ?_
     refine EL.val (ld_5 rfl (q4.at (j := 1) rfl)) rfl (EL.val (cv_5_3 rfl (wrap_byte hy1)) rfl (EL.val (fa_28_4 rfl) rfl (EL.val (ld_26 rfl (q2.at (j := 5) rfl)) rfl (EL.val (ln_26 rfl) rfl ?_))));refine EL.val (x_rem rfl rfl (by omega) rfl) rfl ?_
     refine EL.call (cA1 cF45 rfl) rfl (lclean_any _ _) ?_
     rintro e w6 ⟨rfl, hc6⟩
     refine ⟨_, rfl, ?_⟩;replace q1 := q1.bl hc6;replace q2 := q2.bl hc6;replace q4 := q4.bl hc6;replace hO := own_below hO hc6 (Nat.le_refl _);replace hbw := bo_ hbw hc6;clear hc6;refine EL.newS (bs_29_1 rfl) rfl ?_;intro g7 w7 q7 hb7 hg7 hl7;have n1_7 := q1.na hg7;have n2_7 := q2.na hg7;have n4_7 := q4.na hg7;have bhbw_7 := Nat.le_trans hbw.size hg7;have hbg7 : w.heap.size ≤ g7 := Nat.le_trans hbw.size hg7;replace q1 := q1.bl hb7;replace q2 := q2.bl hb7;replace q4 := q4.bl hb7;replace hO := own_below hO hb7 (Nat.le_refl _);replace hbw := bo_ hbw hb7;clear hb7 hg7 hl7;have hev : smEv ru.kinds.length (x.events.getD i (0, 0)) = ⟨2, (x.events.getD i (0, 0)).2.tmod (ru.kinds.length : Nat)⟩ := if_pos ⟨ho, hk⟩;refine EL.push ev_elem rfl rfl hO (rd_one (l := evC ⟨2, (x.events.getD i (0, 0)).2.tmod (ru.kinds.length : Nat)⟩) q7 rfl) (evsC_one [⟨2, (x.events.getD i (0, 0)).2.tmod (ru.kinds.length : Nat)⟩]) (by omega) rfl hbw.size rfl ?_
     intro v9 w9 ho9 hgr hb_ hat;replace hbw := hbw.trans hb_;replace q1 := blk_grown q1 hO rfl hgr;replace q2 := blk_grown q2 hO rfl hgr;clear hO hgr hb_ hat;refine EL.as rfl rfl (EL.nil (EX.blk (EX.seq (EC.region (EL.mv rfl rfl ?_)))));refine EL.val (x_add rfl rfl (c := ((i + 1 : Nat) : Int)) ((IntWalk.i64_in _ ⟨by first | omega | (simp only; omega), by first | omega | (simp only; omega)⟩).trans (by first | omega | (simp only; omega)))) rfl ?_
     refine EL.as rfl rfl (EL.nil ?_);refine EX.roundD (i + 1, v9) ⟨rfl, rfl, trivial⟩ (by repeat first | with_reducible exact .refl _ | refine sp_ rfl ?_ | exact .refl _ | refine sd_ rfl ?_ | refine sn_ ?_) ⟨⟨hlt, hlm⟩, by simp only; rw [take_map_succ _ _ (0, 0) hlt, evsC_app, hev]; exact ho9, hbw, q1, q2⟩ (by simp only; omega)
    ·
     refine EL.valg rfl rfl (x_gtr (r := false) rfl rfl (decide_eq_false (by omega))) rfl ?_
     refine EL.pt rfl rfl rfl (EL.nil (EX.seq (EC.no rfl (EC.region (EL.mv rfl rfl ?_)))));refine EL.val (ixa_74 (k := 1) rfl rfl (by omega)) rfl ?_
     refine EL.val (ld_5 rfl (q4.at (j := 1) rfl)) rfl (EL.val (cv_5_3 rfl (wrap_byte hy1)) rfl ?_);refine EL.val (x_rem rfl rfl (by decide) rfl) rfl ?_
     refine EL.call (cA1 cF46 rfl) rfl (lload_any _ _) ?_
     rintro e w8 ⟨rfl, hc8⟩
     refine ⟨_, rfl, ?_⟩;replace q1 := q1.bl hc8;replace q2 := q2.bl hc8;replace q4 := q4.bl hc8;replace hO := own_below hO hc8 (Nat.le_refl _);replace hbw := bo_ hbw hc8;clear hc8;refine EL.newS (bs_29_1 rfl) rfl ?_;intro g9 w9 q9 hb9 hg9 hl9;have n1_9 := q1.na hg9;have n2_9 := q2.na hg9;have n4_9 := q4.na hg9;have bhbw_9 := Nat.le_trans hbw.size hg9;have hbg9 : w.heap.size ≤ g9 := Nat.le_trans hbw.size hg9;replace q1 := q1.bl hb9;replace q2 := q2.bl hb9;replace q4 := q4.bl hb9;replace hO := own_below hO hb9 (Nat.le_refl _);replace hbw := bo_ hbw hb9;clear hb9 hg9 hl9;have hev : smEv ru.kinds.length (x.events.getD i (0, 0)) = ⟨1, (x.events.getD i (0, 0)).2.tmod 4⟩ := if_neg (fun h => hk h.2)
     refine EL.push ev_elem rfl rfl hO (rd_one (l := evC ⟨1, (x.events.getD i (0, 0)).2.tmod 4⟩) q9 rfl) (evsC_one [⟨1, (x.events.getD i (0, 0)).2.tmod 4⟩]) (by omega) rfl hbw.size rfl ?_
     intro v9 w9 ho9 hgr hb_ hat;replace hbw := hbw.trans hb_;replace q1 := blk_grown q1 hO rfl hgr;replace q2 := blk_grown q2 hO rfl hgr;clear hO hgr hb_ hat;refine EL.as rfl rfl (EL.nil (EX.blk (EX.seq (EC.region (EL.mv rfl rfl ?_)))));refine EL.val (x_add rfl rfl (c := ((i + 1 : Nat) : Int)) ((IntWalk.i64_in _ ⟨by first | omega | (simp only; omega), by first | omega | (simp only; omega)⟩).trans (by first | omega | (simp only; omega)))) rfl ?_
     refine EL.as rfl rfl (EL.nil ?_);refine EX.roundD (i + 1, v9) ⟨rfl, rfl, trivial⟩ (by repeat first | with_reducible exact .refl _ | refine sp_ rfl ?_ | exact .refl _ | refine sd_ rfl ?_ | refine sn_ ?_) ⟨⟨hlt, hlm⟩, by simp only; rw [take_map_succ _ _ (0, 0) hlt, evsC_app, hev]; exact ho9, hbw, q1, q2⟩ (by simp only; omega)
   ·
    refine EL.val (x_eql (r := false) rfl rfl (decide_eq_false ho)) rfl (EL.mv rfl rfl (EL.skip rfl rfl rfl rfl (EL.skip rfl rfl rfl rfl (EL.skip rfl rfl rfl rfl (EL.skip rfl rfl rfl rfl (EL.pf rfl rfl rfl (EL.nil (EX.seq (EC.no rfl ?_)))))))));refine EC.region (EL.mv rfl rfl ?_);refine EL.val (ixa_74 (k := 1) rfl rfl (by omega)) rfl ?_
    refine EL.val (ld_5 rfl (q4.at (j := 1) rfl)) rfl (EL.val (cv_5_3 rfl (wrap_byte hy1)) rfl ?_);refine EL.val (x_rem rfl rfl (by decide) rfl) rfl ?_
    refine EL.call (cA1 cF46 rfl) rfl (lload_any _ _) ?_
    rintro e w10 ⟨rfl, hc10⟩
    refine ⟨_, rfl, ?_⟩;replace q1 := q1.bl hc10;replace q2 := q2.bl hc10;replace q4 := q4.bl hc10;replace hO := own_below hO hc10 (Nat.le_refl _);replace hbw := bo_ hbw hc10;clear hc10;refine EL.newS (bs_29_1 rfl) rfl ?_;intro g11 w11 q11 hb11 hg11 hl11;have n1_11 := q1.na hg11;have n2_11 := q2.na hg11;have n4_11 := q4.na hg11;have bhbw_11 := Nat.le_trans hbw.size hg11;have hbg11 : w.heap.size ≤ g11 := Nat.le_trans hbw.size hg11;replace q1 := q1.bl hb11;replace q2 := q2.bl hb11;replace q4 := q4.bl hb11;replace hO := own_below hO hb11 (Nat.le_refl _);replace hbw := bo_ hbw hb11;clear hb11 hg11 hl11;have hev : smEv ru.kinds.length (x.events.getD i (0, 0)) = ⟨1, (x.events.getD i (0, 0)).2.tmod 4⟩ := if_neg (fun h => ho h.1)
    refine EL.push ev_elem rfl rfl hO (rd_one (l := evC ⟨1, (x.events.getD i (0, 0)).2.tmod 4⟩) q11 rfl) (evsC_one [⟨1, (x.events.getD i (0, 0)).2.tmod 4⟩]) (by omega) rfl hbw.size rfl ?_
    intro v9 w9 ho9 hgr hb_ hat;replace hbw := hbw.trans hb_;replace q1 := blk_grown q1 hO rfl hgr;replace q2 := blk_grown q2 hO rfl hgr;clear hO hgr hb_ hat;refine EL.as rfl rfl (EL.nil (EX.blk (EX.seq (EC.region (EL.mv rfl rfl ?_)))));refine EL.val (x_add rfl rfl (c := ((i + 1 : Nat) : Int)) ((IntWalk.i64_in _ ⟨by first | omega | (simp only; omega), by first | omega | (simp only; omega)⟩).trans (by first | omega | (simp only; omega)))) rfl ?_
    refine EL.as rfl rfl (EL.nil ?_);refine EX.roundD (i + 1, v9) ⟨rfl, rfl, trivial⟩ (by repeat first | with_reducible exact .refl _ | refine sp_ rfl ?_ | exact .refl _ | refine sd_ rfl ?_ | refine sn_ ?_) ⟨⟨hlt, hlm⟩, by simp only; rw [take_map_succ _ _ (0, 0) hlt, evsC_app, hev]; exact ho9, hbw, q1, q2⟩ (by simp only; omega)
  ·
   have hxe : i = min x.events.length 30 := by omega
   refine EC.seq (EC.seq (EC.region (EL.mv rfl rfl (EL.val (fa_78_5 rfl) rfl (EL.val (ld_76 rfl (q1.cellA (smC_e _ _ _))) rfl (EL.val (ln_76 rfl) rfl ?_))))));refine EL.val (x_lss rfl rfl (decide_eq_true (show (((i : Nat) : Int) < ((x.events.length : Nat) : Int)) by omega))) rfl ?_
   refine EL.mv rfl rfl (EL.mg rfl rfl rfl rfl ?_);refine EL.valg rfl rfl (x_lss rfl rfl (decide_eq_false (show ¬(((i : Nat) : Int) < ((30 : Nat) : Int)) by omega))) rfl ?_
   refine EL.pt rfl rfl rfl (EL.nil (EX.seq (EC.no rfl (EC.exit (EX.seq_exit (EX.seq_exit (EX.blk_here (EX.seq (EC.seq ?_)))))))));refine EC.region (EL.mv rfl rfl (EL.as rfl rfl (EL.nil (EX.seq (EC.ret ?_)))))
   exact EX.done (res1 rfl rfl) ⟨⟨_, rfl, hist_end hxe hO⟩, hbw⟩
 ·
  have hxe : i = min x.events.length 30 := by omega
  refine EC.seq (EC.seq (EC.region (EL.mv rfl rfl (EL.val (fa_78_5 rfl) rfl (EL.val (ld_76 rfl (q1.cellA (smC_e _ _ _))) rfl (EL.val (ln_76 rfl) rfl ?_))))));refine EL.val (x_lss rfl rfl (decide_eq_false (show ¬(((i : Nat) : Int) < ((x.events.length : Nat) : Int)) by omega))) rfl ?_
  refine EL.mv rfl rfl (EL.skip rfl rfl rfl rfl (EL.skip rfl rfl rfl rfl (EL.pf rfl rfl rfl (EL.nil (EX.seq (EC.no rfl (EC.exit (EX.seq_exit (EX.seq_exit ?_)))))))));refine EX.blk_here (EX.seq (EC.seq (EC.region (EL.mv rfl rfl (EL.as rfl rfl (EL.nil (EX.seq (EC.ret ?_))))))))
  exact EX.done (res1 rfl rfl) ⟨⟨_, rfl, hist_end hxe hO⟩, hbw⟩
def fu {α : Type} (f : Nat → α) (i : Nat) (a : α) : Nat → α := fun k => if k = i then a else f k
theorem fu_eq {α : Type} (f : Nat → α) (i : Nat) (a : α) : fu f i a i = a := if_pos rfl
theorem fu_ne {α : Type} {f : Nat → α} {i k : Nat} {a : α} (h : k ≠ i) : fu f i a k = f k := if_neg h
/-- N rows of one's own, of one cell an element, all in blocks of their own -/
structure Fam (W : World) (base N : Nat) (t : Nat → Nat) (v : Nat → Value) (x : Nat → List Value) : Prop where
 own : ∀ i, i < N → W.ownsRow base (t i) 1 (v i) (x i).length (x i)
 apart : ∀ i j, i < N → j < N → i ≠ j → ∀ k, (v i).ownBlock = some k → (v j).ownBlock ≠ some k
section
variable {W W' : World} {base N : Nat} {t : Nat → Nat} {v : Nat → Value} {x : Nat → List Value}
theorem Fam.below (h : Fam W base N t v x) (hb : Below W.heap.size W W') : Fam W' base N t v x := ⟨fun i hi => own_below (h.own i hi) hb (Nat.le_refl _), h.apart⟩
theorem Fam.kept {row : Option Nat} (h : Fam W base N t v x) (hg : W.grownBy W' row) (hr : ∀ i, i < N → ∀ b, (v i).ownBlock = some b → row ≠ some b) : Fam W' base N t v x := ⟨fun i hi => (h.own i hi).kept hg (by
 cases e : (v i).ownBlock with
 | none => exact .inl rfl
 | some b => exact .inr fun e2 => hr i hi b e e2.symm), h.apart⟩
theorem Fam.box {g T : Nat} {cs : Array Value} (h : Fam W base N t v x) (hq : Blk W g T cs) (hT : ∀ i, i < N → Nat.beq T (t i) = false) (hg : W.grownBy W' (some g)) : Fam W' base N t v x := ⟨fun i hi => own_type (h.own i hi) hq (hT i hi) hg, h.apart⟩
theorem Fam.same {y : Nat → List Value} (h : Fam W base N t v x) (hy : ∀ i, i < N → x i = y i) : Fam W base N t v y := ⟨fun i hi => hy i hi ▸ h.own i hi, h.apart⟩
theorem Fam.val {u : Nat → Value} (h : Fam W base N t v x) (hy : ∀ i, i < N → v i = u i) : Fam W base N t u x := ⟨fun i hi => hy i hi ▸ h.own i hi, fun i j hi hj hn => by rw [← hy i hi, ← hy j hj]; exact h.apart i j hi hj hn⟩
/-- one of the rows is turned: it stays where it was, or has a new block -/
theorem Fam.turn {j : Nat} {v' : Value} {y : List Value} (h : Fam W base N t v x) (hj : j < N) (ho : W'.ownsRow base (t j) 1 v' y.length y) (hg : W.grownBy W' (v j).ownBlock) (hat : v'.ownBlock = (v j).ownBlock ∨ v'.ownBlock = some W.heap.size) : Fam W' base N t (fu v j v') (fu x j y) := by
 have hnew : ∀ i, i < N → i ≠ j → ∀ k, (v i).ownBlock = some k → v'.ownBlock ≠ some k := fun i hi hn k hk e => by
  rcases hat with h1 | h1
  ·rw [h1] at e
   exact h.apart i j hi hj hn k hk e
  ·rw [h1] at e
   injection e with e
   have := ((h.own i hi).lt k hk).2
   omega
 refine ⟨fun i hi => ?_, fun i k hi hk hn b hb => ?_⟩
 ·by_cases e : i = j
  ·subst e
   rw [fu_eq, fu_eq]
   exact ho
  ·rw [fu_ne e, fu_ne e]
   refine (h.own i hi).kept hg ?_
   cases e2 : (v i).ownBlock with
   | none => exact .inl rfl
   | some b => exact .inr fun e3 => h.apart i j hi hj e b e2 e3.symm
 ·by_cases e : i = j
  ·subst e
   rw [fu_eq] at hb;rw [fu_ne (fun e => hn e.symm)]
   exact fun e => hnew k hk (fun e => hn e.symm) b e hb
  ·rw [fu_ne e] at hb
   by_cases e2 : k = j
   ·subst e2
    rw [fu_eq]
    exact hnew i hi e b hb
   ·rw [fu_ne e2]
    exact h.apart i k hi hk hn b hb
theorem Fam.nils (W : World) (base N : Nat) (t : Nat → Nat) : Fam W base N t (fun _ => .slice none 0 0) (fun _ => []) := ⟨fun i _ => World.ownsRow_nil _ _ _ _, fun _ _ _ _ _ _ h => by cases h⟩
theorem own_shape {e n : Nat} {u : Value} {xs : List Value} (h : W.ownsRow base e 1 u n xs) (h0 : 0 < n) : ∃ g c, u = .slice (some ⟨g, 0, none⟩) n c ∧ base ≤ g ∧ g < W.heap.size := by
 have hl := h.lt;obtain ⟨_, ⟨_, h2⟩ | ⟨g, cap, cur, h2, _⟩⟩ := h
 ·omega
 ·subst h2
  have := hl g rfl
  exact ⟨g, cap, rfl, this.1, this.2⟩
theorem own_cell {e n g c k : Nat} {u : Value} {xs : List Value} (h : W.ownsRow base e 1 (.slice (some ⟨g, 0, none⟩) n c) n xs) (hk : xs[k]? = some u) : W.cell? ⟨g, 0 + k, none⟩ = some u := by
 obtain ⟨b, o, he, _, hc⟩ := (Rd.of_own h).at_ (by have := (List.getElem?_eq_some_iff.1 hk).1; have := h.1; omega)
 injection he with he
 injection he with h1 h2
 subst h1;subst h2
 exact hc k u hk
end
theorem spl_one : ∀ (l : List Value) (k : Nat) (u : Value), k < l.length → spl l k [u] = l.set k u := fun l k u h => by
 rw [spl_eq _ _ _ h, List.set_eq_take_append_cons_drop, if_pos h]
 simp
/-! ### The rows of small rules: the levels, two lists of lists, and their eight lists -/
def ft (i : Nat) : Nat := if i = 1 then 22 else if i = 2 then 22 else 3
theorem ft_box {T : Nat} (h1 : Nat.beq T 22 = false) (h2 : Nat.beq T 3 = false) (i : Nat) : Nat.beq T (ft i) = false := by
 unfold ft
 split
 ·exact h1
 ·split
  ·exact h1
  ·exact h2
theorem ft_row {i : Nat} (h : 3 ≤ i) : ft i = 3 := by
 unfold ft
 rw [if_neg (by omega), if_neg (by omega)]
def cnt (i k r : Nat) : Nat := if r < i then 4 else if r = i then k else 0
def alR (b : Nat → Int) (r k : Nat) : List Int := (List.range k).map fun c => b (4 + 4 * r + c)
def apR (b : Nat → Int) (r k : Nat) : List Int := (List.range k).map fun c => (b (20 + 4 * r + c)).tmod 3
def fX (b : Nat → Int) (v : Nat → Value) (n i k : Nat) (j : Nat) : List Value :=
 if j = 0 then ints ((List.range n).map b) else if j = 1 then (List.range n).map (fun r => v (3 + 2 * r)) else if j = 2 then (List.range n).map (fun r => v (4 + 2 * r))
 else if j % 2 = 1 then ints (alR b ((j - 3) / 2) (cnt i k ((j - 3) / 2))) else ints (apR b ((j - 4) / 2) (cnt i k ((j - 4) / 2)))
theorem fX_al (b : Nat → Int) (v : Nat → Value) (n i k r : Nat) : fX b v n i k (3 + 2 * r) = ints (alR b r (cnt i k r)) := by
 unfold fX
 rw [if_neg (by omega), if_neg (by omega), if_neg (by omega), if_pos (by omega), show (3 + 2 * r - 3) / 2 = r by omega]
theorem fX_ap (b : Nat → Int) (v : Nat → Value) (n i k r : Nat) : fX b v n i k (4 + 2 * r) = ints (apR b r (cnt i k r)) := by
 unfold fX
 rw [if_neg (by omega), if_neg (by omega), if_neg (by omega), if_neg (by omega), show (4 + 2 * r - 4) / 2 = r by omega]
theorem fX_1 (b : Nat → Int) (v : Nat → Value) (n i k : Nat) : fX b v n i k 1 = (List.range n).map fun r => v (3 + 2 * r) := by simp [fX]
theorem fX_2 (b : Nat → Int) (v : Nat → Value) (n i k : Nat) : fX b v n i k 2 = (List.range n).map fun r => v (4 + 2 * r) := by simp [fX]
theorem fX_len0 (b : Nat → Int) (v : Nat → Value) (n i k : Nat) : (fX b v n i k 0).length = n := by simp [fX, ints]
theorem fX_len1 (b : Nat → Int) (v : Nat → Value) (n i k : Nat) : (fX b v n i k 1).length = n := by simp [fX]
theorem fX_len2 (b : Nat → Int) (v : Nat → Value) (n i k : Nat) : (fX b v n i k 2).length = n := by simp [fX]
theorem fX_at1 (b : Nat → Int) (v : Nat → Value) {n i k r : Nat} (h : r < n) : (fX b v n i k 1)[r]? = some (v (3 + 2 * r)) := by simp [fX, h]
theorem fX_at2 (b : Nat → Int) (v : Nat → Value) {n i k r : Nat} (h : r < n) : (fX b v n i k 2)[r]? = some (v (4 + 2 * r)) := by simp [fX, h]
theorem fX_end (b : Nat → Int) (v : Nat → Value) (n i j : Nat) : fX b v n i 4 j = fX b v n (i + 1) 0 j := by
 have h : ∀ r, cnt i 4 r = cnt (i + 1) 0 r := fun r => by
  unfold cnt
  split
  ·rw [if_pos (by omega)]
  ·split
   ·rw [if_pos (by omega)]
   ·rw [if_neg (by omega)]
    split <;> rfl
 unfold fX
 rw [h, h]
theorem j_cases (j : Nat) : j = 0 ∨ j = 1 ∨ j = 2 ∨ (∃ r, j = 3 + 2 * r) ∨ ∃ r, j = 4 + 2 * r := by
 by_cases h : j < 3
 ·omega
 ·rcases Nat.mod_two_eq_zero_or_one j with h2 | h2
  ·exact .inr (.inr (.inr (.inr ⟨(j - 4) / 2, by omega⟩)))
  ·exact .inr (.inr (.inr (.inl ⟨(j - 3) / 2, by omega⟩)))
/-- a level more, and two lists of nothing -/
theorem fX_more {b : Nat → Int} {v : Nat → Value} {i : Nat} {p q r : Value} (h1 : v (3 + 2 * i) = .slice none 0 0) (h2 : v (4 + 2 * i) = .slice none 0 0) (j : Nat) :
  fu (fu (fu (fX b v i i 0) 0 (fX b v i i 0 0 ++ [.int .i64 (b i)])) 1 (fX b v i i 0 1 ++ [.slice none 0 0])) 2 (fX b v i i 0 2 ++ [.slice none 0 0]) j = fX b (fu (fu (fu v 0 p) 1 q) 2 r) (i + 1) i 0 j := by
 have hv : ∀ k, 3 ≤ k → fu (fu (fu v 0 p) 1 q) 2 r k = v k := fun k hk => by rw [fu_ne (by omega), fu_ne (by omega), fu_ne (by omega)]
 rcases j_cases j with rfl | rfl | rfl | ⟨s, rfl⟩ | ⟨s, rfl⟩
 ·rw [fu_ne (by omega), fu_ne (by omega), fu_eq]
  simp [fX, ints, List.range_succ]
 ·rw [fu_ne (by omega), fu_eq, fX_1, fX_1, List.range_succ, List.map_append, List.map_cons, List.map_nil, hv _ (by omega), h1]
  congr 1
  exact List.map_congr_left fun k _ => (hv _ (by omega)).symm
 ·rw [fu_eq, fX_2, fX_2, List.range_succ, List.map_append, List.map_cons, List.map_nil, hv _ (by omega), h2]
  congr 1
  exact List.map_congr_left fun k _ => (hv _ (by omega)).symm
 ·rw [fu_ne (by omega), fu_ne (by omega), fu_ne (by omega), fX_al, fX_al]
 ·rw [fu_ne (by omega), fu_ne (by omega), fu_ne (by omega), fX_ap, fX_ap]
/-- one number more in both lists of row i -/
theorem fX_num {b : Nat → Int} {v : Nat → Value} {n i k : Nat} {p q : Value} (hi : i < n) (hk : k < 4) (j : Nat) :
  fu (fu (fu (fu (fX b v n i k) (3 + 2 * i) (fX b v n i k (3 + 2 * i) ++ [.int .i64 (b (4 + 4 * i + k))])) (4 + 2 * i) (fX b v n i k (4 + 2 * i) ++ [.int .i64 ((b (20 + 4 * i + k)).tmod 3)])) 1 ((fX b v n i k 1).set i p)) 2 ((fX b v n i k 2).set i q) j = fX b (fu (fu v (3 + 2 * i) p) (4 + 2 * i) q) n i (k + 1) j := by
 have hc : ∀ s, s ≠ i → cnt i (k + 1) s = cnt i k s := fun s hs => by
  unfold cnt
  split
  ·rfl
  ·simp [hs]
 have hc2 : ∀ m, cnt i m i = m := fun m => by unfold cnt; rw [if_neg (by omega), if_pos rfl]
 rcases j_cases j with rfl | rfl | rfl | ⟨s, rfl⟩ | ⟨s, rfl⟩
 ·rw [fu_ne (by omega), fu_ne (by omega), fu_ne (by omega), fu_ne (by omega)]
  rfl
 ·rw [fu_ne (by omega), fu_eq, fX_1, fX_1]
  refine List.ext_getElem? fun r => ?_
  by_cases hr : r = i
  ·subst hr
   simp [List.getElem?_set, hi, fu_eq, fu_ne (show 3 + 2 * r ≠ 4 + 2 * r by omega)]
  ·rw [List.getElem?_set_ne (fun e => hr e.symm)]
   by_cases h2 : r < n
   ·simp [h2, fu_ne (show 3 + 2 * r ≠ 4 + 2 * i by omega), fu_ne (show 3 + 2 * r ≠ 3 + 2 * i by omega)]
   ·simp [h2]
 ·rw [fu_eq, fX_2, fX_2]
  refine List.ext_getElem? fun r => ?_
  by_cases hr : r = i
  ·subst hr
   simp [List.getElem?_set, hi, fu_eq]
  ·rw [List.getElem?_set_ne (fun e => hr e.symm)]
   by_cases h2 : r < n
   ·simp [h2, fu_ne (show 4 + 2 * r ≠ 4 + 2 * i by omega), fu_ne (show 4 + 2 * r ≠ 3 + 2 * i by omega)]
   ·simp [h2]
 ·rw [fu_ne (by omega), fu_ne (by omega), fu_ne (by omega)]
  by_cases hs : s = i
  ·subst hs
   rw [fu_eq, fX_al, fX_al, hc2, hc2]
   simp [alR, ints, List.range_succ]
  ·rw [fu_ne (by omega), fX_al, fX_al, hc s hs]
 ·rw [fu_ne (by omega), fu_ne (by omega)]
  by_cases hs : s = i
  ·subst hs
   rw [fu_eq, fX_ap, fX_ap, hc2, hc2]
   simp [apR, ints, List.range_succ]
  ·rw [fu_ne (by omega), fu_ne (by omega), fX_ap, fX_ap, hc s hs]
/-- the family at a drawn region's beginning -/
theorem base_fam {W : World} {base N : Nat} {t : Nat → Nat} {v : Nat → Value} {x : Nat → List Value} {S : List Nat} {S1 : List Nat} {C D : (Nat → Bool) → Prop} (h : Fam W base N t v x) (hn : base ≤ W.heap.size) : BaseOk W fun fl w1 => Kp base S W w1 ∧ (D fl → Kp base S1 W w1) ∧ (C fl → Fam w1 base N t v x) :=
 ⟨fun _ _ => ⟨⟨rfl, rfl, rfl, Nat.le_refl _, fun _ _ => rfl, fun _ _ _ h _ => h⟩, fun _ => ⟨rfl, rfl, rfl, Nat.le_refl _, fun _ _ => rfl, fun _ _ _ h _ => h⟩, fun _ => h.below ⟨rfl, rfl, rfl, Nat.le_refl _, fun _ _ => rfl⟩⟩, fun _ w1 w2 ⟨h1, h3, h2⟩ hb => ⟨h1.trans (Kp.of_below hb (Nat.le_trans hn h1.size)), fun hd => (h3 hd).trans (Kp.of_below hb (Nat.le_trans hn h1.size)), fun hc => (h2 hc).below hb⟩, fun _ _ h => h.1.size⟩
theorem Fam.pushed {W W' : World} {base N : Nat} {t : Nat → Nat} {v : Nat → Value} {x : Nat → List Value} {base' e' size' n' : Nat} {u : Value} {ys : List Value} (h : Fam W base N t v x) (hu : W.ownsRow base' e' size' u n' ys) (hT : ∀ i, i < N → Nat.beq e' (t i) = false) (hg : W.grownBy W' u.ownBlock) : Fam W' base N t v x := ⟨fun i hi => own_grown (h.own i hi) hu (hT i hi) hg, h.apart⟩
theorem fX_lenA (b : Nat → Int) (v : Nat → Value) (n i k : Nat) : (fX b v n i k (3 + 2 * i)).length = k := by
 have hc : cnt i k i = k := by unfold cnt; rw [if_neg (by omega), if_pos rfl]
 rw [fX_al, hc]
 simp [alR, ints]
theorem fX_lenP (b : Nat → Int) (v : Nat → Value) (n i k : Nat) : (fX b v n i k (4 + 2 * i)).length = k := by
 have hc : cnt i k i = k := by unfold cnt; rw [if_neg (by omega), if_pos rfl]
 rw [fX_ap, hc]
 simp [apR, ints]
theorem fX_zero (b : Nat → Int) (v : Nat → Value) (j : Nat) : fX b v 0 0 0 j = [] := by
 have hc : ∀ r, cnt 0 0 r = 0 := fun r => by
  unfold cnt
  rw [if_neg (by omega)]
  split <;> rfl
 unfold fX
 rw [hc, hc]
 split
 ·rfl
 ·split
  ·rfl
  ·split
   ·rfl
   ·split <;> rfl
theorem smC_at2 (b : Nat → Int) (vk ve : Value) {o j : Nat} (e : o = j) (h : j < 38) : (smC b vk ve)[o]? = some (.int .u8 (b j)) := by
 subst e
 exact smC_at b vk ve h
theorem byte_min {p q : Int} (h : byte p) (k : byte q) : byte (min p q) := by
 unfold byte at *
 omega
theorem byte_max {p q : Int} (h : byte p) (k : byte q) : byte (max p q) := by
 unfold byte at *
 omega
theorem byte_rem {p : Int} (h : byte p) {m : Int} (hm : 0 < m) : 0 ≤ p.tmod m ∧ p.tmod m < m := by
 rw [Int.tmod_eq_emod_of_nonneg h.1]
 exact ⟨Int.emod_nonneg _ (by omega), Int.emod_lt_of_pos _ hm⟩
def smKd (p : Int × Int × Int) : Kd := ⟨⟨p.1, p.1 + p.2.1.tmod 40⟩, p.2.1, p.2.2, 100 * p.2.2⟩
def smRules (x : Sml) : Rules := { levels := (List.range 4).map x.b, fade := ⟨(min (x.b 36) (x.b 37)).tmod 40, (min (x.b 36) (x.b 37)).tmod 40 + (max (x.b 36) (x.b 37)).tmod 20⟩, allow := (List.range 4).map fun r => alR x.b r 4, apart := (List.range 4).map fun r => apR x.b r 4, kinds := (x.kinds.take 4).map smKd }
theorem rules_end {W : World} {base i : Nat} {v : Nat → Value} {vk : Value} {x : Sml} (hx : i = min x.kinds.length 4) (hF : Fam W base 11 ft v (fX x.b v 4 4 0)) (hO : W.ownsRow base 52 5 vk i (kdsC ((x.kinds.take i).map smKd))) :
  vk = vk ∧ RdRules W W.heap.size (v 0) (v 1) (v 2) vk (smRules x) ((List.range 4).map fun r => v (3 + 2 * r)) ((List.range 4).map fun r => v (4 + 2 * r)) := by
 have e : x.kinds.take i = x.kinds.take 4 := by
  subst hx
  rcases Nat.le_total x.kinds.length 4 with h1 | h1
  ·rw [Nat.min_eq_left h1, List.take_length, List.take_of_length_le h1]
  ·rw [Nat.min_eq_right h1]
 have e2 : (smRules x).kinds.length = i := by simp [smRules, hx, Nat.min_comm]
 refine ⟨rfl, ⟨?_, ⟨by simp [smRules], ?_, fun r hr => ?_⟩, ⟨by simp [smRules], ?_, fun r hr => ?_⟩, ?_⟩⟩
 ·have h := Rd.of_own (hF.own 0 (by omega))
  rw [fX_len0] at h
  exact h
 ·have h := Rd.of_own (hF.own 1 (by omega))
  rw [fX_len1, fX_1] at h
  exact h
 ·have hr' : r < 4 := by simpa [smRules] using hr
  have h := Rd.of_own (hF.own (3 + 2 * r) (by omega))
  have hc : cnt 4 0 r = 4 := if_pos hr';rw [fX_al, hc] at h;have e3 : (smRules x).allow.getD r [] = alR x.b r 4 := by simp [smRules, hr']
  have e4 : ((List.range 4).map fun r => v (3 + 2 * r)).getD r undef = v (3 + 2 * r) := by simp [hr']
  rw [e3, e4, ← ints_flat];have e5 : (ints (alR x.b r 4)).length = (alR x.b r 4).length := by simp [ints]
  rw [e5] at h
  exact h
 ·have h := Rd.of_own (hF.own 2 (by omega))
  rw [fX_len2, fX_2] at h
  exact h
 ·have hr' : r < 4 := by simpa [smRules] using hr
  have h := Rd.of_own (hF.own (4 + 2 * r) (by omega))
  have hc : cnt 4 0 r = 4 := if_pos hr';rw [fX_ap, hc] at h;have e3 : (smRules x).apart.getD r [] = apR x.b r 4 := by simp [smRules, hr']
  have e4 : ((List.range 4).map fun r => v (4 + 2 * r)).getD r undef = v (4 + 2 * r) := by simp [hr']
  rw [e3, e4, ← ints_flat];have e5 : (ints (apR x.b r 4)).length = (apR x.b r 4).length := by simp [ints]
  rw [e5] at h
  exact h
 ·rw [e2]
  rw [e] at hO
  exact Rd.of_own hO
section
variable {n : Nat} {σ : Sg} {w : World} {dst : Option Tmp} {ty : TypeId} {pos : String} {af : Array Edge} {g : Option (Nat × Bool)} {x y z : Operand} {at' : Array TypeId}
theorem fa_78_3 {b o : Nat} (hx : evS σ x = some (.pointer (some ⟨b, o, none⟩))) : Gives Try.prog n σ w ⟨dst, .fieldAddr 78 x 3, ty, pos, af, g⟩ (.pointer (some ⟨b, o + 36, none⟩)) := fun a ha => by
 simp only [execOp, ha.eval hx]
 simp [go_sem]
theorem bd_24_0 {x0 : Operand} {z0 : Int} (h0 : evS σ x0 = some (.int .i64 z0)) : Gives Try.prog n σ w ⟨dst, .build 24 #[(0, x0)], ty, pos, af, g⟩ (.agg #[.int .i64 z0, .int .i64 0]) := fun a ha => by
 simp only [execOp, List.map_toArray, List.map_cons, List.map_nil, ha.eval h0]
 go_simp
theorem bd_28_1 {x0 : Operand} {v0_0 : Value} {v0_1 : Value} (h0 : evS σ x0 = some (.agg #[v0_0, v0_1])) : Gives Try.prog n σ w ⟨dst, .build 28 #[(1, x0)], ty, pos, af, g⟩ (.agg #[.slice none 0 0, v0_0, v0_1, .slice none 0 0, .slice none 0 0, .slice none 0 0]) := fun a ha => by
 simp only [execOp, List.map_toArray, List.map_cons, List.map_nil, ha.eval h0]
 go_simp
theorem ixa_72 {b o k : Nat} (hx : evS σ x = some (.pointer (some ⟨b, o, none⟩))) (hy : evS σ y = some (.int .i64 (k : Int))) (hk : k < 4) : Gives Try.prog n σ w ⟨dst, .indexAddr 72 x y, ty, pos, af, g⟩ (.pointer (some ⟨b, o + k, none⟩)) := fun a ha => by
 have k0 : (0 : Int) ≤ (k : Int) := Int.natCast_nonneg _;have k1 : (k : Int) < 4 := by omega
 simp only [execOp, ha.eval hx, ha.eval hy]
 simp [go_sem, k0, k1]
theorem fa_78_0 {b o : Nat} (hx : evS σ x = some (.pointer (some ⟨b, o, none⟩))) : Gives Try.prog n σ w ⟨dst, .fieldAddr 78 x 0, ty, pos, af, g⟩ (.pointer (some ⟨b, o, none⟩)) := fun a ha => by
 simp only [execOp, ha.eval hx]
 simp [go_sem]
theorem ixa_73 {b o k : Nat} (hx : evS σ x = some (.pointer (some ⟨b, o, none⟩))) (hy : evS σ y = some (.int .i64 (k : Int))) (hk : k < 4) : Gives Try.prog n σ w ⟨dst, .indexAddr 73 x y, ty, pos, af, g⟩ (.pointer (some ⟨b, o + k * 4, none⟩)) := fun a ha => by
 have k0 : (0 : Int) ≤ (k : Int) := Int.natCast_nonneg _;have k1 : (k : Int) < 4 := by omega
 simp only [execOp, ha.eval hx, ha.eval hy]
 simp [go_sem, k0, k1]
theorem fa_78_1 {b o : Nat} (hx : evS σ x = some (.pointer (some ⟨b, o, none⟩))) : Gives Try.prog n σ w ⟨dst, .fieldAddr 78 x 1, ty, pos, af, g⟩ (.pointer (some ⟨b, o + 4, none⟩)) := fun a ha => by
 simp only [execOp, ha.eval hx]
 simp [go_sem]
theorem fa_78_2 {b o : Nat} (hx : evS σ x = some (.pointer (some ⟨b, o, none⟩))) : Gives Try.prog n σ w ⟨dst, .fieldAddr 78 x 2, ty, pos, af, g⟩ (.pointer (some ⟨b, o + 20, none⟩)) := fun a ha => by
 simp only [execOp, ha.eval hx]
 simp [go_sem]
theorem ix_75 {b o m c k : Nat} (hx : evS σ x = some (.slice (some ⟨b, o, none⟩) m c)) (hy : evS σ y = some (.int .i64 (k : Int))) (hk : k < m) : Gives Try.prog n σ w ⟨dst, .indexAddr 75 x y, ty, pos, af, g⟩ (.pointer (some ⟨b, o + k * 3, none⟩)) := fun a ha => by
 have k0 : (0 : Int) ≤ (k : Int) := Int.natCast_nonneg _;have k1 : (k : Int) < (m : Int) := by omega
 simp only [execOp, ha.eval hx, ha.eval hy]
 simp [go_sem, k0, k1]
theorem fa_78_4 {b o : Nat} (hx : evS σ x = some (.pointer (some ⟨b, o, none⟩))) : Gives Try.prog n σ w ⟨dst, .fieldAddr 78 x 4, ty, pos, af, g⟩ (.pointer (some ⟨b, o + 38, none⟩)) := fun a ha => by
 simp only [execOp, ha.eval hx]
 simp [go_sem]
theorem ld_75 {b o : Nat} {v0 : Value} (hx : evS σ x = some (.pointer (some ⟨b, o, none⟩))) (c0 : w.cell? ⟨b, o, none⟩ = some v0) : Gives Try.prog n σ w ⟨dst, .load 75 x, ty, pos, af, g⟩ (v0) := fun a ha => by
 simp only [execOp, ha.eval hx]
 simp [go_sem, c0]
theorem ln_75 {A : Option Addr} {m c : Nat} (hx : evS σ x = some (.slice A m c)) : Gives Try.prog n σ w ⟨dst, .call { callee := .builtin .len, args := #[x], argTypes := #[75] }, ty, pos, af, g⟩ (.int .i64 (m : Int)) := fun a ha => by
 simp only [execOp, resolve, List.map_toArray, List.map_cons, List.map_nil, ha.eval hx]
 simp [go_sem]
theorem ld_140 {b o : Nat} {v0 v1 v2 : Value} (hx : evS σ x = some (.pointer (some ⟨b, o, none⟩))) (c0 : w.cell? ⟨b, o, none⟩ = some v0) (c1 : w.cell? ⟨b, o + 1, none⟩ = some v1) (c2 : w.cell? ⟨b, o + 2, none⟩ = some v2) : Gives Try.prog n σ w ⟨dst, .load 140 x, ty, pos, af, g⟩ (.agg #[v0, v1, v2]) := fun a ha => by
 simp only [execOp, ha.eval hx]
 simp [go_sem, c0, c1, c2]
theorem al_140 (a : Act) (_ : Env n σ a) : (execOp a.eval ⟨dst, .alloc 140, ty, pos, af, g⟩).run Try.prog w = .ok (.value (.pointer (some ⟨w.heap.size, 0, none⟩))) (w.alloc (.cells #[.int .u8 0, .int .u8 0, .int .u8 0] 140)) := by
 simp only [execOp]
 simp [go_sem]
theorem sz_140 : (Try.prog.info? 140).map (·.size) = some 3 := by kernel_rfl
theorem ixa_140 {b o k : Nat} (hx : evS σ x = some (.pointer (some ⟨b, o, none⟩))) (hy : evS σ y = some (.int .i64 (k : Int))) (hk : k < 3) : Gives Try.prog n σ w ⟨dst, .indexAddr 140 x y, ty, pos, af, g⟩ (.pointer (some ⟨b, o + k, none⟩)) := fun a ha => by
 have k0 : (0 : Int) ≤ (k : Int) := Int.natCast_nonneg _;have k1 : (k : Int) < 3 := by omega
 simp only [execOp, ha.eval hx, ha.eval hy]
 simp [go_sem, k0, k1]
theorem bs_26_1 {x0 : Operand} {v0_0 v0_1 v0_2 v0_3 v0_4 : Value} (h0 : evS σ x0 = some (.agg #[v0_0, v0_1, v0_2, v0_3, v0_4]))  (a : Act) (ha : Env n σ a) : (execOp a.eval ⟨dst, .buildSlice 26 1 #[(0, x0)], ty, pos, af, g⟩).run Try.prog w = .ok (.value (.slice (some ⟨w.heap.size, 0, none⟩) 1 1)) (w.alloc (.cells #[v0_0, v0_1, v0_2, v0_3, v0_4] 52)) := by
 simp only [execOp, List.map_toArray, List.map_cons, List.map_nil, ha.eval h0]
 go_simp
end
theorem own_sl {W : World} {base e n : Nat} {u : Value} {xs : List Value} (h : W.ownsRow base e 1 u n xs) : ∃ A c, u = .slice A n c := let ⟨A, c, h, _⟩ := (Rd.of_own h).shape
 ⟨A, c, h⟩
theorem kdsC_app (a b : List Kd) : kdsC (a ++ b) = kdsC a ++ kdsC b := List.flatMap_append
theorem mm8_min {n : Nat} {σ : Sg} {w : World} {dst : Option Tmp} {ty : TypeId} {pos : String} {af : Array Edge} {g : Option (Nat × Bool)} {x y : Operand} {at' : Array TypeId} {p q r : Int} (hx : evS σ x = some (.int .u8 p)) (hy : evS σ y = some (.int .u8 q)) (hr : min p q = r) : Gives Try.prog n σ w ⟨dst, .call { callee := .builtin .min, args := #[x, y], argTypes := at' }, ty, pos, af, g⟩ (.int .u8 r) := fun a ha => by
 simp only [execOp, resolve, List.map_toArray, List.map_cons, List.map_nil, ha.eval hx, ha.eval hy]
 subst hr
 simp [go_sem, Int.min_def]
 split <;> split <;> omega
theorem mm8_max {n : Nat} {σ : Sg} {w : World} {dst : Option Tmp} {ty : TypeId} {pos : String} {af : Array Edge} {g : Option (Nat × Bool)} {x y : Operand} {at' : Array TypeId} {p q r : Int} (hx : evS σ x = some (.int .u8 p)) (hy : evS σ y = some (.int .u8 q)) (hr : max p q = r) : Gives Try.prog n σ w ⟨dst, .call { callee := .builtin .max, args := #[x, y], argTypes := at' }, ty, pos, af, g⟩ (.int .u8 r) := fun a ha => by
 simp only [execOp, resolve, List.map_toArray, List.map_cons, List.map_nil, ha.eval hx, ha.eval hy]
 subst hr
 simp [go_sem, Int.max_def]
 split <;> split <;> omega
theorem fu_back {v2 : Nat → Value} {i : Nat} {p q s t : Value} (h1 : v2 1 = s) (h2 : v2 2 = t) (j : Nat) : fu (fu (fu (fu v2 (3 + 2 * i) p) (4 + 2 * i) q) 1 s) 2 t j = fu (fu v2 (3 + 2 * i) p) (4 + 2 * i) q j := by
 by_cases e2 : j = 2
 ·subst e2
  rw [fu_eq, fu_ne (by omega), fu_ne (by omega), h2]
 ·rw [fu_ne e2]
  by_cases e1 : j = 1
  ·subst e1
   rw [fu_eq, fu_ne (by omega), fu_ne (by omega), h1]
  ·rw [fu_ne e1]
/-- small rules, whose rows are one's own -/
def OwnSr (W : World) (base : Nat) (vl va vp vk : Value) (ru : Rules) : Prop := ∃ (x : Sml) (v : Nat → Value) (i : Nat), i = min x.kinds.length 4 ∧ Fam W base 11 ft v (fX x.b v 4 4 0) ∧ W.ownsRow base 52 5 vk i (kdsC ((x.kinds.take i).map smKd)) ∧ vl = v 0 ∧ va = v 1 ∧ vp = v 2 ∧ ru = smRules x
theorem OwnSr.rd {W : World} {base : Nat} {vl va vp vk : Value} {ru : Rules} (h : OwnSr W base vl va vp vk ru) : ∃ ua up, RdRules W W.heap.size vl va vp vk ru ua up := by
 obtain ⟨x, v, i, hx, hF, hO, rfl, rfl, rfl, rfl⟩ := h
 exact ⟨_, _, (rules_end hx hF hO).2⟩
theorem OwnSr.below {W W' : World} {base : Nat} {vl va vp vk : Value} {ru : Rules} (h : OwnSr W base vl va vp vk ru) (hb : Below W.heap.size W W') : OwnSr W' base vl va vp vk ru := by
 obtain ⟨x, v, i, hx, hF, hO, h1, h2, h3, h4⟩ := h
 exact ⟨x, v, i, hx, hF.below hb, own_below hO hb (Nat.le_refl _), h1, h2, h3, h4⟩
theorem OwnSr.box {W W' : World} {base g T : Nat} {cs : Array Value} {vl va vp vk : Value} {ru : Rules} (h : OwnSr W base vl va vp vk ru) (hq : Blk W g T cs) (h1 : Nat.beq T 22 = false) (h2 : Nat.beq T 3 = false) (h3 : Nat.beq T 52 = false) (hg : W.grownBy W' (some g)) : OwnSr W' base vl va vp vk ru := by
 obtain ⟨x, v, i, hx, hF, hO, e1, e2, e3, e4⟩ := h
 exact ⟨x, v, i, hx, hF.box hq (fun j _ => ft_box h1 h2 j) hg, own_type hO hq h3 hg, e1, e2, e3, e4⟩
theorem OwnSr.row {W W' : World} {base base' e' size' n' : Nat} {u : Value} {ys : List Value} {vl va vp vk : Value} {ru : Rules} (h : OwnSr W base vl va vp vk ru) (hu : W.ownsRow base' e' size' u n' ys) (h1 : Nat.beq e' 22 = false) (h2 : Nat.beq e' 3 = false) (h3 : Nat.beq e' 52 = false) (hg : W.grownBy W' u.ownBlock) : OwnSr W' base vl va vp vk ru := by
 obtain ⟨x, v, i, hx, hF, hO, e1, e2, e3, e4⟩ := h
 exact ⟨x, v, i, hx, hF.pushed hu (fun j _ => ft_box h1 h2 j) hg, own_grown hO hu h3 hg, e1, e2, e3, e4⟩
set_option maxRecDepth 100000 in
set_option maxHeartbeats 2000000 in
theorem smRules2_any {x : Sml} (hok : SmlOk x) {vks ves : Value} {w : World} {B : Nat} (hkr : Rd w B 3 vks x.kinds.length (k3s x.kinds)) (hB : B ≤ w.heap.size) :
  Calls Try.prog 29 #[.agg (smC x.b vks ves).toArray] w fun e w' => (∃ vl va vp vk, e = .returned (rulesV vl va vp vk (smRules x)) ∧ OwnSr w' w.heap.size vl va vp vk (smRules x)) ∧ Below w.heap.size w w' := by
 obtain ⟨Ak, ck, rfl, _⟩ := hkr.shape;have hbw := Below.refl w.heap.size w;have hb36 := hok.b 36 (by omega)
 have hb37 := hok.b 37 (by omega)
 have hmn := byte_rem (byte_min hb36 hb37) (m := 40) (by omega)
 have hmx := byte_rem (byte_max hb36 hb37) (m := 20) (by omega)
 refine EC.enter 144 Try.func29 rfl rfl rfl (EC.seq (EC.region (EL.newP (x_boxA rfl) rfl ?_)));intro g1 w1 q1 hb1 hg1 hl1;have bhbw_1 := Nat.le_trans hbw.size hg1;replace hbw := bo_ hbw hb1;clear hb1 hg1 hl1;refine EL.newP al_28 rfl ?_;intro g2 w2 q2 hb2 hg2 hl2;have n1_2 := q1.na hg2;have bhbw_2 := Nat.le_trans hbw.size hg2;replace q1 := q1.bl hb2;replace hbw := bo_ hbw hb2;clear hb2 hg2 hl2;refine EL.nil (EX.seq (EC.seq (EC.region (EL.val (fa_78_3 rfl) rfl ?_))));refine EL.val (ixa_74 (k := 0) rfl rfl (by omega)) rfl ?_
 refine EL.val (ld_5 rfl (q1.cellA (smC_at2 _ _ _ (j := 36) rfl (by omega)))) rfl ?_
 refine EL.val (fa_78_3 rfl) rfl ?_;refine EL.val (ixa_74 (k := 1) rfl rfl (by omega)) rfl ?_
 refine EL.val (ld_5 rfl (q1.cellA (smC_at2 _ _ _ (j := 37) rfl (by omega)))) rfl ?_
 refine EL.val (mm8_min rfl rfl rfl) rfl (EL.val (cv_5_3 rfl (wrap_byte (byte_min hb36 hb37))) rfl ?_);refine EL.val (x_rem rfl rfl (by decide) rfl) rfl ?_
 refine EL.val (bd_24_0 rfl) rfl (EL.val (bd_28_1 rfl) rfl (EL.newP al_28 rfl ?_));intro g3 w3 q3 hb3 hg3 hl3;have n1_3 := q1.na hg3;have n2_3 := q2.na hg3;have bhbw_3 := Nat.le_trans hbw.size hg3;replace q1 := q1.bl hb3;replace q2 := q2.bl hb3;replace hbw := bo_ hbw hb3;clear hb3 hg3 hl3;refine EL.store rfl rfl q3 sz_28 rfl rfl rfl rfl ?_;intro w4 hq4 hg4;replace q1 := q1.gr hg4 n1_3;replace q2 := q2.gr hg4 n2_3;replace hbw := below_store hbw hg4 bhbw_3;replace q3 := hq4;clear hg4 hq4;refine EL.nil (EX.seq (EC.seq (EC.region (EL.val (fa_28_1 rfl) rfl (EL.val (fa_24_0 rfl) rfl (EL.val (ld_3 rfl (q3.at (j := 1) rfl)) rfl (EL.val (fa_78_3 rfl) rfl ?_)))))));refine EL.val (ixa_74 (k := 0) rfl rfl (by omega)) rfl ?_
 refine EL.val (ld_5 rfl (q1.cellA (smC_at2 _ _ _ (j := 36) rfl (by omega)))) rfl ?_
 refine EL.val (fa_78_3 rfl) rfl ?_;refine EL.val (ixa_74 (k := 1) rfl rfl (by omega)) rfl ?_
 refine EL.val (ld_5 rfl (q1.cellA (smC_at2 _ _ _ (j := 37) rfl (by omega)))) rfl ?_
 refine EL.val (mm8_max rfl rfl rfl) rfl (EL.val (cv_5_3 rfl (wrap_byte (byte_max hb36 hb37))) rfl ?_);refine EL.val (x_rem rfl rfl (by decide) rfl) rfl ?_
 refine EL.val (x_add rfl rfl (IntWalk.i64_in _ ⟨by omega, by omega⟩)) rfl ?_
 refine EL.val (fa_28_1 rfl) rfl (EL.val (fa_24_1 rfl) rfl (EL.store rfl rfl q3 sz_3 rfl rfl rfl rfl ?_));intro w5 hq5 hg5;replace q1 := q1.gr hg5 n1_3;replace q2 := q2.gr hg5 n2_3;replace hbw := below_store hbw hg5 bhbw_3;replace q3 := hq5;clear hg5 hq5;refine EL.nil (EX.seq (EC.seq (EC.seq (EC.region (EL.as rfl rfl (EL.nil (EX.seq (EC.block ?_))))))));have hF : Fam w5 w.heap.size 11 ft (fun _ => .slice none 0 0) (fX x.b (fun _ => .slice none 0 0) 0 0 0) := (Fam.nils _ _ _ _).same fun j _ => (fX_zero _ _ j).symm
 refine EC.loopD [4, 5, 34, 35, 36, 37, 38, 39, 40, 41, 42, 43, 44, 45, 46, 47, 48, 49, 50, 51, 52, 53, 54, 55, 56, 57, 58, 59, 60, 61, 62, 63, 64, 65, 66, 67, 68, 69, 70, 71, 72, 73, 74, 75, 76, 77, 78, 79, 80, 81, 82, 83, 84, 85, 86, 87, 88, 89, 90, 91, 92, 93, 94, 95, 96, 97, 98] (fun x_ : Nat × (Nat → Value) => [(4, .int .i64 (x_.1 : Nat))]) (fun x_ W => x_.1 ≤ 4 ∧ (∀ r, x_.1 ≤ r → x_.2 (3 + 2 * r) = .slice none 0 0 ∧ x_.2 (4 + 2 * r) = .slice none 0 0) ∧ Fam W w.heap.size 11 ft x_.2 (fX x.b x_.2 x_.1 x_.1 0) ∧ Blk W g1 78 (smC x.b (.slice Ak x.kinds.length ck) ves).toArray ∧ Blk W g2 28 #[.slice none 0 0, .int .i64 0, .int .i64 0, .slice none 0 0, .slice none 0 0, .slice none 0 0] ∧ Blk W g3 28 #[x_.2 0, .int .i64 ((min (x.b 36) (x.b 37)).tmod 40), .int .i64 (((min (x.b 36) (x.b 37)).tmod 40) + (max (x.b 36) (x.b 37)).tmod 20), x_.2 1, x_.2 2, .slice none 0 0] ∧ Below w.heap.size w W) (fun x_ => 4 - x_.1) (0, fun _ => .slice none 0 0) ⟨Nat.zero_le _, fun _ _ => ⟨rfl, rfl⟩, hF, q1, q2, q3, hbw⟩ ⟨rfl, trivial⟩ ?_
 clear hF q1 q2 q3 hbw
 rintro ⟨i, v⟩ wx ⟨hi, hnil, hF, q1, q2, q3, hbw⟩
 dsimp only at hi hnil hF q3
 by_cases hlt : i < 4
 ·
  refine EC.seq (EC.seq (EC.region (EL.mv rfl rfl ?_)));refine EL.val (x_lss rfl rfl (decide_eq_true (show (((i : Nat) : Int) < ((4 : Nat) : Int)) by omega))) rfl ?_
  refine EL.nil (EX.seq (EC.yes rfl (EC.skip (EX.seq (EC.seq (EC.block (EC.seq ?_)))))));have lt_1 := q1.lt;have lt_2 := q2.lt;have lt_3 := q3.lt;refine EC.regionS [[], [0], [], [], [2, 3], [2, 3, 4], [2, 3, 4, 5], [2, 3, 4, 5, 6], [0, 1, 2, 3, 4, 5, 6, 7], [], [9], [], [0, 1, 2, 3, 4, 5, 6, 7, 8, 9, 10, 11], [], [13], [], [0, 1, 2, 3, 4, 5, 6, 7, 8, 9, 10, 11, 12, 13, 14, 15], [0, 1, 2, 3, 4, 5, 6, 7, 8, 9, 10, 13, 14], [0, 1, 2, 3, 4, 5, 6, 7, 8, 9, 10, 11, 12, 13, 14, 15, 16, 17], [0, 1, 2, 3, 4, 5, 6, 7, 8, 9, 10, 11, 12, 13, 14, 15, 16, 17, 18], [0, 1, 2, 3, 4, 5, 6, 7, 8, 9, 10, 11, 12, 13, 14, 15, 16, 17, 18, 19], [0, 1, 2, 3, 4, 5, 6, 7, 8, 9, 10, 11, 12, 13, 14, 15, 16, 17, 18, 19, 20], [0, 1, 2, 3, 4, 5, 6, 7, 8, 9, 10, 11, 12, 13, 14, 15, 16, 17, 18, 19, 20, 21]] 18 [] [8, 12, 16] (fun fl w_ => Kp w.heap.size [3, 22] wx w_ ∧ ((fun fl => fl 16 = false) fl → Kp w.heap.size [3, 22] wx w_) ∧ ((fun fl => fl 8 = false ∧ fl 12 = false ∧ fl 16 = false) fl → Fam w_ w.heap.size 11 ft v (fX x.b v i i 0))) (phiS (fun i_ r => match i_ with | 0 => r 0 = .pointer (some ⟨g3, 0, none⟩) | 1 => r 1 = (v 0) | 2 => r 2 = .int .i64 (i : Nat) | 3 => r 3 = .pointer (some ⟨g1, 0, none⟩) | 4 => r 4 = .pointer (some ⟨g1, 0 + i, none⟩) | 5 => r 5 = .int .u8 (x.b i) | 6 => r 6 = .int .i64 (x.b i) | 9 => r 9 = .pointer (some ⟨g3, 3, none⟩) | 10 => r 10 = (v 1) | 13 => r 13 = .pointer (some ⟨g3, 4, none⟩) | 14 => r 14 = (v 2) | 17 => r 17 = .pointer (some ⟨g3, 0, none⟩) | _ => True) [(7, fun _ r w_ => ∃ g_, r 7 = .slice (some ⟨g_, 0, none⟩) 1 1 ∧ Blk w_ g_ 3 #[.int .i64 (x.b i)] ∧ wx.heap.size ≤ g_), (8, fun fl r w_ => fl 12 = false → fl 16 = false → Fam w_ w.heap.size 11 ft (fu (v) 0 (r 8)) (fu ((fX x.b v i i 0)) 0 ((fX x.b v i i 0) 0 ++ [.int .i64 (x.b i)]))), (11, fun _ r w_ => ∃ g_, r 11 = .slice (some ⟨g_, 0, none⟩) 1 1 ∧ Blk w_ g_ 22 #[.slice none 0 0] ∧ wx.heap.size ≤ g_), (12, fun fl r w_ => fl 16 = false → Fam w_ w.heap.size 11 ft (fu (fu (v) 0 (r 8)) 1 (r 12)) (fu (fu ((fX x.b v i i 0)) 0 ((fX x.b v i i 0) 0 ++ [.int .i64 (x.b i)])) 1 ((fX x.b v i i 0) 1 ++ [.slice none 0 0]))), (15, fun _ r w_ => ∃ g_, r 15 = .slice (some ⟨g_, 0, none⟩) 1 1 ∧ Blk w_ g_ 22 #[.slice none 0 0] ∧ wx.heap.size ≤ g_), (16, fun fl r w_ => Fam w_ w.heap.size 11 ft (fu (fu (fu (v) 0 (r 8)) 1 (r 12)) 2 (r 16)) (fu (fu (fu ((fX x.b v i i 0)) 0 ((fX x.b v i i 0) 0 ++ [.int .i64 (x.b i)])) 1 ((fX x.b v i i 0) 1 ++ [.slice none 0 0])) 2 ((fX x.b v i i 0) 2 ++ [.slice none 0 0])))]) (by kernel_rfl) rfl rfl (by intro i hi; simp at hi; rcases hi with rfl | rfl | rfl <;> exact ⟨by simp, by omega⟩) (base_fam hF hbw.size) (phiS_cons monoS_bs (phiS_cons (fun fl r w1 w2 hb h c0 c1 => (h c0 c1).below hb) (phiS_cons monoS_bs (phiS_cons (fun fl r w1 w2 hb h c0 => (h c0).below hb) (phiS_cons monoS_bs (phiS_cons (fun fl r w1 w2 hb h  => (h ).below hb) (phiS_nil))))))) (fun i_ hi_ hs_ => ?_) (fun i_ hi_ => ?_) ?_
  ·match i_, hi_ with
   | 0, _ =>
    intro val fl w1 a hb ha hd hfl;obtain ⟨hk, hk1, hf⟩ := hb;have ha := ha.s0 (d := 3) rfl
    exact ss_val ha rfl rfl (fa_28_0 rfl) rfl rfl
   | 1, _ =>
    intro val fl w1 a hb ha hd hfl;obtain ⟨hk, hk1, hf⟩ := hb;have e0 : val 0 = _ := hd 0 (memB_mem.1 rfl);have ha := ha.s1 (d := 38) rfl e0
    exact ss_val ha rfl rfl (ld_22 rfl ((hk.blk _ _ _ q3 rfl).at (j := 0) rfl)) rfl rfl
   | 2, _ =>
    intro val fl w1 a hb ha hd hfl;obtain ⟨hk, hk1, hf⟩ := hb;have ha := ha.s0 (d := 4) rfl
    exact ss_val ha rfl rfl (x_move rfl) rfl rfl
   | 3, _ =>
    intro val fl w1 a hb ha hd hfl;obtain ⟨hk, hk1, hf⟩ := hb;have ha := ha.s0 (d := 1) rfl
    exact ss_val ha rfl rfl (fa_78_0 rfl) rfl rfl
   | 4, _ =>
    intro val fl w1 a hb ha hd hfl;obtain ⟨hk, hk1, hf⟩ := hb;have e3 : val 3 = _ := hd 3 (memB_mem.1 rfl);have e2 : val 2 = _ := hd 2 (memB_mem.1 rfl);have ha := ha.s2 (d := 40) (e := 41) rfl e2 rfl e3
    exact ss_val ha rfl rfl (ixa_72 rfl rfl hlt) rfl rfl
   | 5, _ =>
    intro val fl w1 a hb ha hd hfl;obtain ⟨hk, hk1, hf⟩ := hb;have e4 : val 4 = _ := hd 4 (memB_mem.1 rfl);have ha := ha.s1 (d := 42) rfl e4
    exact ss_val ha rfl rfl (ld_5 rfl ((hk.blk _ _ _ q1 rfl).cellA (smC_at2 _ _ _ (j := i) (by omega) (by omega)))) rfl rfl
   | 6, _ =>
    intro val fl w1 a hb ha hd hfl;obtain ⟨hk, hk1, hf⟩ := hb;have e5 : val 5 = _ := hd 5 (memB_mem.1 rfl);have ha := ha.s1 (d := 43) rfl e5
    exact ss_val ha rfl rfl (cv_5_3 rfl (wrap_byte (hok.b i (by omega)))) rfl rfl
   | 7, _ =>
    intro val fl w1 a hb ha hd hfl;obtain ⟨hk, hk1, hf⟩ := hb;have e6 : val 6 = _ := hd 6 (memB_mem.1 rfl);have ha := ha.s1 (d := 44) rfl e6
    exact ss_newS ha rfl rfl (bs_22_1 rfl) rfl (fun g w' hq _ hge => ⟨g, rfl, hq, Nat.le_trans hk.size hge⟩)
   | 8, _ =>
    exact absurd (by simp) hs_
   | 9, _ =>
    intro val fl w1 a hb ha hd hfl;obtain ⟨hk, hk1, hf⟩ := hb;have ha := ha.s0 (d := 3) rfl
    exact ss_val ha rfl rfl (fa_28_2 rfl) rfl rfl
   | 10, _ =>
    intro val fl w1 a hb ha hd hfl;obtain ⟨hk, hk1, hf⟩ := hb;have e9 : val 9 = _ := hd 9 (memB_mem.1 rfl);have ha := ha.s1 (d := 47) rfl e9
    exact ss_val ha rfl rfl (ld_25 rfl ((hk.blk _ _ _ q3 rfl).at (j := 3) rfl)) rfl rfl
   | 11, _ =>
    intro val fl w1 a hb ha hd hfl;obtain ⟨hk, hk1, hf⟩ := hb;have ha := ha.sub (Sub.nil _)
    exact ss_newS ha rfl rfl (bs_25_1 rfl) rfl (fun g w' hq _ hge => ⟨g, rfl, hq, Nat.le_trans hk.size hge⟩)
   | 12, _ =>
    exact absurd (by simp) hs_
   | 13, _ =>
    intro val fl w1 a hb ha hd hfl;obtain ⟨hk, hk1, hf⟩ := hb;have ha := ha.s0 (d := 3) rfl
    exact ss_val ha rfl rfl (fa_28_3 rfl) rfl rfl
   | 14, _ =>
    intro val fl w1 a hb ha hd hfl;obtain ⟨hk, hk1, hf⟩ := hb;have e13 : val 13 = _ := hd 13 (memB_mem.1 rfl);have ha := ha.s1 (d := 51) rfl e13
    exact ss_val ha rfl rfl (ld_25 rfl ((hk.blk _ _ _ q3 rfl).at (j := 4) rfl)) rfl rfl
   | 15, _ =>
    intro val fl w1 a hb ha hd hfl;obtain ⟨hk, hk1, hf⟩ := hb;have ha := ha.sub (Sub.nil _)
    exact ss_newS ha rfl rfl (bs_25_1 rfl) rfl (fun g w' hq _ hge => ⟨g, rfl, hq, Nat.le_trans hk.size hge⟩)
   | 16, _ =>
    exact absurd (by simp) hs_
   | 17, _ =>
    intro val fl w1 a hb ha hd hfl;obtain ⟨hk, hk1, hf⟩ := hb;have ha := ha.s0 (d := 3) rfl
    exact ss_val ha rfl rfl (fa_28_0 rfl) rfl rfl
   | k + 18, h => exact absurd h (by omega)
  ·simp only [List.mem_cons, List.not_mem_nil, or_false] at hi_
   rcases hi_ with rfl | rfl | rfl
   ·intro val fl w1 a hb hfi ha hd hfl
    obtain ⟨hk, hk1, hf⟩ := hb;have hn12 : fl 12 = false := hfl 12 (by simp) (memB_mem.1 rfl)
    have hn16 : fl 16 = false := hfl 16 (by simp) (memB_mem.1 rfl)
    have hFp := hf ⟨hfi, hn12, hn16⟩;have e1 : val 1 = _ := hd 1 (memB_mem.1 rfl);obtain ⟨g7_, e7, q7_, h7_⟩ := hd 7 (memB_mem.1 rfl);change val 7 = _ at e7;have ha := ha.s2 (d := 45) (e := 39) rfl e7 rfl e1;have hown := hFp.own 0 (by omega)
    rw [show ft 0 = 3 from rfl] at hown;refine ts_push ir_elem ha rfl rfl rfl hown (rd_one (l := [.int .i64 (x.b i)]) q7_ rfl) (by intro u hu; simp only [List.mem_cons, List.not_mem_nil, or_false] at hu; subst hu; rfl) (by rw [fX_len0]; omega) rfl (Nat.le_trans hbw.size hk.size) ?_
    intro v' w' ho' hgr hat;have hFn := Fam.turn (y := (fX x.b v i i 0) 0 ++ [.int .i64 (x.b i)]) hFp (show 0 < 11 by omega) (by rw [List.length_append, show ft 0 = 3 from rfl]; exact ho') (by exact hgr) (by exact hat)
    refine ⟨v', rfl, hgr.size, ⟨hk.trans (Kp.own (S := [3, 22]) hown rfl (Nat.le_refl _) (Nat.le_trans hbw.size hk.size) hgr), (fun (h : fset fl 8 16 = false) => (hk1 (by rw [fset_ne rfl] at h; exact h)).trans (Kp.own (S := [3, 22]) hown rfl (Nat.le_refl _) (Nat.le_trans hbw.size hk.size) hgr)), fun hc => absurd hc.1 (by rw [fset_eq]; decide)⟩, (fun _ _ => hFn), fun j _ hj hn hA => ?_⟩
    exact phiS_cons_st (C := fun j => j ≠ 8 ∧ 8 ∉ clsAt [[], [0], [], [], [2, 3], [2, 3, 4], [2, 3, 4, 5], [2, 3, 4, 5, 6], [0, 1, 2, 3, 4, 5, 6, 7], [], [9], [], [0, 1, 2, 3, 4, 5, 6, 7, 8, 9, 10, 11], [], [13], [], [0, 1, 2, 3, 4, 5, 6, 7, 8, 9, 10, 11, 12, 13, 14, 15], [0, 1, 2, 3, 4, 5, 6, 7, 8, 9, 10, 13, 14], [0, 1, 2, 3, 4, 5, 6, 7, 8, 9, 10, 11, 12, 13, 14, 15, 16, 17], [0, 1, 2, 3, 4, 5, 6, 7, 8, 9, 10, 11, 12, 13, 14, 15, 16, 17, 18], [0, 1, 2, 3, 4, 5, 6, 7, 8, 9, 10, 11, 12, 13, 14, 15, 16, 17, 18, 19], [0, 1, 2, 3, 4, 5, 6, 7, 8, 9, 10, 11, 12, 13, 14, 15, 16, 17, 18, 19, 20], [0, 1, 2, 3, 4, 5, 6, 7, 8, 9, 10, 11, 12, 13, 14, 15, 16, 17, 18, 19, 20, 21]] j) (fun _ ⟨g, h1, h2, h3⟩ => ⟨g, h1, h2.grown hgr (fun h => by have := ((hF.own 0 (by omega)).lt _ h.symm).2; omega), h3⟩) (phiS_cons_st (C := fun j => j ≠ 8 ∧ 8 ∉ clsAt [[], [0], [], [], [2, 3], [2, 3, 4], [2, 3, 4, 5], [2, 3, 4, 5, 6], [0, 1, 2, 3, 4, 5, 6, 7], [], [9], [], [0, 1, 2, 3, 4, 5, 6, 7, 8, 9, 10, 11], [], [13], [], [0, 1, 2, 3, 4, 5, 6, 7, 8, 9, 10, 11, 12, 13, 14, 15], [0, 1, 2, 3, 4, 5, 6, 7, 8, 9, 10, 13, 14], [0, 1, 2, 3, 4, 5, 6, 7, 8, 9, 10, 11, 12, 13, 14, 15, 16, 17], [0, 1, 2, 3, 4, 5, 6, 7, 8, 9, 10, 11, 12, 13, 14, 15, 16, 17, 18], [0, 1, 2, 3, 4, 5, 6, 7, 8, 9, 10, 11, 12, 13, 14, 15, 16, 17, 18, 19], [0, 1, 2, 3, 4, 5, 6, 7, 8, 9, 10, 11, 12, 13, 14, 15, 16, 17, 18, 19, 20], [0, 1, 2, 3, 4, 5, 6, 7, 8, 9, 10, 11, 12, 13, 14, 15, 16, 17, 18, 19, 20, 21]] j) (fun hc => absurd rfl hc.1) (phiS_cons_st (C := fun j => j ≠ 8 ∧ 8 ∉ clsAt [[], [0], [], [], [2, 3], [2, 3, 4], [2, 3, 4, 5], [2, 3, 4, 5, 6], [0, 1, 2, 3, 4, 5, 6, 7], [], [9], [], [0, 1, 2, 3, 4, 5, 6, 7, 8, 9, 10, 11], [], [13], [], [0, 1, 2, 3, 4, 5, 6, 7, 8, 9, 10, 11, 12, 13, 14, 15], [0, 1, 2, 3, 4, 5, 6, 7, 8, 9, 10, 13, 14], [0, 1, 2, 3, 4, 5, 6, 7, 8, 9, 10, 11, 12, 13, 14, 15, 16, 17], [0, 1, 2, 3, 4, 5, 6, 7, 8, 9, 10, 11, 12, 13, 14, 15, 16, 17, 18], [0, 1, 2, 3, 4, 5, 6, 7, 8, 9, 10, 11, 12, 13, 14, 15, 16, 17, 18, 19], [0, 1, 2, 3, 4, 5, 6, 7, 8, 9, 10, 11, 12, 13, 14, 15, 16, 17, 18, 19, 20], [0, 1, 2, 3, 4, 5, 6, 7, 8, 9, 10, 11, 12, 13, 14, 15, 16, 17, 18, 19, 20, 21]] j) (fun _ ⟨g, h1, h2, h3⟩ => ⟨g, h1, h2.grown hgr (fun h => by have := ((hF.own 0 (by omega)).lt _ h.symm).2; omega), h3⟩) (phiS_cons_st (C := fun j => j ≠ 8 ∧ 8 ∉ clsAt [[], [0], [], [], [2, 3], [2, 3, 4], [2, 3, 4, 5], [2, 3, 4, 5, 6], [0, 1, 2, 3, 4, 5, 6, 7], [], [9], [], [0, 1, 2, 3, 4, 5, 6, 7, 8, 9, 10, 11], [], [13], [], [0, 1, 2, 3, 4, 5, 6, 7, 8, 9, 10, 11, 12, 13, 14, 15], [0, 1, 2, 3, 4, 5, 6, 7, 8, 9, 10, 13, 14], [0, 1, 2, 3, 4, 5, 6, 7, 8, 9, 10, 11, 12, 13, 14, 15, 16, 17], [0, 1, 2, 3, 4, 5, 6, 7, 8, 9, 10, 11, 12, 13, 14, 15, 16, 17, 18], [0, 1, 2, 3, 4, 5, 6, 7, 8, 9, 10, 11, 12, 13, 14, 15, 16, 17, 18, 19], [0, 1, 2, 3, 4, 5, 6, 7, 8, 9, 10, 11, 12, 13, 14, 15, 16, 17, 18, 19, 20], [0, 1, 2, 3, 4, 5, 6, 7, 8, 9, 10, 11, 12, 13, 14, 15, 16, 17, 18, 19, 20, 21]] j) (fun hc => absurd (memB_mem.1 rfl) hc.2) (phiS_cons_st (C := fun j => j ≠ 8 ∧ 8 ∉ clsAt [[], [0], [], [], [2, 3], [2, 3, 4], [2, 3, 4, 5], [2, 3, 4, 5, 6], [0, 1, 2, 3, 4, 5, 6, 7], [], [9], [], [0, 1, 2, 3, 4, 5, 6, 7, 8, 9, 10, 11], [], [13], [], [0, 1, 2, 3, 4, 5, 6, 7, 8, 9, 10, 11, 12, 13, 14, 15], [0, 1, 2, 3, 4, 5, 6, 7, 8, 9, 10, 13, 14], [0, 1, 2, 3, 4, 5, 6, 7, 8, 9, 10, 11, 12, 13, 14, 15, 16, 17], [0, 1, 2, 3, 4, 5, 6, 7, 8, 9, 10, 11, 12, 13, 14, 15, 16, 17, 18], [0, 1, 2, 3, 4, 5, 6, 7, 8, 9, 10, 11, 12, 13, 14, 15, 16, 17, 18, 19], [0, 1, 2, 3, 4, 5, 6, 7, 8, 9, 10, 11, 12, 13, 14, 15, 16, 17, 18, 19, 20], [0, 1, 2, 3, 4, 5, 6, 7, 8, 9, 10, 11, 12, 13, 14, 15, 16, 17, 18, 19, 20, 21]] j) (fun _ ⟨g, h1, h2, h3⟩ => ⟨g, h1, h2.grown hgr (fun h => by have := ((hF.own 0 (by omega)).lt _ h.symm).2; omega), h3⟩) (phiS_cons_st (C := fun j => j ≠ 8 ∧ 8 ∉ clsAt [[], [0], [], [], [2, 3], [2, 3, 4], [2, 3, 4, 5], [2, 3, 4, 5, 6], [0, 1, 2, 3, 4, 5, 6, 7], [], [9], [], [0, 1, 2, 3, 4, 5, 6, 7, 8, 9, 10, 11], [], [13], [], [0, 1, 2, 3, 4, 5, 6, 7, 8, 9, 10, 11, 12, 13, 14, 15], [0, 1, 2, 3, 4, 5, 6, 7, 8, 9, 10, 13, 14], [0, 1, 2, 3, 4, 5, 6, 7, 8, 9, 10, 11, 12, 13, 14, 15, 16, 17], [0, 1, 2, 3, 4, 5, 6, 7, 8, 9, 10, 11, 12, 13, 14, 15, 16, 17, 18], [0, 1, 2, 3, 4, 5, 6, 7, 8, 9, 10, 11, 12, 13, 14, 15, 16, 17, 18, 19], [0, 1, 2, 3, 4, 5, 6, 7, 8, 9, 10, 11, 12, 13, 14, 15, 16, 17, 18, 19, 20], [0, 1, 2, 3, 4, 5, 6, 7, 8, 9, 10, 11, 12, 13, 14, 15, 16, 17, 18, 19, 20, 21]] j) (fun hc => absurd (memB_mem.1 rfl) hc.2) (fun _ _ h => h)))))) j ⟨hj, hn⟩
   ·intro val fl w1 a hb hfi ha hd hfl
    obtain ⟨hk, hk1, hf⟩ := hb;have hn16 : fl 16 = false := hfl 16 (by simp) (memB_mem.1 rfl)
    have hFp : Fam w1 w.heap.size 11 ft (fu (v) 0 (val 8)) (fu ((fX x.b v i i 0)) 0 ((fX x.b v i i 0) 0 ++ [.int .i64 (x.b i)])) := hd 8 (memB_mem.1 rfl) hfi hn16;have e10 : val 10 = _ := hd 10 (memB_mem.1 rfl);obtain ⟨g11_, e11, q11_, h11_⟩ := hd 11 (memB_mem.1 rfl);change val 11 = _ at e11;have ha := ha.s2 (d := 49) (e := 48) rfl e11 rfl e10;have hown := hFp.own 1 (by omega)
    rw [fu_ne (by omega), fu_ne (by omega)] at hown
    rw [show ft 1 = 22 from rfl] at hown;refine ts_push rr_elem ha rfl rfl rfl hown (rd_one (l := [.slice none 0 0]) q11_ rfl) (by intro u hu; simp only [List.mem_cons, List.not_mem_nil, or_false] at hu; subst hu; rfl) (by rw [fX_len1]; omega) rfl (Nat.le_trans hbw.size hk.size) ?_
    intro v' w' ho' hgr hat;have hFn := Fam.turn (y := (fX x.b v i i 0) 1 ++ [.slice none 0 0]) hFp (show 1 < 11 by omega) (by rw [List.length_append, show ft 1 = 22 from rfl]; exact ho') (by rw [fu_ne (by omega)]; exact hgr) (by rw [fu_ne (by omega)]; exact hat)
    refine ⟨v', rfl, hgr.size, ⟨hk.trans (Kp.own (S := [3, 22]) hown rfl (Nat.le_refl _) (Nat.le_trans hbw.size hk.size) hgr), (fun (h : fset fl 12 16 = false) => (hk1 (by rw [fset_ne rfl] at h; exact h)).trans (Kp.own (S := [3, 22]) hown rfl (Nat.le_refl _) (Nat.le_trans hbw.size hk.size) hgr)), fun hc => absurd hc.2.1 (by rw [fset_eq]; decide)⟩, (fun _ => hFn), fun j _ hj hn hA => ?_⟩
    exact phiS_cons_st (C := fun j => j ≠ 12 ∧ 12 ∉ clsAt [[], [0], [], [], [2, 3], [2, 3, 4], [2, 3, 4, 5], [2, 3, 4, 5, 6], [0, 1, 2, 3, 4, 5, 6, 7], [], [9], [], [0, 1, 2, 3, 4, 5, 6, 7, 8, 9, 10, 11], [], [13], [], [0, 1, 2, 3, 4, 5, 6, 7, 8, 9, 10, 11, 12, 13, 14, 15], [0, 1, 2, 3, 4, 5, 6, 7, 8, 9, 10, 13, 14], [0, 1, 2, 3, 4, 5, 6, 7, 8, 9, 10, 11, 12, 13, 14, 15, 16, 17], [0, 1, 2, 3, 4, 5, 6, 7, 8, 9, 10, 11, 12, 13, 14, 15, 16, 17, 18], [0, 1, 2, 3, 4, 5, 6, 7, 8, 9, 10, 11, 12, 13, 14, 15, 16, 17, 18, 19], [0, 1, 2, 3, 4, 5, 6, 7, 8, 9, 10, 11, 12, 13, 14, 15, 16, 17, 18, 19, 20], [0, 1, 2, 3, 4, 5, 6, 7, 8, 9, 10, 11, 12, 13, 14, 15, 16, 17, 18, 19, 20, 21]] j) (fun _ ⟨g, h1, h2, h3⟩ => ⟨g, h1, h2.grown hgr (fun h => by have := ((hF.own 1 (by omega)).lt _ h.symm).2; omega), h3⟩) (phiS_cons_st (C := fun j => j ≠ 12 ∧ 12 ∉ clsAt [[], [0], [], [], [2, 3], [2, 3, 4], [2, 3, 4, 5], [2, 3, 4, 5, 6], [0, 1, 2, 3, 4, 5, 6, 7], [], [9], [], [0, 1, 2, 3, 4, 5, 6, 7, 8, 9, 10, 11], [], [13], [], [0, 1, 2, 3, 4, 5, 6, 7, 8, 9, 10, 11, 12, 13, 14, 15], [0, 1, 2, 3, 4, 5, 6, 7, 8, 9, 10, 13, 14], [0, 1, 2, 3, 4, 5, 6, 7, 8, 9, 10, 11, 12, 13, 14, 15, 16, 17], [0, 1, 2, 3, 4, 5, 6, 7, 8, 9, 10, 11, 12, 13, 14, 15, 16, 17, 18], [0, 1, 2, 3, 4, 5, 6, 7, 8, 9, 10, 11, 12, 13, 14, 15, 16, 17, 18, 19], [0, 1, 2, 3, 4, 5, 6, 7, 8, 9, 10, 11, 12, 13, 14, 15, 16, 17, 18, 19, 20], [0, 1, 2, 3, 4, 5, 6, 7, 8, 9, 10, 11, 12, 13, 14, 15, 16, 17, 18, 19, 20, 21]] j) (fun _ h c0 c1 => absurd c0 (by rw [fset_eq]; decide)) (phiS_cons_st (C := fun j => j ≠ 12 ∧ 12 ∉ clsAt [[], [0], [], [], [2, 3], [2, 3, 4], [2, 3, 4, 5], [2, 3, 4, 5, 6], [0, 1, 2, 3, 4, 5, 6, 7], [], [9], [], [0, 1, 2, 3, 4, 5, 6, 7, 8, 9, 10, 11], [], [13], [], [0, 1, 2, 3, 4, 5, 6, 7, 8, 9, 10, 11, 12, 13, 14, 15], [0, 1, 2, 3, 4, 5, 6, 7, 8, 9, 10, 13, 14], [0, 1, 2, 3, 4, 5, 6, 7, 8, 9, 10, 11, 12, 13, 14, 15, 16, 17], [0, 1, 2, 3, 4, 5, 6, 7, 8, 9, 10, 11, 12, 13, 14, 15, 16, 17, 18], [0, 1, 2, 3, 4, 5, 6, 7, 8, 9, 10, 11, 12, 13, 14, 15, 16, 17, 18, 19], [0, 1, 2, 3, 4, 5, 6, 7, 8, 9, 10, 11, 12, 13, 14, 15, 16, 17, 18, 19, 20], [0, 1, 2, 3, 4, 5, 6, 7, 8, 9, 10, 11, 12, 13, 14, 15, 16, 17, 18, 19, 20, 21]] j) (fun _ ⟨g, h1, h2, h3⟩ => ⟨g, h1, h2.grown hgr (fun h => by have := ((hF.own 1 (by omega)).lt _ h.symm).2; omega), h3⟩) (phiS_cons_st (C := fun j => j ≠ 12 ∧ 12 ∉ clsAt [[], [0], [], [], [2, 3], [2, 3, 4], [2, 3, 4, 5], [2, 3, 4, 5, 6], [0, 1, 2, 3, 4, 5, 6, 7], [], [9], [], [0, 1, 2, 3, 4, 5, 6, 7, 8, 9, 10, 11], [], [13], [], [0, 1, 2, 3, 4, 5, 6, 7, 8, 9, 10, 11, 12, 13, 14, 15], [0, 1, 2, 3, 4, 5, 6, 7, 8, 9, 10, 13, 14], [0, 1, 2, 3, 4, 5, 6, 7, 8, 9, 10, 11, 12, 13, 14, 15, 16, 17], [0, 1, 2, 3, 4, 5, 6, 7, 8, 9, 10, 11, 12, 13, 14, 15, 16, 17, 18], [0, 1, 2, 3, 4, 5, 6, 7, 8, 9, 10, 11, 12, 13, 14, 15, 16, 17, 18, 19], [0, 1, 2, 3, 4, 5, 6, 7, 8, 9, 10, 11, 12, 13, 14, 15, 16, 17, 18, 19, 20], [0, 1, 2, 3, 4, 5, 6, 7, 8, 9, 10, 11, 12, 13, 14, 15, 16, 17, 18, 19, 20, 21]] j) (fun hc => absurd rfl hc.1) (phiS_cons_st (C := fun j => j ≠ 12 ∧ 12 ∉ clsAt [[], [0], [], [], [2, 3], [2, 3, 4], [2, 3, 4, 5], [2, 3, 4, 5, 6], [0, 1, 2, 3, 4, 5, 6, 7], [], [9], [], [0, 1, 2, 3, 4, 5, 6, 7, 8, 9, 10, 11], [], [13], [], [0, 1, 2, 3, 4, 5, 6, 7, 8, 9, 10, 11, 12, 13, 14, 15], [0, 1, 2, 3, 4, 5, 6, 7, 8, 9, 10, 13, 14], [0, 1, 2, 3, 4, 5, 6, 7, 8, 9, 10, 11, 12, 13, 14, 15, 16, 17], [0, 1, 2, 3, 4, 5, 6, 7, 8, 9, 10, 11, 12, 13, 14, 15, 16, 17, 18], [0, 1, 2, 3, 4, 5, 6, 7, 8, 9, 10, 11, 12, 13, 14, 15, 16, 17, 18, 19], [0, 1, 2, 3, 4, 5, 6, 7, 8, 9, 10, 11, 12, 13, 14, 15, 16, 17, 18, 19, 20], [0, 1, 2, 3, 4, 5, 6, 7, 8, 9, 10, 11, 12, 13, 14, 15, 16, 17, 18, 19, 20, 21]] j) (fun _ ⟨g, h1, h2, h3⟩ => ⟨g, h1, h2.grown hgr (fun h => by have := ((hF.own 1 (by omega)).lt _ h.symm).2; omega), h3⟩) (phiS_cons_st (C := fun j => j ≠ 12 ∧ 12 ∉ clsAt [[], [0], [], [], [2, 3], [2, 3, 4], [2, 3, 4, 5], [2, 3, 4, 5, 6], [0, 1, 2, 3, 4, 5, 6, 7], [], [9], [], [0, 1, 2, 3, 4, 5, 6, 7, 8, 9, 10, 11], [], [13], [], [0, 1, 2, 3, 4, 5, 6, 7, 8, 9, 10, 11, 12, 13, 14, 15], [0, 1, 2, 3, 4, 5, 6, 7, 8, 9, 10, 13, 14], [0, 1, 2, 3, 4, 5, 6, 7, 8, 9, 10, 11, 12, 13, 14, 15, 16, 17], [0, 1, 2, 3, 4, 5, 6, 7, 8, 9, 10, 11, 12, 13, 14, 15, 16, 17, 18], [0, 1, 2, 3, 4, 5, 6, 7, 8, 9, 10, 11, 12, 13, 14, 15, 16, 17, 18, 19], [0, 1, 2, 3, 4, 5, 6, 7, 8, 9, 10, 11, 12, 13, 14, 15, 16, 17, 18, 19, 20], [0, 1, 2, 3, 4, 5, 6, 7, 8, 9, 10, 11, 12, 13, 14, 15, 16, 17, 18, 19, 20, 21]] j) (fun hc => absurd (memB_mem.1 rfl) hc.2) (fun _ _ h => h)))))) j ⟨hj, hn⟩
   ·intro val fl w1 a hb hfi ha hd hfl
    obtain ⟨hk, hk1, hf⟩ := hb;have hFp : Fam w1 w.heap.size 11 ft (fu (fu (v) 0 (val 8)) 1 (val 12)) (fu (fu ((fX x.b v i i 0)) 0 ((fX x.b v i i 0) 0 ++ [.int .i64 (x.b i)])) 1 ((fX x.b v i i 0) 1 ++ [.slice none 0 0])) := hd 12 (memB_mem.1 rfl) hfi;have e14 : val 14 = _ := hd 14 (memB_mem.1 rfl);obtain ⟨g15_, e15, q15_, h15_⟩ := hd 15 (memB_mem.1 rfl);change val 15 = _ at e15;have ha := ha.s2 (d := 53) (e := 52) rfl e15 rfl e14;have hown := hFp.own 2 (by omega)
    rw [fu_ne (by omega), fu_ne (by omega), fu_ne (by omega), fu_ne (by omega)] at hown
    rw [show ft 2 = 22 from rfl] at hown;refine ts_push rr_elem ha rfl rfl rfl hown (rd_one (l := [.slice none 0 0]) q15_ rfl) (by intro u hu; simp only [List.mem_cons, List.not_mem_nil, or_false] at hu; subst hu; rfl) (by rw [fX_len2]; omega) rfl (Nat.le_trans hbw.size hk.size) ?_
    intro v' w' ho' hgr hat;have hFn := Fam.turn (y := (fX x.b v i i 0) 2 ++ [.slice none 0 0]) hFp (show 2 < 11 by omega) (by rw [List.length_append, show ft 2 = 22 from rfl]; exact ho') (by rw [fu_ne (by omega), fu_ne (by omega)]; exact hgr) (by rw [fu_ne (by omega), fu_ne (by omega)]; exact hat)
    refine ⟨v', rfl, hgr.size, ⟨hk.trans (Kp.own (S := [3, 22]) hown rfl (Nat.le_refl _) (Nat.le_trans hbw.size hk.size) hgr), (fun (h : fset fl 16 16 = false) => absurd h (by rw [fset_eq]; decide)), fun hc => absurd hc.2.2 (by rw [fset_eq]; decide)⟩, hFn, fun j _ hj hn hA => ?_⟩
    exact phiS_cons_st (C := fun j => j ≠ 16 ∧ 16 ∉ clsAt [[], [0], [], [], [2, 3], [2, 3, 4], [2, 3, 4, 5], [2, 3, 4, 5, 6], [0, 1, 2, 3, 4, 5, 6, 7], [], [9], [], [0, 1, 2, 3, 4, 5, 6, 7, 8, 9, 10, 11], [], [13], [], [0, 1, 2, 3, 4, 5, 6, 7, 8, 9, 10, 11, 12, 13, 14, 15], [0, 1, 2, 3, 4, 5, 6, 7, 8, 9, 10, 13, 14], [0, 1, 2, 3, 4, 5, 6, 7, 8, 9, 10, 11, 12, 13, 14, 15, 16, 17], [0, 1, 2, 3, 4, 5, 6, 7, 8, 9, 10, 11, 12, 13, 14, 15, 16, 17, 18], [0, 1, 2, 3, 4, 5, 6, 7, 8, 9, 10, 11, 12, 13, 14, 15, 16, 17, 18, 19], [0, 1, 2, 3, 4, 5, 6, 7, 8, 9, 10, 11, 12, 13, 14, 15, 16, 17, 18, 19, 20], [0, 1, 2, 3, 4, 5, 6, 7, 8, 9, 10, 11, 12, 13, 14, 15, 16, 17, 18, 19, 20, 21]] j) (fun _ ⟨g, h1, h2, h3⟩ => ⟨g, h1, h2.grown hgr (fun h => by have := ((hF.own 2 (by omega)).lt _ h.symm).2; omega), h3⟩) (phiS_cons_st (C := fun j => j ≠ 16 ∧ 16 ∉ clsAt [[], [0], [], [], [2, 3], [2, 3, 4], [2, 3, 4, 5], [2, 3, 4, 5, 6], [0, 1, 2, 3, 4, 5, 6, 7], [], [9], [], [0, 1, 2, 3, 4, 5, 6, 7, 8, 9, 10, 11], [], [13], [], [0, 1, 2, 3, 4, 5, 6, 7, 8, 9, 10, 11, 12, 13, 14, 15], [0, 1, 2, 3, 4, 5, 6, 7, 8, 9, 10, 13, 14], [0, 1, 2, 3, 4, 5, 6, 7, 8, 9, 10, 11, 12, 13, 14, 15, 16, 17], [0, 1, 2, 3, 4, 5, 6, 7, 8, 9, 10, 11, 12, 13, 14, 15, 16, 17, 18], [0, 1, 2, 3, 4, 5, 6, 7, 8, 9, 10, 11, 12, 13, 14, 15, 16, 17, 18, 19], [0, 1, 2, 3, 4, 5, 6, 7, 8, 9, 10, 11, 12, 13, 14, 15, 16, 17, 18, 19, 20], [0, 1, 2, 3, 4, 5, 6, 7, 8, 9, 10, 11, 12, 13, 14, 15, 16, 17, 18, 19, 20, 21]] j) (fun _ h c0 c1 => absurd c1 (by rw [fset_eq]; decide)) (phiS_cons_st (C := fun j => j ≠ 16 ∧ 16 ∉ clsAt [[], [0], [], [], [2, 3], [2, 3, 4], [2, 3, 4, 5], [2, 3, 4, 5, 6], [0, 1, 2, 3, 4, 5, 6, 7], [], [9], [], [0, 1, 2, 3, 4, 5, 6, 7, 8, 9, 10, 11], [], [13], [], [0, 1, 2, 3, 4, 5, 6, 7, 8, 9, 10, 11, 12, 13, 14, 15], [0, 1, 2, 3, 4, 5, 6, 7, 8, 9, 10, 13, 14], [0, 1, 2, 3, 4, 5, 6, 7, 8, 9, 10, 11, 12, 13, 14, 15, 16, 17], [0, 1, 2, 3, 4, 5, 6, 7, 8, 9, 10, 11, 12, 13, 14, 15, 16, 17, 18], [0, 1, 2, 3, 4, 5, 6, 7, 8, 9, 10, 11, 12, 13, 14, 15, 16, 17, 18, 19], [0, 1, 2, 3, 4, 5, 6, 7, 8, 9, 10, 11, 12, 13, 14, 15, 16, 17, 18, 19, 20], [0, 1, 2, 3, 4, 5, 6, 7, 8, 9, 10, 11, 12, 13, 14, 15, 16, 17, 18, 19, 20, 21]] j) (fun _ ⟨g, h1, h2, h3⟩ => ⟨g, h1, h2.grown hgr (fun h => by have := ((hF.own 2 (by omega)).lt _ h.symm).2; omega), h3⟩) (phiS_cons_st (C := fun j => j ≠ 16 ∧ 16 ∉ clsAt [[], [0], [], [], [2, 3], [2, 3, 4], [2, 3, 4, 5], [2, 3, 4, 5, 6], [0, 1, 2, 3, 4, 5, 6, 7], [], [9], [], [0, 1, 2, 3, 4, 5, 6, 7, 8, 9, 10, 11], [], [13], [], [0, 1, 2, 3, 4, 5, 6, 7, 8, 9, 10, 11, 12, 13, 14, 15], [0, 1, 2, 3, 4, 5, 6, 7, 8, 9, 10, 13, 14], [0, 1, 2, 3, 4, 5, 6, 7, 8, 9, 10, 11, 12, 13, 14, 15, 16, 17], [0, 1, 2, 3, 4, 5, 6, 7, 8, 9, 10, 11, 12, 13, 14, 15, 16, 17, 18], [0, 1, 2, 3, 4, 5, 6, 7, 8, 9, 10, 11, 12, 13, 14, 15, 16, 17, 18, 19], [0, 1, 2, 3, 4, 5, 6, 7, 8, 9, 10, 11, 12, 13, 14, 15, 16, 17, 18, 19, 20], [0, 1, 2, 3, 4, 5, 6, 7, 8, 9, 10, 11, 12, 13, 14, 15, 16, 17, 18, 19, 20, 21]] j) (fun _ h c0 => absurd c0 (by rw [fset_eq]; decide)) (phiS_cons_st (C := fun j => j ≠ 16 ∧ 16 ∉ clsAt [[], [0], [], [], [2, 3], [2, 3, 4], [2, 3, 4, 5], [2, 3, 4, 5, 6], [0, 1, 2, 3, 4, 5, 6, 7], [], [9], [], [0, 1, 2, 3, 4, 5, 6, 7, 8, 9, 10, 11], [], [13], [], [0, 1, 2, 3, 4, 5, 6, 7, 8, 9, 10, 11, 12, 13, 14, 15], [0, 1, 2, 3, 4, 5, 6, 7, 8, 9, 10, 13, 14], [0, 1, 2, 3, 4, 5, 6, 7, 8, 9, 10, 11, 12, 13, 14, 15, 16, 17], [0, 1, 2, 3, 4, 5, 6, 7, 8, 9, 10, 11, 12, 13, 14, 15, 16, 17, 18], [0, 1, 2, 3, 4, 5, 6, 7, 8, 9, 10, 11, 12, 13, 14, 15, 16, 17, 18, 19], [0, 1, 2, 3, 4, 5, 6, 7, 8, 9, 10, 11, 12, 13, 14, 15, 16, 17, 18, 19, 20], [0, 1, 2, 3, 4, 5, 6, 7, 8, 9, 10, 11, 12, 13, 14, 15, 16, 17, 18, 19, 20, 21]] j) (fun _ ⟨g, h1, h2, h3⟩ => ⟨g, h1, h2.grown hgr (fun h => by have := ((hF.own 2 (by omega)).lt _ h.symm).2; omega), h3⟩) (phiS_cons_st (C := fun j => j ≠ 16 ∧ 16 ∉ clsAt [[], [0], [], [], [2, 3], [2, 3, 4], [2, 3, 4, 5], [2, 3, 4, 5, 6], [0, 1, 2, 3, 4, 5, 6, 7], [], [9], [], [0, 1, 2, 3, 4, 5, 6, 7, 8, 9, 10, 11], [], [13], [], [0, 1, 2, 3, 4, 5, 6, 7, 8, 9, 10, 11, 12, 13, 14, 15], [0, 1, 2, 3, 4, 5, 6, 7, 8, 9, 10, 13, 14], [0, 1, 2, 3, 4, 5, 6, 7, 8, 9, 10, 11, 12, 13, 14, 15, 16, 17], [0, 1, 2, 3, 4, 5, 6, 7, 8, 9, 10, 11, 12, 13, 14, 15, 16, 17, 18], [0, 1, 2, 3, 4, 5, 6, 7, 8, 9, 10, 11, 12, 13, 14, 15, 16, 17, 18, 19], [0, 1, 2, 3, 4, 5, 6, 7, 8, 9, 10, 11, 12, 13, 14, 15, 16, 17, 18, 19, 20], [0, 1, 2, 3, 4, 5, 6, 7, 8, 9, 10, 11, 12, 13, 14, 15, 16, 17, 18, 19, 20, 21]] j) (fun hc => absurd rfl hc.1) (fun _ _ h => h)))))) j ⟨hj, hn⟩
  ·intro val fl w' hfl hb halc hd
   obtain ⟨hk, _, _⟩ := hb;have e0 : val 0 = _ := hd 0 (by omega)
   have e1 : val 1 = _ := hd 1 (by omega)
   have e2 : val 2 = _ := hd 2 (by omega)
   have e3 : val 3 = _ := hd 3 (by omega)
   have e4 : val 4 = _ := hd 4 (by omega)
   have e5 : val 5 = _ := hd 5 (by omega)
   have e6 : val 6 = _ := hd 6 (by omega)
   obtain ⟨ga7, e7, _, _⟩ := hd 7 (by omega)
   change val 7 = _ at e7;have e9 : val 9 = _ := hd 9 (by omega)
   have e10 : val 10 = _ := hd 10 (by omega)
   obtain ⟨ga11, e11, _, _⟩ := hd 11 (by omega)
   change val 11 = _ at e11;have e13 : val 13 = _ := hd 13 (by omega)
   have e14 : val 14 = _ := hd 14 (by omega)
   obtain ⟨ga15, e15, _, _⟩ := hd 15 (by omega)
   change val 15 = _ at e15;have e17 : val 17 = _ := hd 17 (by omega)
   have hF2 : Fam w' w.heap.size 11 ft (fu (fu (fu (v) 0 (val 8)) 1 (val 12)) 2 (val 16)) (fu (fu (fu ((fX x.b v i i 0)) 0 ((fX x.b v i i 0) 0 ++ [.int .i64 (x.b i)])) 1 ((fX x.b v i i 0) 1 ++ [.slice none 0 0])) 2 ((fX x.b v i i 0) 2 ++ [.slice none 0 0])) := hd 16 (by omega)
   refine EL.ends (cs := [_, _, _, _, _, _, _, _, val 8, _, _, _, val 12, _, _, _, val 16, _]) ⟨e0, e1, e2, e3, e4, e5, e6, e7, rfl, e9, e10, e11, rfl, e13, e14, e15, rfl, e17, trivial⟩ rfl ?_
   generalize val 8 = nv0 at hF2 ⊢
   generalize val 12 = nv1 at hF2 ⊢
   generalize val 16 = nv2 at hF2 ⊢
   clear hF halc hd e0 e1 e2 e3 e4 e5 e6 e7 e9 e10 e11 e13 e14 e15 e17;replace q1 := hk.blk _ _ _ q1 rfl;replace q2 := hk.blk _ _ _ q2 rfl;replace q3 := hk.blk _ _ _ q3 rfl;replace hbw := hbw.trans hk.below;clear hk hfl;obtain ⟨v1, rfl, rfl, rfl, hnil1, hF⟩ : ∃ v1 : Nat → Value, nv0 = v1 0 ∧ nv1 = v1 1 ∧ nv2 = v1 2 ∧ (∀ r, i ≤ r → v1 (3 + 2 * r) = .slice none 0 0 ∧ v1 (4 + 2 * r) = .slice none 0 0) ∧ Fam w' w.heap.size 11 ft v1 (fX x.b v1 (i + 1) i 0) := ⟨fu (fu (fu v 0 nv0) 1 nv1) 2 nv2, by rw [fu_ne (by omega), fu_ne (by omega), fu_eq], by rw [fu_ne (by omega), fu_eq], by rw [fu_eq], fun r hr => by rw [fu_ne (by omega), fu_ne (by omega), fu_ne (by omega), fu_ne (by omega), fu_ne (by omega), fu_ne (by omega)]; exact hnil r hr, hF2.same fun j _ => fX_more (hnil i (Nat.le_refl _)).1 (hnil i (Nat.le_refl _)).2 j⟩
   clear hF2 hnil;obtain ⟨A0_, c0_, hsh0⟩ := own_sl (hF.own 0 (by omega))
   obtain ⟨A1_, c1_, hsh1⟩ := own_sl (hF.own 1 (by omega))
   obtain ⟨A2_, c2_, hsh2⟩ := own_sl (hF.own 2 (by omega))
   refine EL.store (l' := [v1 0]) rfl rfl q3 sz_22 (by rw [hsh0]; rfl) rfl rfl (by rw [hsh0]; rfl) ?_
   intro w6 hq6 hg6;replace q1 := q1.gr hg6 n1_3;replace q2 := q2.gr hg6 n2_3;replace hF := hF.box q3 (fun _ _ => ft_box rfl rfl _) hg6
   replace hbw := below_store hbw hg6 bhbw_3;replace q3 := hq6;clear hg6 hq6;refine EL.val (fa_28_2 rfl) rfl ?_;refine EL.store (l' := [v1 1]) rfl rfl q3 sz_25 (by rw [hsh1]; rfl) rfl rfl (by rw [hsh1]; rfl) ?_
   intro w7 hq7 hg7;replace q1 := q1.gr hg7 n1_3;replace q2 := q2.gr hg7 n2_3;replace hF := hF.box q3 (fun _ _ => ft_box rfl rfl _) hg7
   replace hbw := below_store hbw hg7 bhbw_3;replace q3 := hq7;clear hg7 hq7;refine EL.val (fa_28_3 rfl) rfl ?_;refine EL.store (l' := [v1 2]) rfl rfl q3 sz_25 (by rw [hsh2]; rfl) rfl rfl (by rw [hsh2]; rfl) ?_
   intro w8 hq8 hg8;replace q1 := q1.gr hg8 n1_3;replace q2 := q2.gr hg8 n2_3;replace hF := hF.box q3 (fun _ _ => ft_box rfl rfl _) hg8
   replace hbw := below_store hbw hg8 bhbw_3;replace q3 := hq8;clear hg8 hq8;refine EL.nil (EX.seq (EC.seq (EC.region (EL.as rfl rfl (EL.nil (EX.seq (EC.block ?_)))))));refine EC.loopD [5, 58, 59, 60, 61, 62, 63, 64, 65, 66, 67, 68, 69, 70, 71, 72, 73, 74, 75, 76, 77, 78, 79, 80, 81, 82, 83, 84, 85, 86, 87, 88, 89, 90, 91, 92, 93, 94, 95, 96, 97, 98] (fun x_ : Nat × (Nat → Value) => [(5, .int .i64 (x_.1 : Nat))]) (fun x_ W => x_.1 ≤ 4 ∧ (x_.2 0 = v1 0 ∧ x_.2 1 = v1 1 ∧ x_.2 2 = v1 2) ∧ (∀ r, i + 1 ≤ r → x_.2 (3 + 2 * r) = .slice none 0 0 ∧ x_.2 (4 + 2 * r) = .slice none 0 0) ∧ Fam W w.heap.size 11 ft x_.2 (fX x.b x_.2 (i + 1) i x_.1) ∧ Blk W g1 78 (smC x.b (.slice Ak x.kinds.length ck) ves).toArray ∧ Blk W g2 28 #[.slice none 0 0, .int .i64 0, .int .i64 0, .slice none 0 0, .slice none 0 0, .slice none 0 0] ∧ Blk W g3 28 #[v1 0, .int .i64 ((min (x.b 36) (x.b 37)).tmod 40), .int .i64 (((min (x.b 36) (x.b 37)).tmod 40) + (max (x.b 36) (x.b 37)).tmod 20), v1 1, v1 2, .slice none 0 0] ∧ Below w.heap.size w W) (fun x_ => 4 - x_.1) (0, v1) ⟨Nat.zero_le _, ⟨rfl, rfl, rfl⟩, (fun r hr => hnil1 r (by omega)), hF, q1, q2, q3, hbw⟩ ⟨rfl, trivial⟩ ?_
   clear hF q1 q2 q3 hbw hnil1
   rintro ⟨k, v2⟩ wy ⟨hk4, ⟨hs0, hs1, hs2⟩, hnil2, hF, q1, q2, q3, hbw⟩
   dsimp only at hk4 hs0 hs1 hs2 hnil2 hF
   by_cases hlk : k < 4
   ·
    refine EC.seq (EC.seq (EC.region (EL.mv rfl rfl ?_)));refine EL.val (x_lss rfl rfl (decide_eq_true (show (((k : Nat) : Int) < ((4 : Nat) : Int)) by omega))) rfl ?_
    refine EL.nil (EX.seq (EC.yes rfl (EC.skip (EX.seq (EC.seq (EC.block ?_))))));have ho1 := hF.own 1 (by omega)
    have ho2 := hF.own 2 (by omega)
    rw [fX_len1] at ho1;rw [fX_len2] at ho2;obtain ⟨ga, ca, hva, _, _⟩ := own_shape ho1 (by omega)
    obtain ⟨gb, cb, hvb, _, _⟩ := own_shape ho2 (by omega)
    rw [hva] at ho1;rw [hvb] at ho2;rw [← hs1, ← hs2, hva, hvb] at q3;change wy.ownsRow w.heap.size 22 1 _ _ _ at ho1;change wy.ownsRow w.heap.size 22 1 _ _ _ at ho2;have lt_1 := q1.lt;have lt_2 := q2.lt;have lt_3 := q3.lt;refine EC.regionS [[], [0], [], [], [3], [], [], [6], [], [6, 7, 8], [6, 7, 8, 9], [], [], [], [11, 13], [11, 12, 13, 14], [11, 12, 13, 14, 15], [11, 12, 13, 14, 15, 16], [11, 12, 13, 14, 15, 16, 17], [6, 7, 8, 9, 10, 11, 12, 13, 14, 15, 16, 17, 18], [], [20], [], [20, 21, 22], [20, 21, 22, 23], [], [], [], [25, 27], [25, 26, 27, 28], [25, 26, 27, 28, 29], [25, 26, 27, 28, 29, 30], [25, 26, 27, 28, 29, 30, 31], [25, 26, 27, 28, 29, 30, 31, 32], [6, 7, 8, 9, 10, 11, 12, 13, 14, 15, 16, 17, 18, 19, 20, 21, 22, 23, 24, 25, 26, 27, 28, 29, 30, 31, 32, 33], [0, 1, 2, 6, 7, 8, 9, 10, 11, 12, 13, 14, 15, 16, 17, 18, 19, 20, 21, 22, 23, 24, 25, 26, 27, 28, 29, 30, 31, 32, 33, 34], [0, 1, 2, 6, 7, 8, 9, 10, 11, 12, 13, 14, 15, 16, 17, 18, 19, 20, 21, 22, 23, 24, 25, 26, 27, 28, 29, 30, 31, 32, 33, 34, 35], [0, 1, 2, 3, 4, 5, 6, 7, 8, 9, 10, 11, 12, 13, 14, 15, 16, 17, 18, 19, 20, 21, 22, 23, 24, 25, 26, 27, 28, 29, 30, 31, 32, 33, 34, 35, 36], [0, 1, 2, 3, 4, 5, 6, 7, 8, 9, 10, 11, 12, 13, 14, 15, 16, 17, 18, 19, 20, 21, 22, 23, 24, 25, 26, 27, 28, 29, 30, 31, 32, 33, 34, 35, 36, 37]] 37 [] [19, 34, 36] (fun fl w_ => Kp w.heap.size [3, 22] wy w_ ∧ ((fun fl => fl 36 = false) fl → Kp w.heap.size [3] wy w_) ∧ ((fun fl => fl 19 = false ∧ fl 34 = false ∧ fl 36 = false) fl → Fam w_ w.heap.size 11 ft v2 (fX x.b v2 (i + 1) i k))) (phiS (fun i_ r => match i_ with | 0 => r 0 = .pointer (some ⟨g3, 3, none⟩) | 1 => r 1 = .slice (some ⟨ga, 0, none⟩) (i + 1) ca | 2 => r 2 = .int .i64 (i : Nat) | 3 => r 3 = .pointer (some ⟨g3, 4, none⟩) | 4 => r 4 = .slice (some ⟨gb, 0, none⟩) (i + 1) cb | 5 => r 5 = .int .i64 (i : Nat) | 6 => r 6 = .pointer (some ⟨g3, 3, none⟩) | 7 => r 7 = .slice (some ⟨ga, 0, none⟩) (i + 1) ca | 8 => r 8 = .int .i64 (i : Nat) | 9 => r 9 = .pointer (some ⟨ga, 0 + i, none⟩) | 10 => r 10 = (v2 (3 + 2 * i)) | 11 => r 11 = .int .i64 (i : Nat) | 12 => r 12 = .int .i64 (k : Nat) | 13 => r 13 = .pointer (some ⟨g1, 4, none⟩) | 14 => r 14 = .pointer (some ⟨g1, 4 + i * 4, none⟩) | 15 => r 15 = .pointer (some ⟨g1, 4 + i * 4 + k, none⟩) | 16 => r 16 = .int .u8 (x.b (4 + 4 * i + k)) | 17 => r 17 = .int .i64 (x.b (4 + 4 * i + k)) | 20 => r 20 = .pointer (some ⟨g3, 4, none⟩) | 21 => r 21 = .slice (some ⟨gb, 0, none⟩) (i + 1) cb | 22 => r 22 = .int .i64 (i : Nat) | 23 => r 23 = .pointer (some ⟨gb, 0 + i, none⟩) | 24 => r 24 = (v2 (4 + 2 * i)) | 25 => r 25 = .int .i64 (i : Nat) | 26 => r 26 = .int .i64 (k : Nat) | 27 => r 27 = .pointer (some ⟨g1, 20, none⟩) | 28 => r 28 = .pointer (some ⟨g1, 20 + i * 4, none⟩) | 29 => r 29 = .pointer (some ⟨g1, 20 + i * 4 + k, none⟩) | 30 => r 30 = .int .u8 (x.b (20 + 4 * i + k)) | 31 => r 31 = .int .i64 (x.b (20 + 4 * i + k)) | 32 => r 32 = .int .i64 ((x.b (20 + 4 * i + k)).tmod 3) | 35 => r 35 = .pointer (some ⟨ga, 0 + i, none⟩) | _ => True) [(18, fun _ r w_ => ∃ g_, r 18 = .slice (some ⟨g_, 0, none⟩) 1 1 ∧ Blk w_ g_ 3 #[.int .i64 (x.b (4 + 4 * i + k))] ∧ wy.heap.size ≤ g_), (19, fun fl r w_ => fl 34 = false → fl 36 = false → Fam w_ w.heap.size 11 ft (fu (v2) (3 + 2 * i) (r 19)) (fu ((fX x.b v2 (i + 1) i k)) (3 + 2 * i) ((fX x.b v2 (i + 1) i k) (3 + 2 * i) ++ [.int .i64 (x.b (4 + 4 * i + k))]))), (33, fun _ r w_ => ∃ g_, r 33 = .slice (some ⟨g_, 0, none⟩) 1 1 ∧ Blk w_ g_ 3 #[.int .i64 ((x.b (20 + 4 * i + k)).tmod 3)] ∧ wy.heap.size ≤ g_), (34, fun fl r w_ => fl 36 = false → Fam w_ w.heap.size 11 ft (fu (fu (v2) (3 + 2 * i) (r 19)) (4 + 2 * i) (r 34)) (fu (fu ((fX x.b v2 (i + 1) i k)) (3 + 2 * i) ((fX x.b v2 (i + 1) i k) (3 + 2 * i) ++ [.int .i64 (x.b (4 + 4 * i + k))])) (4 + 2 * i) ((fX x.b v2 (i + 1) i k) (4 + 2 * i) ++ [.int .i64 ((x.b (20 + 4 * i + k)).tmod 3)]))), (36, fun fl r w_ => Fam w_ w.heap.size 11 ft (fu (fu (fu (v2) (3 + 2 * i) (r 19)) (4 + 2 * i) (r 34)) 1 (.slice (some ⟨ga, 0, none⟩) (i + 1) ca)) (fu (fu (fu ((fX x.b v2 (i + 1) i k)) (3 + 2 * i) ((fX x.b v2 (i + 1) i k) (3 + 2 * i) ++ [.int .i64 (x.b (4 + 4 * i + k))])) (4 + 2 * i) ((fX x.b v2 (i + 1) i k) (4 + 2 * i) ++ [.int .i64 ((x.b (20 + 4 * i + k)).tmod 3)])) 1 (((fX x.b v2 (i + 1) i k) 1).set i (r 19))))]) (by kernel_rfl) rfl rfl (by intro i hi; simp at hi; rcases hi with rfl | rfl | rfl <;> exact ⟨by simp, by omega⟩) (base_fam hF hbw.size) (phiS_cons monoS_bs (phiS_cons (fun fl r w1 w2 hb h c0 c1 => (h c0 c1).below hb) (phiS_cons monoS_bs (phiS_cons (fun fl r w1 w2 hb h c0 => (h c0).below hb) (phiS_cons (fun fl r w1 w2 hb h  => (h ).below hb) (phiS_nil)))))) (fun i_ hi_ hs_ => ?_) (fun i_ hi_ => ?_) ?_
    ·match i_, hi_ with
     | 0, _ =>
      intro val fl w1 a hb ha hd hfl;obtain ⟨hk, hk1, hf⟩ := hb;have ha := ha.s0 (d := 3) rfl
      exact ss_val ha rfl rfl (fa_28_2 rfl) rfl rfl
     | 1, _ =>
      intro val fl w1 a hb ha hd hfl;obtain ⟨hk, hk1, hf⟩ := hb;have e0 : val 0 = _ := hd 0 (memB_mem.1 rfl);have ha := ha.s1 (d := 62) rfl e0
      exact ss_val ha rfl rfl (ld_25 rfl ((hk.blk _ _ _ q3 rfl).at (j := 3) rfl)) rfl rfl
     | 2, _ =>
      intro val fl w1 a hb ha hd hfl;obtain ⟨hk, hk1, hf⟩ := hb;have ha := ha.s0 (d := 4) rfl
      exact ss_val ha rfl rfl (x_move rfl) rfl rfl
     | 3, _ =>
      intro val fl w1 a hb ha hd hfl;obtain ⟨hk, hk1, hf⟩ := hb;have ha := ha.s0 (d := 3) rfl
      exact ss_val ha rfl rfl (fa_28_3 rfl) rfl rfl
     | 4, _ =>
      intro val fl w1 a hb ha hd hfl;obtain ⟨hk, hk1, hf⟩ := hb;have e3 : val 3 = _ := hd 3 (memB_mem.1 rfl);have ha := ha.s1 (d := 65) rfl e3
      exact ss_val ha rfl rfl (ld_25 rfl ((hk.blk _ _ _ q3 rfl).at (j := 4) rfl)) rfl rfl
     | 5, _ =>
      intro val fl w1 a hb ha hd hfl;obtain ⟨hk, hk1, hf⟩ := hb;have ha := ha.s0 (d := 4) rfl
      exact ss_val ha rfl rfl (x_move rfl) rfl rfl
     | 6, _ =>
      intro val fl w1 a hb ha hd hfl;obtain ⟨hk, hk1, hf⟩ := hb;have ha := ha.s0 (d := 3) rfl
      exact ss_val ha rfl rfl (fa_28_2 rfl) rfl rfl
     | 7, _ =>
      intro val fl w1 a hb ha hd hfl;obtain ⟨hk, hk1, hf⟩ := hb;have e6 : val 6 = _ := hd 6 (memB_mem.1 rfl);have ha := ha.s1 (d := 68) rfl e6
      exact ss_val ha rfl rfl (ld_25 rfl ((hk.blk _ _ _ q3 rfl).at (j := 3) rfl)) rfl rfl
     | 8, _ =>
      intro val fl w1 a hb ha hd hfl;obtain ⟨hk, hk1, hf⟩ := hb;have ha := ha.s0 (d := 4) rfl
      exact ss_val ha rfl rfl (x_move rfl) rfl rfl
     | 9, _ =>
      intro val fl w1 a hb ha hd hfl;obtain ⟨hk, hk1, hf⟩ := hb;have e7 : val 7 = _ := hd 7 (memB_mem.1 rfl);have e8 : val 8 = _ := hd 8 (memB_mem.1 rfl);have ha := ha.s2 (d := 70) (e := 69) rfl e8 rfl e7
      exact ss_val ha rfl rfl (ix_25 rfl rfl (by omega)) rfl rfl
     | 10, _ =>
      intro val fl w1 a hb ha hd hfl;obtain ⟨hk, hk1, hf⟩ := hb;have e9 : val 9 = _ := hd 9 (memB_mem.1 rfl);have ha := ha.s1 (d := 71) rfl e9
      exact ss_val ha rfl rfl (ld_22 rfl (own_cell ((hk1 (hfl 36 (by simp) (memB_mem.1 rfl))).row ho1 rfl) (fX_at1 _ _ (Nat.lt_succ_self i)))) rfl rfl
     | 11, _ =>
      intro val fl w1 a hb ha hd hfl;obtain ⟨hk, hk1, hf⟩ := hb;have ha := ha.s0 (d := 4) rfl
      exact ss_val ha rfl rfl (x_move rfl) rfl rfl
     | 12, _ =>
      intro val fl w1 a hb ha hd hfl;obtain ⟨hk, hk1, hf⟩ := hb;have ha := ha.s0 (d := 5) rfl
      exact ss_val ha rfl rfl (x_move rfl) rfl rfl
     | 13, _ =>
      intro val fl w1 a hb ha hd hfl;obtain ⟨hk, hk1, hf⟩ := hb;have ha := ha.s0 (d := 1) rfl
      exact ss_val ha rfl rfl (fa_78_1 rfl) rfl rfl
     | 14, _ =>
      intro val fl w1 a hb ha hd hfl;obtain ⟨hk, hk1, hf⟩ := hb;have e13 : val 13 = _ := hd 13 (memB_mem.1 rfl);have e11 : val 11 = _ := hd 11 (memB_mem.1 rfl);have ha := ha.s2 (d := 73) (e := 75) rfl e11 rfl e13
      exact ss_val ha rfl rfl (ixa_73 rfl rfl hlt) rfl rfl
     | 15, _ =>
      intro val fl w1 a hb ha hd hfl;obtain ⟨hk, hk1, hf⟩ := hb;have e14 : val 14 = _ := hd 14 (memB_mem.1 rfl);have e12 : val 12 = _ := hd 12 (memB_mem.1 rfl);have ha := ha.s2 (d := 74) (e := 76) rfl e12 rfl e14
      exact ss_val ha rfl rfl (ixa_72 rfl rfl hlk) rfl rfl
     | 16, _ =>
      intro val fl w1 a hb ha hd hfl;obtain ⟨hk, hk1, hf⟩ := hb;have e15 : val 15 = _ := hd 15 (memB_mem.1 rfl);have ha := ha.s1 (d := 77) rfl e15
      exact ss_val ha rfl rfl (ld_5 rfl ((hk.blk _ _ _ q1 rfl).cellA (smC_at2 _ _ _ (j := 4 + 4 * i + k) (by omega) (by omega)))) rfl rfl
     | 17, _ =>
      intro val fl w1 a hb ha hd hfl;obtain ⟨hk, hk1, hf⟩ := hb;have e16 : val 16 = _ := hd 16 (memB_mem.1 rfl);have ha := ha.s1 (d := 78) rfl e16
      exact ss_val ha rfl rfl (cv_5_3 rfl (wrap_byte (hok.b _ (by omega)))) rfl rfl
     | 18, _ =>
      intro val fl w1 a hb ha hd hfl;obtain ⟨hk, hk1, hf⟩ := hb;have e17 : val 17 = _ := hd 17 (memB_mem.1 rfl);have ha := ha.s1 (d := 79) rfl e17
      exact ss_newS ha rfl rfl (bs_22_1 rfl) rfl (fun g w' hq _ hge => ⟨g, rfl, hq, Nat.le_trans hk.size hge⟩)
     | 19, _ =>
      exact absurd (by simp) hs_
     | 20, _ =>
      intro val fl w1 a hb ha hd hfl;obtain ⟨hk, hk1, hf⟩ := hb;have ha := ha.s0 (d := 3) rfl
      exact ss_val ha rfl rfl (fa_28_3 rfl) rfl rfl
     | 21, _ =>
      intro val fl w1 a hb ha hd hfl;obtain ⟨hk, hk1, hf⟩ := hb;have e20 : val 20 = _ := hd 20 (memB_mem.1 rfl);have ha := ha.s1 (d := 82) rfl e20
      exact ss_val ha rfl rfl (ld_25 rfl ((hk.blk _ _ _ q3 rfl).at (j := 4) rfl)) rfl rfl
     | 22, _ =>
      intro val fl w1 a hb ha hd hfl;obtain ⟨hk, hk1, hf⟩ := hb;have ha := ha.s0 (d := 4) rfl
      exact ss_val ha rfl rfl (x_move rfl) rfl rfl
     | 23, _ =>
      intro val fl w1 a hb ha hd hfl;obtain ⟨hk, hk1, hf⟩ := hb;have e21 : val 21 = _ := hd 21 (memB_mem.1 rfl);have e22 : val 22 = _ := hd 22 (memB_mem.1 rfl);have ha := ha.s2 (d := 84) (e := 83) rfl e22 rfl e21
      exact ss_val ha rfl rfl (ix_25 rfl rfl (by omega)) rfl rfl
     | 24, _ =>
      intro val fl w1 a hb ha hd hfl;obtain ⟨hk, hk1, hf⟩ := hb;have e23 : val 23 = _ := hd 23 (memB_mem.1 rfl);have ha := ha.s1 (d := 85) rfl e23
      exact ss_val ha rfl rfl (ld_22 rfl (own_cell ((hk1 (hfl 36 (by simp) (memB_mem.1 rfl))).row ho2 rfl) (fX_at2 _ _ (Nat.lt_succ_self i)))) rfl rfl
     | 25, _ =>
      intro val fl w1 a hb ha hd hfl;obtain ⟨hk, hk1, hf⟩ := hb;have ha := ha.s0 (d := 4) rfl
      exact ss_val ha rfl rfl (x_move rfl) rfl rfl
     | 26, _ =>
      intro val fl w1 a hb ha hd hfl;obtain ⟨hk, hk1, hf⟩ := hb;have ha := ha.s0 (d := 5) rfl
      exact ss_val ha rfl rfl (x_move rfl) rfl rfl
     | 27, _ =>
      intro val fl w1 a hb ha hd hfl;obtain ⟨hk, hk1, hf⟩ := hb;have ha := ha.s0 (d := 1) rfl
      exact ss_val ha rfl rfl (fa_78_2 rfl) rfl rfl
     | 28, _ =>
      intro val fl w1 a hb ha hd hfl;obtain ⟨hk, hk1, hf⟩ := hb;have e27 : val 27 = _ := hd 27 (memB_mem.1 rfl);have e25 : val 25 = _ := hd 25 (memB_mem.1 rfl);have ha := ha.s2 (d := 87) (e := 89) rfl e25 rfl e27
      exact ss_val ha rfl rfl (ixa_73 rfl rfl hlt) rfl rfl
     | 29, _ =>
      intro val fl w1 a hb ha hd hfl;obtain ⟨hk, hk1, hf⟩ := hb;have e28 : val 28 = _ := hd 28 (memB_mem.1 rfl);have e26 : val 26 = _ := hd 26 (memB_mem.1 rfl);have ha := ha.s2 (d := 88) (e := 90) rfl e26 rfl e28
      exact ss_val ha rfl rfl (ixa_72 rfl rfl hlk) rfl rfl
     | 30, _ =>
      intro val fl w1 a hb ha hd hfl;obtain ⟨hk, hk1, hf⟩ := hb;have e29 : val 29 = _ := hd 29 (memB_mem.1 rfl);have ha := ha.s1 (d := 91) rfl e29
      exact ss_val ha rfl rfl (ld_5 rfl ((hk.blk _ _ _ q1 rfl).cellA (smC_at2 _ _ _ (j := 20 + 4 * i + k) (by omega) (by omega)))) rfl rfl
     | 31, _ =>
      intro val fl w1 a hb ha hd hfl;obtain ⟨hk, hk1, hf⟩ := hb;have e30 : val 30 = _ := hd 30 (memB_mem.1 rfl);have ha := ha.s1 (d := 92) rfl e30
      exact ss_val ha rfl rfl (cv_5_3 rfl (wrap_byte (hok.b _ (by omega)))) rfl rfl
     | 32, _ =>
      intro val fl w1 a hb ha hd hfl;obtain ⟨hk, hk1, hf⟩ := hb;have e31 : val 31 = _ := hd 31 (memB_mem.1 rfl);have ha := ha.s1 (d := 93) rfl e31
      exact ss_val ha rfl rfl (x_rem rfl rfl (by decide) rfl) rfl rfl
     | 33, _ =>
      intro val fl w1 a hb ha hd hfl;obtain ⟨hk, hk1, hf⟩ := hb;have e32 : val 32 = _ := hd 32 (memB_mem.1 rfl);have ha := ha.s1 (d := 94) rfl e32
      exact ss_newS ha rfl rfl (bs_22_1 rfl) rfl (fun g w' hq _ hge => ⟨g, rfl, hq, Nat.le_trans hk.size hge⟩)
     | 34, _ =>
      exact absurd (by simp) hs_
     | 35, _ =>
      intro val fl w1 a hb ha hd hfl;obtain ⟨hk, hk1, hf⟩ := hb;have e1 : val 1 = _ := hd 1 (memB_mem.1 rfl);have e2 : val 2 = _ := hd 2 (memB_mem.1 rfl);have ha := ha.s2 (d := 64) (e := 63) rfl e2 rfl e1
      exact ss_val ha rfl rfl (ix_25 rfl rfl (by omega)) rfl rfl
     | 36, _ =>
      exact absurd (by simp) hs_
     | k + 37, h => exact absurd h (by omega)
    ·simp only [List.mem_cons, List.not_mem_nil, or_false] at hi_
     rcases hi_ with rfl | rfl | rfl
     ·intro val fl w1 a hb hfi ha hd hfl
      obtain ⟨hk, hk1, hf⟩ := hb;have hn34 : fl 34 = false := hfl 34 (by simp) (memB_mem.1 rfl)
      have hn36 : fl 36 = false := hfl 36 (by simp) (memB_mem.1 rfl)
      have hFp := hf ⟨hfi, hn34, hn36⟩;have e10 : val 10 = _ := hd 10 (memB_mem.1 rfl);obtain ⟨g18_, e18, q18_, h18_⟩ := hd 18 (memB_mem.1 rfl);change val 18 = _ at e18;have ha := ha.s2 (d := 80) (e := 72) rfl e18 rfl e10;have hown := hFp.own (3 + 2 * i) (by omega)
      rw [show ft (3 + 2 * i) = 3 from ft_row (by omega)] at hown
      refine ts_push ir_elem ha rfl rfl rfl hown (rd_one (l := [.int .i64 (x.b (4 + 4 * i + k))]) q18_ rfl) (by intro u hu; simp only [List.mem_cons, List.not_mem_nil, or_false] at hu; subst hu; rfl) (by rw [fX_lenA]; omega) rfl (Nat.le_trans hbw.size hk.size) ?_
      intro v' w' ho' hgr hat;have hFn := Fam.turn (y := (fX x.b v2 (i + 1) i k) (3 + 2 * i) ++ [.int .i64 (x.b (4 + 4 * i + k))]) hFp (show (3 + 2 * i) < 11 by omega) (by rw [List.length_append, show ft (3 + 2 * i) = 3 from ft_row (by omega)]; exact ho') (by exact hgr) (by exact hat)
      refine ⟨v', rfl, hgr.size, ⟨hk.trans (Kp.own (S := [3, 22]) hown rfl (Nat.le_refl _) (Nat.le_trans hbw.size hk.size) hgr), (fun (h : fset fl 19 36 = false) => (hk1 (by rw [fset_ne rfl] at h; exact h)).trans (Kp.own (S := [3]) hown rfl (Nat.le_refl _) (Nat.le_trans hbw.size hk.size) hgr)), fun hc => absurd hc.1 (by rw [fset_eq]; decide)⟩, (fun _ _ => hFn), fun j _ hj hn hA => ?_⟩
      exact phiS_cons_st (C := fun j => j ≠ 19 ∧ 19 ∉ clsAt [[], [0], [], [], [3], [], [], [6], [], [6, 7, 8], [6, 7, 8, 9], [], [], [], [11, 13], [11, 12, 13, 14], [11, 12, 13, 14, 15], [11, 12, 13, 14, 15, 16], [11, 12, 13, 14, 15, 16, 17], [6, 7, 8, 9, 10, 11, 12, 13, 14, 15, 16, 17, 18], [], [20], [], [20, 21, 22], [20, 21, 22, 23], [], [], [], [25, 27], [25, 26, 27, 28], [25, 26, 27, 28, 29], [25, 26, 27, 28, 29, 30], [25, 26, 27, 28, 29, 30, 31], [25, 26, 27, 28, 29, 30, 31, 32], [6, 7, 8, 9, 10, 11, 12, 13, 14, 15, 16, 17, 18, 19, 20, 21, 22, 23, 24, 25, 26, 27, 28, 29, 30, 31, 32, 33], [0, 1, 2, 6, 7, 8, 9, 10, 11, 12, 13, 14, 15, 16, 17, 18, 19, 20, 21, 22, 23, 24, 25, 26, 27, 28, 29, 30, 31, 32, 33, 34], [0, 1, 2, 6, 7, 8, 9, 10, 11, 12, 13, 14, 15, 16, 17, 18, 19, 20, 21, 22, 23, 24, 25, 26, 27, 28, 29, 30, 31, 32, 33, 34, 35], [0, 1, 2, 3, 4, 5, 6, 7, 8, 9, 10, 11, 12, 13, 14, 15, 16, 17, 18, 19, 20, 21, 22, 23, 24, 25, 26, 27, 28, 29, 30, 31, 32, 33, 34, 35, 36], [0, 1, 2, 3, 4, 5, 6, 7, 8, 9, 10, 11, 12, 13, 14, 15, 16, 17, 18, 19, 20, 21, 22, 23, 24, 25, 26, 27, 28, 29, 30, 31, 32, 33, 34, 35, 36, 37]] j) (fun _ ⟨g, h1, h2, h3⟩ => ⟨g, h1, h2.grown hgr (fun h => by have := ((hF.own (3 + 2 * i) (by omega)).lt _ h.symm).2; omega), h3⟩) (phiS_cons_st (C := fun j => j ≠ 19 ∧ 19 ∉ clsAt [[], [0], [], [], [3], [], [], [6], [], [6, 7, 8], [6, 7, 8, 9], [], [], [], [11, 13], [11, 12, 13, 14], [11, 12, 13, 14, 15], [11, 12, 13, 14, 15, 16], [11, 12, 13, 14, 15, 16, 17], [6, 7, 8, 9, 10, 11, 12, 13, 14, 15, 16, 17, 18], [], [20], [], [20, 21, 22], [20, 21, 22, 23], [], [], [], [25, 27], [25, 26, 27, 28], [25, 26, 27, 28, 29], [25, 26, 27, 28, 29, 30], [25, 26, 27, 28, 29, 30, 31], [25, 26, 27, 28, 29, 30, 31, 32], [6, 7, 8, 9, 10, 11, 12, 13, 14, 15, 16, 17, 18, 19, 20, 21, 22, 23, 24, 25, 26, 27, 28, 29, 30, 31, 32, 33], [0, 1, 2, 6, 7, 8, 9, 10, 11, 12, 13, 14, 15, 16, 17, 18, 19, 20, 21, 22, 23, 24, 25, 26, 27, 28, 29, 30, 31, 32, 33, 34], [0, 1, 2, 6, 7, 8, 9, 10, 11, 12, 13, 14, 15, 16, 17, 18, 19, 20, 21, 22, 23, 24, 25, 26, 27, 28, 29, 30, 31, 32, 33, 34, 35], [0, 1, 2, 3, 4, 5, 6, 7, 8, 9, 10, 11, 12, 13, 14, 15, 16, 17, 18, 19, 20, 21, 22, 23, 24, 25, 26, 27, 28, 29, 30, 31, 32, 33, 34, 35, 36], [0, 1, 2, 3, 4, 5, 6, 7, 8, 9, 10, 11, 12, 13, 14, 15, 16, 17, 18, 19, 20, 21, 22, 23, 24, 25, 26, 27, 28, 29, 30, 31, 32, 33, 34, 35, 36, 37]] j) (fun hc => absurd rfl hc.1) (phiS_cons_st (C := fun j => j ≠ 19 ∧ 19 ∉ clsAt [[], [0], [], [], [3], [], [], [6], [], [6, 7, 8], [6, 7, 8, 9], [], [], [], [11, 13], [11, 12, 13, 14], [11, 12, 13, 14, 15], [11, 12, 13, 14, 15, 16], [11, 12, 13, 14, 15, 16, 17], [6, 7, 8, 9, 10, 11, 12, 13, 14, 15, 16, 17, 18], [], [20], [], [20, 21, 22], [20, 21, 22, 23], [], [], [], [25, 27], [25, 26, 27, 28], [25, 26, 27, 28, 29], [25, 26, 27, 28, 29, 30], [25, 26, 27, 28, 29, 30, 31], [25, 26, 27, 28, 29, 30, 31, 32], [6, 7, 8, 9, 10, 11, 12, 13, 14, 15, 16, 17, 18, 19, 20, 21, 22, 23, 24, 25, 26, 27, 28, 29, 30, 31, 32, 33], [0, 1, 2, 6, 7, 8, 9, 10, 11, 12, 13, 14, 15, 16, 17, 18, 19, 20, 21, 22, 23, 24, 25, 26, 27, 28, 29, 30, 31, 32, 33, 34], [0, 1, 2, 6, 7, 8, 9, 10, 11, 12, 13, 14, 15, 16, 17, 18, 19, 20, 21, 22, 23, 24, 25, 26, 27, 28, 29, 30, 31, 32, 33, 34, 35], [0, 1, 2, 3, 4, 5, 6, 7, 8, 9, 10, 11, 12, 13, 14, 15, 16, 17, 18, 19, 20, 21, 22, 23, 24, 25, 26, 27, 28, 29, 30, 31, 32, 33, 34, 35, 36], [0, 1, 2, 3, 4, 5, 6, 7, 8, 9, 10, 11, 12, 13, 14, 15, 16, 17, 18, 19, 20, 21, 22, 23, 24, 25, 26, 27, 28, 29, 30, 31, 32, 33, 34, 35, 36, 37]] j) (fun _ ⟨g, h1, h2, h3⟩ => ⟨g, h1, h2.grown hgr (fun h => by have := ((hF.own (3 + 2 * i) (by omega)).lt _ h.symm).2; omega), h3⟩) (phiS_cons_st (C := fun j => j ≠ 19 ∧ 19 ∉ clsAt [[], [0], [], [], [3], [], [], [6], [], [6, 7, 8], [6, 7, 8, 9], [], [], [], [11, 13], [11, 12, 13, 14], [11, 12, 13, 14, 15], [11, 12, 13, 14, 15, 16], [11, 12, 13, 14, 15, 16, 17], [6, 7, 8, 9, 10, 11, 12, 13, 14, 15, 16, 17, 18], [], [20], [], [20, 21, 22], [20, 21, 22, 23], [], [], [], [25, 27], [25, 26, 27, 28], [25, 26, 27, 28, 29], [25, 26, 27, 28, 29, 30], [25, 26, 27, 28, 29, 30, 31], [25, 26, 27, 28, 29, 30, 31, 32], [6, 7, 8, 9, 10, 11, 12, 13, 14, 15, 16, 17, 18, 19, 20, 21, 22, 23, 24, 25, 26, 27, 28, 29, 30, 31, 32, 33], [0, 1, 2, 6, 7, 8, 9, 10, 11, 12, 13, 14, 15, 16, 17, 18, 19, 20, 21, 22, 23, 24, 25, 26, 27, 28, 29, 30, 31, 32, 33, 34], [0, 1, 2, 6, 7, 8, 9, 10, 11, 12, 13, 14, 15, 16, 17, 18, 19, 20, 21, 22, 23, 24, 25, 26, 27, 28, 29, 30, 31, 32, 33, 34, 35], [0, 1, 2, 3, 4, 5, 6, 7, 8, 9, 10, 11, 12, 13, 14, 15, 16, 17, 18, 19, 20, 21, 22, 23, 24, 25, 26, 27, 28, 29, 30, 31, 32, 33, 34, 35, 36], [0, 1, 2, 3, 4, 5, 6, 7, 8, 9, 10, 11, 12, 13, 14, 15, 16, 17, 18, 19, 20, 21, 22, 23, 24, 25, 26, 27, 28, 29, 30, 31, 32, 33, 34, 35, 36, 37]] j) (fun hc => absurd (memB_mem.1 rfl) hc.2) (phiS_cons_st (C := fun j => j ≠ 19 ∧ 19 ∉ clsAt [[], [0], [], [], [3], [], [], [6], [], [6, 7, 8], [6, 7, 8, 9], [], [], [], [11, 13], [11, 12, 13, 14], [11, 12, 13, 14, 15], [11, 12, 13, 14, 15, 16], [11, 12, 13, 14, 15, 16, 17], [6, 7, 8, 9, 10, 11, 12, 13, 14, 15, 16, 17, 18], [], [20], [], [20, 21, 22], [20, 21, 22, 23], [], [], [], [25, 27], [25, 26, 27, 28], [25, 26, 27, 28, 29], [25, 26, 27, 28, 29, 30], [25, 26, 27, 28, 29, 30, 31], [25, 26, 27, 28, 29, 30, 31, 32], [6, 7, 8, 9, 10, 11, 12, 13, 14, 15, 16, 17, 18, 19, 20, 21, 22, 23, 24, 25, 26, 27, 28, 29, 30, 31, 32, 33], [0, 1, 2, 6, 7, 8, 9, 10, 11, 12, 13, 14, 15, 16, 17, 18, 19, 20, 21, 22, 23, 24, 25, 26, 27, 28, 29, 30, 31, 32, 33, 34], [0, 1, 2, 6, 7, 8, 9, 10, 11, 12, 13, 14, 15, 16, 17, 18, 19, 20, 21, 22, 23, 24, 25, 26, 27, 28, 29, 30, 31, 32, 33, 34, 35], [0, 1, 2, 3, 4, 5, 6, 7, 8, 9, 10, 11, 12, 13, 14, 15, 16, 17, 18, 19, 20, 21, 22, 23, 24, 25, 26, 27, 28, 29, 30, 31, 32, 33, 34, 35, 36], [0, 1, 2, 3, 4, 5, 6, 7, 8, 9, 10, 11, 12, 13, 14, 15, 16, 17, 18, 19, 20, 21, 22, 23, 24, 25, 26, 27, 28, 29, 30, 31, 32, 33, 34, 35, 36, 37]] j) (fun hc => absurd (memB_mem.1 rfl) hc.2) (fun _ _ h => h))))) j ⟨hj, hn⟩
     ·intro val fl w1 a hb hfi ha hd hfl
      obtain ⟨hk, hk1, hf⟩ := hb;have hn36 : fl 36 = false := hfl 36 (by simp) (memB_mem.1 rfl)
      have hFp : Fam w1 w.heap.size 11 ft (fu (v2) (3 + 2 * i) (val 19)) (fu ((fX x.b v2 (i + 1) i k)) (3 + 2 * i) ((fX x.b v2 (i + 1) i k) (3 + 2 * i) ++ [.int .i64 (x.b (4 + 4 * i + k))])) := hd 19 (memB_mem.1 rfl) hfi hn36;have e24 : val 24 = _ := hd 24 (memB_mem.1 rfl);obtain ⟨g33_, e33, q33_, h33_⟩ := hd 33 (memB_mem.1 rfl);change val 33 = _ at e33;have ha := ha.s2 (d := 95) (e := 86) rfl e33 rfl e24;have hown := hFp.own (4 + 2 * i) (by omega)
      rw [fu_ne (by omega), fu_ne (by omega)] at hown
      rw [show ft (4 + 2 * i) = 3 from ft_row (by omega)] at hown
      refine ts_push ir_elem ha rfl rfl rfl hown (rd_one (l := [.int .i64 ((x.b (20 + 4 * i + k)).tmod 3)]) q33_ rfl) (by intro u hu; simp only [List.mem_cons, List.not_mem_nil, or_false] at hu; subst hu; rfl) (by rw [fX_lenP]; omega) rfl (Nat.le_trans hbw.size hk.size) ?_
      intro v' w' ho' hgr hat;have hFn := Fam.turn (y := (fX x.b v2 (i + 1) i k) (4 + 2 * i) ++ [.int .i64 ((x.b (20 + 4 * i + k)).tmod 3)]) hFp (show (4 + 2 * i) < 11 by omega) (by rw [List.length_append, show ft (4 + 2 * i) = 3 from ft_row (by omega)]; exact ho') (by rw [fu_ne (by omega)]; exact hgr) (by rw [fu_ne (by omega)]; exact hat)
      refine ⟨v', rfl, hgr.size, ⟨hk.trans (Kp.own (S := [3, 22]) hown rfl (Nat.le_refl _) (Nat.le_trans hbw.size hk.size) hgr), (fun (h : fset fl 34 36 = false) => (hk1 (by rw [fset_ne rfl] at h; exact h)).trans (Kp.own (S := [3]) hown rfl (Nat.le_refl _) (Nat.le_trans hbw.size hk.size) hgr)), fun hc => absurd hc.2.1 (by rw [fset_eq]; decide)⟩, (fun _ => hFn), fun j _ hj hn hA => ?_⟩
      exact phiS_cons_st (C := fun j => j ≠ 34 ∧ 34 ∉ clsAt [[], [0], [], [], [3], [], [], [6], [], [6, 7, 8], [6, 7, 8, 9], [], [], [], [11, 13], [11, 12, 13, 14], [11, 12, 13, 14, 15], [11, 12, 13, 14, 15, 16], [11, 12, 13, 14, 15, 16, 17], [6, 7, 8, 9, 10, 11, 12, 13, 14, 15, 16, 17, 18], [], [20], [], [20, 21, 22], [20, 21, 22, 23], [], [], [], [25, 27], [25, 26, 27, 28], [25, 26, 27, 28, 29], [25, 26, 27, 28, 29, 30], [25, 26, 27, 28, 29, 30, 31], [25, 26, 27, 28, 29, 30, 31, 32], [6, 7, 8, 9, 10, 11, 12, 13, 14, 15, 16, 17, 18, 19, 20, 21, 22, 23, 24, 25, 26, 27, 28, 29, 30, 31, 32, 33], [0, 1, 2, 6, 7, 8, 9, 10, 11, 12, 13, 14, 15, 16, 17, 18, 19, 20, 21, 22, 23, 24, 25, 26, 27, 28, 29, 30, 31, 32, 33, 34], [0, 1, 2, 6, 7, 8, 9, 10, 11, 12, 13, 14, 15, 16, 17, 18, 19, 20, 21, 22, 23, 24, 25, 26, 27, 28, 29, 30, 31, 32, 33, 34, 35], [0, 1, 2, 3, 4, 5, 6, 7, 8, 9, 10, 11, 12, 13, 14, 15, 16, 17, 18, 19, 20, 21, 22, 23, 24, 25, 26, 27, 28, 29, 30, 31, 32, 33, 34, 35, 36], [0, 1, 2, 3, 4, 5, 6, 7, 8, 9, 10, 11, 12, 13, 14, 15, 16, 17, 18, 19, 20, 21, 22, 23, 24, 25, 26, 27, 28, 29, 30, 31, 32, 33, 34, 35, 36, 37]] j) (fun _ ⟨g, h1, h2, h3⟩ => ⟨g, h1, h2.grown hgr (fun h => by have := ((hF.own (4 + 2 * i) (by omega)).lt _ h.symm).2; omega), h3⟩) (phiS_cons_st (C := fun j => j ≠ 34 ∧ 34 ∉ clsAt [[], [0], [], [], [3], [], [], [6], [], [6, 7, 8], [6, 7, 8, 9], [], [], [], [11, 13], [11, 12, 13, 14], [11, 12, 13, 14, 15], [11, 12, 13, 14, 15, 16], [11, 12, 13, 14, 15, 16, 17], [6, 7, 8, 9, 10, 11, 12, 13, 14, 15, 16, 17, 18], [], [20], [], [20, 21, 22], [20, 21, 22, 23], [], [], [], [25, 27], [25, 26, 27, 28], [25, 26, 27, 28, 29], [25, 26, 27, 28, 29, 30], [25, 26, 27, 28, 29, 30, 31], [25, 26, 27, 28, 29, 30, 31, 32], [6, 7, 8, 9, 10, 11, 12, 13, 14, 15, 16, 17, 18, 19, 20, 21, 22, 23, 24, 25, 26, 27, 28, 29, 30, 31, 32, 33], [0, 1, 2, 6, 7, 8, 9, 10, 11, 12, 13, 14, 15, 16, 17, 18, 19, 20, 21, 22, 23, 24, 25, 26, 27, 28, 29, 30, 31, 32, 33, 34], [0, 1, 2, 6, 7, 8, 9, 10, 11, 12, 13, 14, 15, 16, 17, 18, 19, 20, 21, 22, 23, 24, 25, 26, 27, 28, 29, 30, 31, 32, 33, 34, 35], [0, 1, 2, 3, 4, 5, 6, 7, 8, 9, 10, 11, 12, 13, 14, 15, 16, 17, 18, 19, 20, 21, 22, 23, 24, 25, 26, 27, 28, 29, 30, 31, 32, 33, 34, 35, 36], [0, 1, 2, 3, 4, 5, 6, 7, 8, 9, 10, 11, 12, 13, 14, 15, 16, 17, 18, 19, 20, 21, 22, 23, 24, 25, 26, 27, 28, 29, 30, 31, 32, 33, 34, 35, 36, 37]] j) (fun _ h c0 c1 => absurd c0 (by rw [fset_eq]; decide)) (phiS_cons_st (C := fun j => j ≠ 34 ∧ 34 ∉ clsAt [[], [0], [], [], [3], [], [], [6], [], [6, 7, 8], [6, 7, 8, 9], [], [], [], [11, 13], [11, 12, 13, 14], [11, 12, 13, 14, 15], [11, 12, 13, 14, 15, 16], [11, 12, 13, 14, 15, 16, 17], [6, 7, 8, 9, 10, 11, 12, 13, 14, 15, 16, 17, 18], [], [20], [], [20, 21, 22], [20, 21, 22, 23], [], [], [], [25, 27], [25, 26, 27, 28], [25, 26, 27, 28, 29], [25, 26, 27, 28, 29, 30], [25, 26, 27, 28, 29, 30, 31], [25, 26, 27, 28, 29, 30, 31, 32], [6, 7, 8, 9, 10, 11, 12, 13, 14, 15, 16, 17, 18, 19, 20, 21, 22, 23, 24, 25, 26, 27, 28, 29, 30, 31, 32, 33], [0, 1, 2, 6, 7, 8, 9, 10, 11, 12, 13, 14, 15, 16, 17, 18, 19, 20, 21, 22, 23, 24, 25, 26, 27, 28, 29, 30, 31, 32, 33, 34], [0, 1, 2, 6, 7, 8, 9, 10, 11, 12, 13, 14, 15, 16, 17, 18, 19, 20, 21, 22, 23, 24, 25, 26, 27, 28, 29, 30, 31, 32, 33, 34, 35], [0, 1, 2, 3, 4, 5, 6, 7, 8, 9, 10, 11, 12, 13, 14, 15, 16, 17, 18, 19, 20, 21, 22, 23, 24, 25, 26, 27, 28, 29, 30, 31, 32, 33, 34, 35, 36], [0, 1, 2, 3, 4, 5, 6, 7, 8, 9, 10, 11, 12, 13, 14, 15, 16, 17, 18, 19, 20, 21, 22, 23, 24, 25, 26, 27, 28, 29, 30, 31, 32, 33, 34, 35, 36, 37]] j) (fun _ ⟨g, h1, h2, h3⟩ => ⟨g, h1, h2.grown hgr (fun h => by have := ((hF.own (4 + 2 * i) (by omega)).lt _ h.symm).2; omega), h3⟩) (phiS_cons_st (C := fun j => j ≠ 34 ∧ 34 ∉ clsAt [[], [0], [], [], [3], [], [], [6], [], [6, 7, 8], [6, 7, 8, 9], [], [], [], [11, 13], [11, 12, 13, 14], [11, 12, 13, 14, 15], [11, 12, 13, 14, 15, 16], [11, 12, 13, 14, 15, 16, 17], [6, 7, 8, 9, 10, 11, 12, 13, 14, 15, 16, 17, 18], [], [20], [], [20, 21, 22], [20, 21, 22, 23], [], [], [], [25, 27], [25, 26, 27, 28], [25, 26, 27, 28, 29], [25, 26, 27, 28, 29, 30], [25, 26, 27, 28, 29, 30, 31], [25, 26, 27, 28, 29, 30, 31, 32], [6, 7, 8, 9, 10, 11, 12, 13, 14, 15, 16, 17, 18, 19, 20, 21, 22, 23, 24, 25, 26, 27, 28, 29, 30, 31, 32, 33], [0, 1, 2, 6, 7, 8, 9, 10, 11, 12, 13, 14, 15, 16, 17, 18, 19, 20, 21, 22, 23, 24, 25, 26, 27, 28, 29, 30, 31, 32, 33, 34], [0, 1, 2, 6, 7, 8, 9, 10, 11, 12, 13, 14, 15, 16, 17, 18, 19, 20, 21, 22, 23, 24, 25, 26, 27, 28, 29, 30, 31, 32, 33, 34, 35], [0, 1, 2, 3, 4, 5, 6, 7, 8, 9, 10, 11, 12, 13, 14, 15, 16, 17, 18, 19, 20, 21, 22, 23, 24, 25, 26, 27, 28, 29, 30, 31, 32, 33, 34, 35, 36], [0, 1, 2, 3, 4, 5, 6, 7, 8, 9, 10, 11, 12, 13, 14, 15, 16, 17, 18, 19, 20, 21, 22, 23, 24, 25, 26, 27, 28, 29, 30, 31, 32, 33, 34, 35, 36, 37]] j) (fun hc => absurd rfl hc.1) (phiS_cons_st (C := fun j => j ≠ 34 ∧ 34 ∉ clsAt [[], [0], [], [], [3], [], [], [6], [], [6, 7, 8], [6, 7, 8, 9], [], [], [], [11, 13], [11, 12, 13, 14], [11, 12, 13, 14, 15], [11, 12, 13, 14, 15, 16], [11, 12, 13, 14, 15, 16, 17], [6, 7, 8, 9, 10, 11, 12, 13, 14, 15, 16, 17, 18], [], [20], [], [20, 21, 22], [20, 21, 22, 23], [], [], [], [25, 27], [25, 26, 27, 28], [25, 26, 27, 28, 29], [25, 26, 27, 28, 29, 30], [25, 26, 27, 28, 29, 30, 31], [25, 26, 27, 28, 29, 30, 31, 32], [6, 7, 8, 9, 10, 11, 12, 13, 14, 15, 16, 17, 18, 19, 20, 21, 22, 23, 24, 25, 26, 27, 28, 29, 30, 31, 32, 33], [0, 1, 2, 6, 7, 8, 9, 10, 11, 12, 13, 14, 15, 16, 17, 18, 19, 20, 21, 22, 23, 24, 25, 26, 27, 28, 29, 30, 31, 32, 33, 34], [0, 1, 2, 6, 7, 8, 9, 10, 11, 12, 13, 14, 15, 16, 17, 18, 19, 20, 21, 22, 23, 24, 25, 26, 27, 28, 29, 30, 31, 32, 33, 34, 35], [0, 1, 2, 3, 4, 5, 6, 7, 8, 9, 10, 11, 12, 13, 14, 15, 16, 17, 18, 19, 20, 21, 22, 23, 24, 25, 26, 27, 28, 29, 30, 31, 32, 33, 34, 35, 36], [0, 1, 2, 3, 4, 5, 6, 7, 8, 9, 10, 11, 12, 13, 14, 15, 16, 17, 18, 19, 20, 21, 22, 23, 24, 25, 26, 27, 28, 29, 30, 31, 32, 33, 34, 35, 36, 37]] j) (fun hc => absurd (memB_mem.1 rfl) hc.2) (fun _ _ h => h))))) j ⟨hj, hn⟩
     ·intro val fl w1 a hb hfi ha hd hfl
      obtain ⟨hk, hk1, hf⟩ := hb;have hFp : Fam w1 w.heap.size 11 ft (fu (fu (v2) (3 + 2 * i) (val 19)) (4 + 2 * i) (val 34)) (fu (fu ((fX x.b v2 (i + 1) i k)) (3 + 2 * i) ((fX x.b v2 (i + 1) i k) (3 + 2 * i) ++ [.int .i64 (x.b (4 + 4 * i + k))])) (4 + 2 * i) ((fX x.b v2 (i + 1) i k) (4 + 2 * i) ++ [.int .i64 ((x.b (20 + 4 * i + k)).tmod 3)])) := hd 34 (memB_mem.1 rfl) hfi;have e35 : val 35 = _ := hd 35 (memB_mem.1 rfl);have e19 : val 19 = val 19 := rfl;have ha := ha.s2 (d := 81) (e := 97) rfl e19 rfl e35;have hown := hFp.own 1 (by omega)
      rw [fu_ne (by omega), fu_ne (by omega), fu_ne (by omega), fu_ne (by omega)] at hown
      rw [show ft 1 = 22 from rfl] at hown;obtain ⟨As_, cs_, hsv⟩ : ∃ A_ c_, val 19 = .slice A_ ((fX x.b v2 (i + 1) i k) (3 + 2 * i) ++ [(.int .i64 (x.b (4 + 4 * i + k)) : Value)]).length c_ := own_sl (by have h := hFp.own (3 + 2 * i) (by omega); rw [fu_ne (by omega), fu_eq, fu_ne (by omega), fu_eq] at h; exact h)
      rw [hva, fX_len1] at hown;refine ts_storeRow (l' := [val 19]) ha rfl rfl rfl hown sz_22 (by rw [hsv]; rfl) rfl (by rw [fX_len1]; omega) (by rw [hsv]; rfl) ?_
      intro w' ho' hgr;rw [spl_one _ _ _ (by rw [fX_len1]; omega), Nat.zero_add] at ho'
      have hFn := Fam.turn (y := ((fX x.b v2 (i + 1) i k) 1).set i (val 19)) hFp (show 1 < 11 by omega) (by rw [List.length_set, fX_len1, show ft 1 = 22 from rfl]; exact ho') (by rw [fu_ne (by omega), fu_ne (by omega)]; rw [hva]; exact hgr) (.inl (by rw [fu_ne (by omega), fu_ne (by omega)]; rw [hva]))
      refine ⟨undef, rfl, hgr.size, ⟨hk.trans (Kp.own (S := [3, 22]) hown rfl (Nat.le_refl _) (Nat.le_trans hbw.size hk.size) hgr), (fun (h : fset fl 36 36 = false) => absurd h (by rw [fset_eq]; decide)), fun hc => absurd hc.2.2 (by rw [fset_eq]; decide)⟩, hFn, fun j _ hj hn hA => ?_⟩
      exact phiS_cons_st (C := fun j => j ≠ 36 ∧ 36 ∉ clsAt [[], [0], [], [], [3], [], [], [6], [], [6, 7, 8], [6, 7, 8, 9], [], [], [], [11, 13], [11, 12, 13, 14], [11, 12, 13, 14, 15], [11, 12, 13, 14, 15, 16], [11, 12, 13, 14, 15, 16, 17], [6, 7, 8, 9, 10, 11, 12, 13, 14, 15, 16, 17, 18], [], [20], [], [20, 21, 22], [20, 21, 22, 23], [], [], [], [25, 27], [25, 26, 27, 28], [25, 26, 27, 28, 29], [25, 26, 27, 28, 29, 30], [25, 26, 27, 28, 29, 30, 31], [25, 26, 27, 28, 29, 30, 31, 32], [6, 7, 8, 9, 10, 11, 12, 13, 14, 15, 16, 17, 18, 19, 20, 21, 22, 23, 24, 25, 26, 27, 28, 29, 30, 31, 32, 33], [0, 1, 2, 6, 7, 8, 9, 10, 11, 12, 13, 14, 15, 16, 17, 18, 19, 20, 21, 22, 23, 24, 25, 26, 27, 28, 29, 30, 31, 32, 33, 34], [0, 1, 2, 6, 7, 8, 9, 10, 11, 12, 13, 14, 15, 16, 17, 18, 19, 20, 21, 22, 23, 24, 25, 26, 27, 28, 29, 30, 31, 32, 33, 34, 35], [0, 1, 2, 3, 4, 5, 6, 7, 8, 9, 10, 11, 12, 13, 14, 15, 16, 17, 18, 19, 20, 21, 22, 23, 24, 25, 26, 27, 28, 29, 30, 31, 32, 33, 34, 35, 36], [0, 1, 2, 3, 4, 5, 6, 7, 8, 9, 10, 11, 12, 13, 14, 15, 16, 17, 18, 19, 20, 21, 22, 23, 24, 25, 26, 27, 28, 29, 30, 31, 32, 33, 34, 35, 36, 37]] j) (fun _ ⟨g, h1, h2, h3⟩ => ⟨g, h1, h2.grown hgr (fun h => by have := ((hF.own 1 (by omega)).lt _ (by rw [hva]; exact h.symm)).2; omega), h3⟩) (phiS_cons_st (C := fun j => j ≠ 36 ∧ 36 ∉ clsAt [[], [0], [], [], [3], [], [], [6], [], [6, 7, 8], [6, 7, 8, 9], [], [], [], [11, 13], [11, 12, 13, 14], [11, 12, 13, 14, 15], [11, 12, 13, 14, 15, 16], [11, 12, 13, 14, 15, 16, 17], [6, 7, 8, 9, 10, 11, 12, 13, 14, 15, 16, 17, 18], [], [20], [], [20, 21, 22], [20, 21, 22, 23], [], [], [], [25, 27], [25, 26, 27, 28], [25, 26, 27, 28, 29], [25, 26, 27, 28, 29, 30], [25, 26, 27, 28, 29, 30, 31], [25, 26, 27, 28, 29, 30, 31, 32], [6, 7, 8, 9, 10, 11, 12, 13, 14, 15, 16, 17, 18, 19, 20, 21, 22, 23, 24, 25, 26, 27, 28, 29, 30, 31, 32, 33], [0, 1, 2, 6, 7, 8, 9, 10, 11, 12, 13, 14, 15, 16, 17, 18, 19, 20, 21, 22, 23, 24, 25, 26, 27, 28, 29, 30, 31, 32, 33, 34], [0, 1, 2, 6, 7, 8, 9, 10, 11, 12, 13, 14, 15, 16, 17, 18, 19, 20, 21, 22, 23, 24, 25, 26, 27, 28, 29, 30, 31, 32, 33, 34, 35], [0, 1, 2, 3, 4, 5, 6, 7, 8, 9, 10, 11, 12, 13, 14, 15, 16, 17, 18, 19, 20, 21, 22, 23, 24, 25, 26, 27, 28, 29, 30, 31, 32, 33, 34, 35, 36], [0, 1, 2, 3, 4, 5, 6, 7, 8, 9, 10, 11, 12, 13, 14, 15, 16, 17, 18, 19, 20, 21, 22, 23, 24, 25, 26, 27, 28, 29, 30, 31, 32, 33, 34, 35, 36, 37]] j) (fun _ h c0 c1 => absurd c1 (by rw [fset_eq]; decide)) (phiS_cons_st (C := fun j => j ≠ 36 ∧ 36 ∉ clsAt [[], [0], [], [], [3], [], [], [6], [], [6, 7, 8], [6, 7, 8, 9], [], [], [], [11, 13], [11, 12, 13, 14], [11, 12, 13, 14, 15], [11, 12, 13, 14, 15, 16], [11, 12, 13, 14, 15, 16, 17], [6, 7, 8, 9, 10, 11, 12, 13, 14, 15, 16, 17, 18], [], [20], [], [20, 21, 22], [20, 21, 22, 23], [], [], [], [25, 27], [25, 26, 27, 28], [25, 26, 27, 28, 29], [25, 26, 27, 28, 29, 30], [25, 26, 27, 28, 29, 30, 31], [25, 26, 27, 28, 29, 30, 31, 32], [6, 7, 8, 9, 10, 11, 12, 13, 14, 15, 16, 17, 18, 19, 20, 21, 22, 23, 24, 25, 26, 27, 28, 29, 30, 31, 32, 33], [0, 1, 2, 6, 7, 8, 9, 10, 11, 12, 13, 14, 15, 16, 17, 18, 19, 20, 21, 22, 23, 24, 25, 26, 27, 28, 29, 30, 31, 32, 33, 34], [0, 1, 2, 6, 7, 8, 9, 10, 11, 12, 13, 14, 15, 16, 17, 18, 19, 20, 21, 22, 23, 24, 25, 26, 27, 28, 29, 30, 31, 32, 33, 34, 35], [0, 1, 2, 3, 4, 5, 6, 7, 8, 9, 10, 11, 12, 13, 14, 15, 16, 17, 18, 19, 20, 21, 22, 23, 24, 25, 26, 27, 28, 29, 30, 31, 32, 33, 34, 35, 36], [0, 1, 2, 3, 4, 5, 6, 7, 8, 9, 10, 11, 12, 13, 14, 15, 16, 17, 18, 19, 20, 21, 22, 23, 24, 25, 26, 27, 28, 29, 30, 31, 32, 33, 34, 35, 36, 37]] j) (fun _ ⟨g, h1, h2, h3⟩ => ⟨g, h1, h2.grown hgr (fun h => by have := ((hF.own 1 (by omega)).lt _ (by rw [hva]; exact h.symm)).2; omega), h3⟩) (phiS_cons_st (C := fun j => j ≠ 36 ∧ 36 ∉ clsAt [[], [0], [], [], [3], [], [], [6], [], [6, 7, 8], [6, 7, 8, 9], [], [], [], [11, 13], [11, 12, 13, 14], [11, 12, 13, 14, 15], [11, 12, 13, 14, 15, 16], [11, 12, 13, 14, 15, 16, 17], [6, 7, 8, 9, 10, 11, 12, 13, 14, 15, 16, 17, 18], [], [20], [], [20, 21, 22], [20, 21, 22, 23], [], [], [], [25, 27], [25, 26, 27, 28], [25, 26, 27, 28, 29], [25, 26, 27, 28, 29, 30], [25, 26, 27, 28, 29, 30, 31], [25, 26, 27, 28, 29, 30, 31, 32], [6, 7, 8, 9, 10, 11, 12, 13, 14, 15, 16, 17, 18, 19, 20, 21, 22, 23, 24, 25, 26, 27, 28, 29, 30, 31, 32, 33], [0, 1, 2, 6, 7, 8, 9, 10, 11, 12, 13, 14, 15, 16, 17, 18, 19, 20, 21, 22, 23, 24, 25, 26, 27, 28, 29, 30, 31, 32, 33, 34], [0, 1, 2, 6, 7, 8, 9, 10, 11, 12, 13, 14, 15, 16, 17, 18, 19, 20, 21, 22, 23, 24, 25, 26, 27, 28, 29, 30, 31, 32, 33, 34, 35], [0, 1, 2, 3, 4, 5, 6, 7, 8, 9, 10, 11, 12, 13, 14, 15, 16, 17, 18, 19, 20, 21, 22, 23, 24, 25, 26, 27, 28, 29, 30, 31, 32, 33, 34, 35, 36], [0, 1, 2, 3, 4, 5, 6, 7, 8, 9, 10, 11, 12, 13, 14, 15, 16, 17, 18, 19, 20, 21, 22, 23, 24, 25, 26, 27, 28, 29, 30, 31, 32, 33, 34, 35, 36, 37]] j) (fun _ h c0 => absurd c0 (by rw [fset_eq]; decide)) (phiS_cons_st (C := fun j => j ≠ 36 ∧ 36 ∉ clsAt [[], [0], [], [], [3], [], [], [6], [], [6, 7, 8], [6, 7, 8, 9], [], [], [], [11, 13], [11, 12, 13, 14], [11, 12, 13, 14, 15], [11, 12, 13, 14, 15, 16], [11, 12, 13, 14, 15, 16, 17], [6, 7, 8, 9, 10, 11, 12, 13, 14, 15, 16, 17, 18], [], [20], [], [20, 21, 22], [20, 21, 22, 23], [], [], [], [25, 27], [25, 26, 27, 28], [25, 26, 27, 28, 29], [25, 26, 27, 28, 29, 30], [25, 26, 27, 28, 29, 30, 31], [25, 26, 27, 28, 29, 30, 31, 32], [6, 7, 8, 9, 10, 11, 12, 13, 14, 15, 16, 17, 18, 19, 20, 21, 22, 23, 24, 25, 26, 27, 28, 29, 30, 31, 32, 33], [0, 1, 2, 6, 7, 8, 9, 10, 11, 12, 13, 14, 15, 16, 17, 18, 19, 20, 21, 22, 23, 24, 25, 26, 27, 28, 29, 30, 31, 32, 33, 34], [0, 1, 2, 6, 7, 8, 9, 10, 11, 12, 13, 14, 15, 16, 17, 18, 19, 20, 21, 22, 23, 24, 25, 26, 27, 28, 29, 30, 31, 32, 33, 34, 35], [0, 1, 2, 3, 4, 5, 6, 7, 8, 9, 10, 11, 12, 13, 14, 15, 16, 17, 18, 19, 20, 21, 22, 23, 24, 25, 26, 27, 28, 29, 30, 31, 32, 33, 34, 35, 36], [0, 1, 2, 3, 4, 5, 6, 7, 8, 9, 10, 11, 12, 13, 14, 15, 16, 17, 18, 19, 20, 21, 22, 23, 24, 25, 26, 27, 28, 29, 30, 31, 32, 33, 34, 35, 36, 37]] j) (fun hc => absurd rfl hc.1) (fun _ _ h => h))))) j ⟨hj, hn⟩
    ·intro val fl w' hfl hb halc hd
     obtain ⟨hk, _, _⟩ := hb;have e0 : val 0 = _ := hd 0 (by omega)
     have e1 : val 1 = _ := hd 1 (by omega)
     have e2 : val 2 = _ := hd 2 (by omega)
     have e3 : val 3 = _ := hd 3 (by omega)
     have e4 : val 4 = _ := hd 4 (by omega)
     have e5 : val 5 = _ := hd 5 (by omega)
     have e6 : val 6 = _ := hd 6 (by omega)
     have e7 : val 7 = _ := hd 7 (by omega)
     have e8 : val 8 = _ := hd 8 (by omega)
     have e9 : val 9 = _ := hd 9 (by omega)
     have e10 : val 10 = _ := hd 10 (by omega)
     have e11 : val 11 = _ := hd 11 (by omega)
     have e12 : val 12 = _ := hd 12 (by omega)
     have e13 : val 13 = _ := hd 13 (by omega)
     have e14 : val 14 = _ := hd 14 (by omega)
     have e15 : val 15 = _ := hd 15 (by omega)
     have e16 : val 16 = _ := hd 16 (by omega)
     have e17 : val 17 = _ := hd 17 (by omega)
     obtain ⟨ga18, e18, _, _⟩ := hd 18 (by omega)
     change val 18 = _ at e18;have e20 : val 20 = _ := hd 20 (by omega)
     have e21 : val 21 = _ := hd 21 (by omega)
     have e22 : val 22 = _ := hd 22 (by omega)
     have e23 : val 23 = _ := hd 23 (by omega)
     have e24 : val 24 = _ := hd 24 (by omega)
     have e25 : val 25 = _ := hd 25 (by omega)
     have e26 : val 26 = _ := hd 26 (by omega)
     have e27 : val 27 = _ := hd 27 (by omega)
     have e28 : val 28 = _ := hd 28 (by omega)
     have e29 : val 29 = _ := hd 29 (by omega)
     have e30 : val 30 = _ := hd 30 (by omega)
     have e31 : val 31 = _ := hd 31 (by omega)
     have e32 : val 32 = _ := hd 32 (by omega)
     obtain ⟨ga33, e33, _, _⟩ := hd 33 (by omega)
     change val 33 = _ at e33;have e35 : val 35 = _ := hd 35 (by omega)
     have hF2 : Fam w' w.heap.size 11 ft (fu (fu (fu (v2) (3 + 2 * i) (val 19)) (4 + 2 * i) (val 34)) 1 (.slice (some ⟨ga, 0, none⟩) (i + 1) ca)) (fu (fu (fu ((fX x.b v2 (i + 1) i k)) (3 + 2 * i) ((fX x.b v2 (i + 1) i k) (3 + 2 * i) ++ [.int .i64 (x.b (4 + 4 * i + k))])) (4 + 2 * i) ((fX x.b v2 (i + 1) i k) (4 + 2 * i) ++ [.int .i64 ((x.b (20 + 4 * i + k)).tmod 3)])) 1 (((fX x.b v2 (i + 1) i k) 1).set i (val 19))) := hd 36 (by omega)
     refine EL.ends (cs := [_, _, _, _, _, _, _, _, _, _, _, _, _, _, _, _, _, _, _, val 19, _, _, _, _, _, _, _, _, _, _, _, _, _, _, val 34, _, val 36]) ⟨e0, e1, e2, e3, e4, e5, e6, e7, e8, e9, e10, e11, e12, e13, e14, e15, e16, e17, e18, rfl, e20, e21, e22, e23, e24, e25, e26, e27, e28, e29, e30, e31, e32, e33, rfl, e35, rfl, trivial⟩ rfl ?_
     generalize val 19 = nv0 at hF2 ⊢
     generalize val 34 = nv1 at hF2 ⊢
     clear hF halc hd e0 e1 e2 e3 e4 e5 e6 e7 e8 e9 e10 e11 e12 e13 e14 e15 e16 e17 e18 e20 e21 e22 e23 e24 e25 e26 e27 e28 e29 e30 e31 e32 e33 e35;replace q1 := hk.blk _ _ _ q1 rfl;replace q2 := hk.blk _ _ _ q2 rfl;replace q3 := hk.blk _ _ _ q3 rfl;replace hbw := hbw.trans hk.below;clear hk hfl;refine EL.val (ix_25 rfl rfl (by omega)) rfl ?_
     have hw2 := hF2.own 2 (by omega)
     rw [fu_ne (by omega), fu_ne (by omega), fu_ne (by omega), fu_ne (by omega), fu_ne (by omega), fu_ne (by omega), fX_len2, hvb] at hw2
     change w'.ownsRow w.heap.size 22 1 _ _ _ at hw2;have hsv2 := own_sl (hF2.own (4 + 2 * i) (by omega))
     rw [fu_ne (by omega), fu_eq] at hsv2
     obtain ⟨As_, cs_, hsv2⟩ := hsv2;refine EL.storeRow (l' := [nv1]) rfl rfl hw2 sz_22 (by rw [hsv2]; rfl) rfl (by rw [fX_len2]; omega) (by rw [hsv2]; rfl) ?_
     intro ws2 hy2 hgs2;rw [spl_one _ _ _ (by rw [fX_len2]; omega), Nat.zero_add] at hy2
     have hF4 := Fam.turn (y := (fX x.b v2 (i + 1) i k 2).set i nv1) hF2 (show 2 < 11 by omega) (by rw [List.length_set, fX_len2]; exact hy2) (by rw [fu_ne (by omega), fu_ne (by omega), fu_ne (by omega), hvb]; exact hgs2) (.inl (by rw [fu_ne (by omega), fu_ne (by omega), fu_ne (by omega), hvb]))
     replace q1 := blk_grown q1 hw2 rfl hgs2;replace q2 := blk_grown q2 hw2 rfl hgs2;replace q3 := blk_grown q3 hw2 rfl hgs2;replace hbw := hbw.trans (Kp.own (S := [22]) hw2 rfl (Nat.le_refl _) hbw.size hgs2).below;clear hw2 hgs2 hy2 hF2;obtain ⟨v3, hz0, hz1, hz2, hnil3, hF⟩ : ∃ v3 : Nat → Value, v3 0 = v1 0 ∧ v3 1 = v1 1 ∧ v3 2 = v1 2 ∧ (∀ r, i + 1 ≤ r → v3 (3 + 2 * r) = .slice none 0 0 ∧ v3 (4 + 2 * r) = .slice none 0 0) ∧ Fam ws2 w.heap.size 11 ft v3 (fX x.b v3 (i + 1) i (k + 1)) := ⟨fu (fu v2 (3 + 2 * i) nv0) (4 + 2 * i) nv1, by rw [fu_ne (by omega), fu_ne (by omega)]; exact hs0, by rw [fu_ne (by omega), fu_ne (by omega)]; exact hs1, by rw [fu_ne (by omega), fu_ne (by omega)]; exact hs2, fun r hr => by rw [fu_ne (by omega), fu_ne (by omega), fu_ne (by omega), fu_ne (by omega)]; exact hnil2 r hr, (hF4.val (fun j _ => fu_back hva hvb j)).same fun j _ => fX_num (Nat.lt_succ_self i) hlk j⟩
     clear hF4;refine EL.nil (EX.blk (EX.seq (EC.region (EL.mv rfl rfl ?_))));refine EL.val (x_add rfl rfl (c := ((k + 1 : Nat) : Int)) ((IntWalk.i64_in _ ⟨by first | omega | (simp only; omega), by first | omega | (simp only; omega)⟩).trans (by first | omega | (simp only; omega)))) rfl ?_
     refine EL.as rfl rfl (EL.nil ?_);refine EX.roundD (k + 1, v3) ⟨rfl, trivial⟩ (by repeat first | with_reducible exact .refl _ | refine sp_ rfl ?_ | exact .refl _ | refine sd_ rfl ?_ | refine sn_ ?_) ⟨hlk, ⟨hz0, hz1, hz2⟩, hnil3, hF, q1, q2, (by rw [← hs1, ← hs2, hva, hvb]; exact q3), hbw⟩ (by simp only; omega)
   ·
    obtain rfl : k = 4 := by omega
    rw [← hs0, ← hs1, ← hs2] at q3;replace hF := hF.same fun j _ => fX_end x.b v2 (i + 1) i j
    refine EC.seq (EC.seq (EC.region (EL.mv rfl rfl ?_)));refine EL.val (x_lss rfl rfl (decide_eq_false (show ¬(((4 : Nat) : Int) < ((4 : Nat) : Int)) by omega))) rfl ?_
    refine EL.nil (EX.seq (EC.no rfl (EC.exit (EX.seq_exit (EX.seq_exit (EX.blk_here (EX.blk (EX.seq (EC.region ?_)))))))));refine EL.mv rfl rfl ?_;refine EL.val (x_add rfl rfl (c := ((i + 1 : Nat) : Int)) ((IntWalk.i64_in _ ⟨by first | omega | (simp only; omega), by first | omega | (simp only; omega)⟩).trans (by first | omega | (simp only; omega)))) rfl ?_
    refine EL.as rfl rfl (EL.nil ?_);refine EX.roundD (i + 1, v2) ⟨rfl, trivial⟩ (by repeat first | with_reducible exact .refl _ | refine sp_ rfl ?_ | exact .refl _ | refine sd_ rfl ?_ | refine sn_ ?_) ⟨hlt, hnil2, hF, q1, q2, q3, hbw⟩ (by simp only; omega)
 ·
  obtain rfl : i = 4 := by omega
  refine EC.seq (EC.seq (EC.region (EL.mv rfl rfl ?_)));refine EL.val (x_lss rfl rfl (decide_eq_false (show ¬(((4 : Nat) : Int) < ((4 : Nat) : Int)) by omega))) rfl ?_
  refine EL.nil (EX.seq (EC.no rfl (EC.exit (EX.seq_exit (EX.seq_exit (EX.blk_here (EX.seq (EC.seq (EC.seq ?_)))))))));refine EC.region (EL.as rfl rfl (EL.nil (EX.seq (EC.block ?_))));refine EC.loopD [6, 7, 99, 100, 101, 102, 103, 104, 105, 106, 107, 108, 109, 110, 111, 112, 113, 114, 115, 116, 117, 118, 119, 120, 121, 122, 123, 124, 125, 126, 127, 128, 129, 130, 131, 132, 133, 134, 135, 136, 137, 138, 139, 140, 141, 142] (fun x_ : Nat × Value => [(6, .int .i64 (x_.1 : Nat))]) (fun x_ W => (x_.1 ≤ x.kinds.length ∧ x_.1 ≤ 4) ∧ W.ownsRow w.heap.size 52 5 x_.2 x_.1 (kdsC ((x.kinds.take x_.1).map smKd)) ∧ Fam W w.heap.size 11 ft v (fX x.b v 4 4 0) ∧ Blk W g1 78 (smC x.b (.slice Ak x.kinds.length ck) ves).toArray ∧ Blk W g2 28 #[.slice none 0 0, .int .i64 0, .int .i64 0, .slice none 0 0, .slice none 0 0, .slice none 0 0] ∧ Blk W g3 28 #[v 0, .int .i64 ((min (x.b 36) (x.b 37)).tmod 40), .int .i64 (((min (x.b 36) (x.b 37)).tmod 40) + (max (x.b 36) (x.b 37)).tmod 20), v 1, v 2, x_.2] ∧ Below w.heap.size w W) (fun x_ => x.kinds.length - x_.1) (0, .slice none 0 0) ⟨⟨Nat.zero_le _, Nat.zero_le _⟩, World.ownsRow_nil _ _ _ _, hF, q1, q2, q3, hbw⟩ ⟨rfl, trivial⟩ ?_
  clear hF q1 q2 q3 hbw hnil
  rintro ⟨i, vk⟩ wx ⟨⟨hi1, hi2⟩, hO, hF, q1, q2, q3, hbw⟩
  dsimp only at hi1 hi2 hO
  by_cases hlt : i < x.kinds.length
  ·
   by_cases hlm : i < 4
   ·
    obtain ⟨bx, ox, ebx, _, x0, x1, x2⟩ := k3s_cells x.kinds i hlt wx B _ _ _ (hkr.below (hbw.mono hB));obtain ⟨hy0, hy1, hy2⟩ := hok.k _ (getD_mem hlt (0, 0, 0));have hm1 := byte_rem hy1 (m := 40) (by omega)
    have hy0_ := hy0;have hy2_ := hy2
    unfold byte at hy0_ hy2_
    refine EC.seq (EC.seq (EC.region (EL.mv rfl rfl (EL.val (fa_78_4 rfl) rfl (EL.val (ld_75 rfl (q1.cellA (smC_k _ _ _))) rfl (EL.val (ln_75 rfl) rfl ?_))))));refine EL.val (x_lss rfl rfl (decide_eq_true (show (((i : Nat) : Int) < ((x.kinds.length : Nat) : Int)) by omega))) rfl ?_
    refine EL.mv rfl rfl (EL.mg rfl rfl rfl rfl ?_);refine EL.valg rfl rfl (x_lss rfl rfl (decide_eq_true (show (((i : Nat) : Int) < ((4 : Nat) : Int)) by omega))) rfl ?_
    refine EL.pt rfl rfl rfl (EL.nil (EX.seq (EC.yes rfl (EC.skip (EX.seq (EC.seq (EC.block (EC.seq (EC.region ?_)))))))));refine EL.val (fa_78_4 rfl) rfl (EL.val (ld_75 rfl (q1.cellA (smC_k _ _ _))) rfl (EL.mv rfl rfl ?_));refine EL.val (ix_75 (by show some (Value.slice Ak _ _) = _; rw [ebx]) rfl hlt) rfl ?_
    refine EL.val (ld_140 rfl x0 x1 x2) rfl (EL.newP al_140 rfl ?_);intro g9 w9 q9 hb9 hg9 hl9;have n1_9 := q1.na hg9;have n2_9 := q2.na hg9;have n3_9 := q3.na hg9;have bhbw_9 := Nat.le_trans hbw.size hg9;replace q1 := q1.bl hb9;replace q2 := q2.bl hb9;replace q3 := q3.bl hb9;replace hF := hF.below hb9;replace hO := own_below hO hb9 (Nat.le_refl _);replace hbw := bo_ hbw hb9;clear hb9 hg9 hl9;refine EL.store rfl rfl q9 sz_140 rfl rfl rfl rfl ?_;intro w10 hq10 hg10;replace q1 := q1.gr hg10 n1_9;replace q2 := q2.gr hg10 n2_9;replace q3 := q3.gr hg10 n3_9;replace hF := hF.box q9 (fun _ _ => ft_box rfl rfl _) hg10
    replace hO := own_type hO q9 rfl hg10;replace hbw := below_store hbw hg10 bhbw_9;replace q9 := hq10;clear hg10 hq10;refine EL.nil (EX.seq (EC.region (EL.val (fa_28_4 rfl) rfl (EL.val (ld_26 rfl (q3.at (j := 5) rfl)) rfl ?_))));refine EL.val (ixa_140 (k := 0) rfl rfl (by omega)) rfl ?_
    refine EL.val (ld_5 rfl (q9.at (j := 0) rfl)) rfl (EL.val (cv_5_3 rfl (wrap_byte hy0)) rfl ?_);refine EL.val (ixa_140 (k := 0) rfl rfl (by omega)) rfl ?_
    refine EL.val (ld_5 rfl (q9.at (j := 0) rfl)) rfl (EL.val (cv_5_3 rfl (wrap_byte hy0)) rfl ?_);refine EL.val (ixa_140 (k := 1) rfl rfl (by omega)) rfl ?_
    refine EL.val (ld_5 rfl (q9.at (j := 1) rfl)) rfl (EL.val (cv_5_3 rfl (wrap_byte hy1)) rfl ?_);refine EL.val (x_rem rfl rfl (by decide) rfl) rfl ?_
    refine EL.val (x_add rfl rfl (IntWalk.i64_in _ ⟨by omega, by omega⟩)) rfl ?_
    refine EL.val (bd_24_0_1 rfl rfl) rfl ?_;refine EL.val (ixa_140 (k := 1) rfl rfl (by omega)) rfl ?_
    refine EL.val (ld_5 rfl (q9.at (j := 1) rfl)) rfl (EL.val (cv_5_3 rfl (wrap_byte hy1)) rfl ?_);refine EL.val (ixa_140 (k := 2) rfl rfl (by omega)) rfl ?_
    refine EL.val (ld_5 rfl (q9.at (j := 2) rfl)) rfl (EL.val (cv_5_3 rfl (wrap_byte hy2)) rfl ?_);refine EL.val (ixa_140 (k := 2) rfl rfl (by omega)) rfl ?_
    refine EL.val (ld_5 rfl (q9.at (j := 2) rfl)) rfl (EL.val (cv_5_3 rfl (wrap_byte hy2)) rfl ?_);refine EL.val (x_mul rfl rfl (IntWalk.i64_in _ ⟨by omega, by omega⟩)) rfl ?_
    refine EL.val (bd_52_0_1_2_3 rfl rfl rfl rfl) rfl (EL.newS (bs_26_1 rfl) rfl ?_);intro g11 w11 q11 hb11 hg11 hl11;have n1_11 := q1.na hg11;have n2_11 := q2.na hg11;have n3_11 := q3.na hg11;have n9_11 := q9.na hg11;have bhbw_11 := Nat.le_trans hbw.size hg11;replace q1 := q1.bl hb11;replace q2 := q2.bl hb11;replace q3 := q3.bl hb11;replace q9 := q9.bl hb11;replace hF := hF.below hb11;replace hO := own_below hO hb11 (Nat.le_refl _);replace hbw := bo_ hbw hb11;clear hb11 hg11 hl11;refine EL.push kd_elem rfl rfl hO (rd_one (l := kdC (smKd (x.kinds.getD i (0, 0, 0)))) q11 rfl) (kdsC_one [smKd (x.kinds.getD i (0, 0, 0))]) (by omega) rfl hbw.size rfl ?_
    intro v9 w9 ho9 hgr hb_ hat;replace hbw := hbw.trans hb_;replace hF := hF.pushed hO (fun _ _ => ft_box rfl rfl _) hgr
    replace q1 := blk_grown q1 hO rfl hgr;replace q2 := blk_grown q2 hO rfl hgr;replace q3 := blk_grown q3 hO rfl hgr;replace q9 := blk_grown q9 hO rfl hgr;clear hO hgr hb_ hat;obtain ⟨A9, c9, rfl, _⟩ := (Rd.of_own ho9).shape;refine EL.val (fa_28_4 rfl) rfl (EL.store rfl rfl q3 sz_26 rfl rfl rfl rfl ?_);intro w12 hq12 hg12;replace q1 := q1.gr hg12 n1_3;replace q2 := q2.gr hg12 n2_3;replace q9 := q9.gr hg12 n3_9.symm;replace hF := hF.box q3 (fun _ _ => ft_box rfl rfl _) hg12
    replace ho9 := own_type ho9 q3 rfl hg12;replace hbw := below_store hbw hg12 bhbw_3;replace q3 := hq12;clear hg12 hq12;refine EL.nil (EX.blk (EX.seq (EC.region (EL.mv rfl rfl ?_))));refine EL.val (x_add rfl rfl (c := ((i + 1 : Nat) : Int)) ((IntWalk.i64_in _ ⟨by first | omega | (simp only; omega), by first | omega | (simp only; omega)⟩).trans (by first | omega | (simp only; omega)))) rfl ?_
    refine EL.as rfl rfl (EL.nil ?_);refine EX.roundD (i + 1, .slice A9 (i + 1) c9) ⟨rfl, trivial⟩ (by repeat first | with_reducible exact .refl _ | refine sp_ rfl ?_ | exact .refl _ | refine sd_ rfl ?_ | refine sn_ ?_) ⟨⟨hlt, hlm⟩, by simp only; rw [take_map_succ _ _ (0, 0, 0) hlt, kdsC_app]; exact ho9, hF, q1, q2, q3, hbw⟩ (by simp only; omega)
   ·
    have hxe : i = min x.kinds.length 4 := by omega
    obtain ⟨A0_, c0_, hsh0⟩ := own_sl (hF.own 0 (by omega))
    obtain ⟨A1_, c1_, hsh1⟩ := own_sl (hF.own 1 (by omega))
    obtain ⟨A2_, c2_, hsh2⟩ := own_sl (hF.own 2 (by omega))
    obtain ⟨A9, c9, rfl, _⟩ := (Rd.of_own hO).shape;rw [hsh0, hsh1, hsh2] at q3;refine EC.seq (EC.seq (EC.region (EL.mv rfl rfl (EL.val (fa_78_4 rfl) rfl (EL.val (ld_75 rfl (q1.cellA (smC_k _ _ _))) rfl (EL.val (ln_75 rfl) rfl ?_))))));refine EL.val (x_lss rfl rfl (decide_eq_true (show (((i : Nat) : Int) < ((x.kinds.length : Nat) : Int)) by omega))) rfl ?_
    refine EL.mv rfl rfl (EL.mg rfl rfl rfl rfl ?_);refine EL.valg rfl rfl (x_lss rfl rfl (decide_eq_false (show ¬(((i : Nat) : Int) < ((4 : Nat) : Int)) by omega))) rfl ?_
    refine EL.pt rfl rfl rfl (EL.nil (EX.seq (EC.no rfl (EC.exit (EX.seq_exit (EX.seq_exit (EX.blk_here (EX.seq (EC.seq ?_)))))))));refine EC.region (EL.val (ld_28 rfl (q3.at (j := 0) rfl) (q3.at (j := 1) rfl) (q3.at (j := 2) rfl) (q3.at (j := 3) rfl) (q3.at (j := 4) rfl) (q3.at (j := 5) rfl)) rfl (EL.store rfl rfl q2 sz_28 rfl rfl rfl rfl ?_));intro w13 hq13 hg13;replace q1 := q1.gr hg13 n1_2;replace q3 := q3.gr hg13 n2_3.symm;replace hF := hF.box q2 (fun _ _ => ft_box rfl rfl _) hg13
    replace hO := own_type hO q2 rfl hg13;replace hbw := below_store hbw hg13 bhbw_2;replace q2 := hq13;clear hg13 hq13;refine EL.nil (EX.seq (EC.ret ?_))
    exact EX.done (resc1 rfl rfl (lv_28 (q2.at (j := 0) rfl) (q2.at (j := 1) rfl) (q2.at (j := 2) rfl) (q2.at (j := 3) rfl) (q2.at (j := 4) rfl) (q2.at (j := 5) rfl))) ⟨⟨_, _, _, _, rfl, x, v, i, hxe, hF, hO, hsh0.symm, hsh1.symm, hsh2.symm, rfl⟩, hbw⟩
  ·
   have hxe : i = min x.kinds.length 4 := by omega
   obtain ⟨A0_, c0_, hsh0⟩ := own_sl (hF.own 0 (by omega))
   obtain ⟨A1_, c1_, hsh1⟩ := own_sl (hF.own 1 (by omega))
   obtain ⟨A2_, c2_, hsh2⟩ := own_sl (hF.own 2 (by omega))
   obtain ⟨A9, c9, rfl, _⟩ := (Rd.of_own hO).shape;rw [hsh0, hsh1, hsh2] at q3;refine EC.seq (EC.seq (EC.region (EL.mv rfl rfl (EL.val (fa_78_4 rfl) rfl (EL.val (ld_75 rfl (q1.cellA (smC_k _ _ _))) rfl (EL.val (ln_75 rfl) rfl ?_))))));refine EL.val (x_lss rfl rfl (decide_eq_false (show ¬(((i : Nat) : Int) < ((x.kinds.length : Nat) : Int)) by omega))) rfl ?_
   refine EL.mv rfl rfl (EL.skip rfl rfl rfl rfl (EL.skip rfl rfl rfl rfl (EL.pf rfl rfl rfl (EL.nil (EX.seq (EC.no rfl (EC.exit (EX.seq_exit (EX.seq_exit ?_)))))))));refine EX.blk_here (EX.seq (EC.seq (EC.region (EL.val (ld_28 rfl (q3.at (j := 0) rfl) (q3.at (j := 1) rfl) (q3.at (j := 2) rfl) (q3.at (j := 3) rfl) (q3.at (j := 4) rfl) (q3.at (j := 5) rfl)) rfl (EL.store rfl rfl q2 sz_28 rfl rfl rfl rfl ?_)))));intro w14 hq14 hg14;replace q1 := q1.gr hg14 n1_2;replace q3 := q3.gr hg14 n2_3.symm;replace hF := hF.box q2 (fun _ _ => ft_box rfl rfl _) hg14
   replace hO := own_type hO q2 rfl hg14;replace hbw := below_store hbw hg14 bhbw_2;replace q2 := hq14;clear hg14 hq14;refine EL.nil (EX.seq (EC.ret ?_))
   exact EX.done (resc1 rfl rfl (lv_28 (q2.at (j := 0) rfl) (q2.at (j := 1) rfl) (q2.at (j := 2) rfl) (q2.at (j := 3) rfl) (q2.at (j := 4) rfl) (q2.at (j := 5) rfl))) ⟨⟨_, _, _, _, rfl, x, v, i, hxe, hF, hO, hsh0.symm, hsh1.symm, hsh2.symm, rfl⟩, hbw⟩
end Go.Proofs.Ytdkedhcbdbpccaa
namespace Go.Proofs.Ytdkedhcbdbpccaa
open Go Go.ChangeShapes Go.WideShapes Go.Deep Go.RowKit Go.Joins
theorem cell_spot {w : World} {x : Addr} {u : Value} (h : w.cell? x = some u) : x.spot = none ∧ x.block < w.heap.size := by
 unfold World.cell? at h
 split at h
 ·rename_i c e f hg
  split at h
  ·cases h
  ·rename_i hs
   refine ⟨by simpa using hs, ?_⟩
   rcases Nat.lt_or_ge x.block w.heap.size with hlt | hge
   ·exact hlt
   ·rw [Array.getElem?_eq_none hge] at hg; cases hg
 ·cases h
section
variable {H : Type} {enc : TypeId × Value → H} {P : Program} {w : World} {base : Nat} {spare : Nat → Bool} {held : Bool}
/-- rows of cells, one behind the other -/
theorem rd_of_cells {b off n c s : Nat} {B : Nat} (row : Nat → List Value) (hlen : ∀ i, (row i).length = s) (hs : 0 < s) (hB : b < B) (hnc : n ≤ c)
  (hcell : ∀ i, i < n → ∀ j u, (row i)[j]? = some u → w.cell? ⟨b, off + (i * s + j), none⟩ = some u) :
  Rd w B s (.slice (some ⟨b, off, none⟩) n c) n ((List.range n).flatMap row) := by
 refine ⟨by rw [flat_len hlen, List.length_range], _, _, rfl, hnc, fun _ => ⟨b, off, rfl, hB, fun q u hu => ?_⟩⟩
 have hq : q < n * s := by
  have := (List.getElem?_eq_some_iff.1 hu).1
  rwa [flat_len hlen, List.length_range] at this
 have hk : q / s < n := by
  rw [Nat.div_lt_iff_lt_mul hs]
  exact hq
 have e : q = q / s * s + q % s := by rw [Nat.mul_comm]; exact (Nat.div_add_mod q s).symm
 have hg := flat_get hlen (List.range n) (q / s) (by simpa using hk) (q % s) (Nat.mod_lt _ hs)
 rw [← e, List.getElem_range] at hg;rw [hg] at hu;have := hcell (q / s) hk (q % s) u hu
 rwa [← e] at this
theorem add_lit_more (x : Addr) (n : Nat) (h : x.spot = none) : x.add n = ⟨x.block, x.off + n, none⟩ := by
 obtain ⟨b, o, s⟩ := x;subst h;rw [Addr.add_lit]
/-- a slice, opened to its elements -/
theorem rd_list {α : Type} [Inhabited α] {f : α → List Value} {s : Nat} {Good : α → Prop} (hf : ∀ x, (f x).length = s) (hs : 0 < s) {t e : TypeId} {fuel : Nat} {v : Value} {x : DataW H × List MemPlace} (ht : P.underlying t = some (.slice e)) (hC : P.cellsOf e = s)
  (hE : ∀ (fuel : Nat) (cs : List Value) (x : DataW H × List MemPlace), cs.length = s → DataW.trod enc P w base spare held fuel e cs = some x → ∃ y : α, cs = f y ∧ Good y) (h : DataW.trod enc P w base spare held fuel t [v] = some x) :
  ∃ l : List α, Rd w w.heap.size s v l.length (l.flatMap f) ∧ (∀ y ∈ l, Good y) ∧ l.length ≤ maxLen := by
 rcases open_slice ht h with ⟨hcs, _⟩ | ⟨a, len, cap, m, n, D, Pl, hcs, _, hl, hcap, hm, _, hi⟩
 ·injection hcs with hcs
  subst hcs
  exact ⟨[], Rd.nil_ _ _ _, by simp, Nat.zero_le _⟩
 ·injection hcs with hcs
  subst hcs;have hcell : ∀ i, i < len → ∃ y : α, (∀ j u, (f y)[j]? = some u → w.cell? (a.add (i * s + j)) = some u) ∧ Good y := by
   intro i hi';obtain ⟨cs', hc, ht'⟩ := hi i (by rw [hm]; split <;> omega)
   rw [hC] at hc;obtain ⟨_, hcl, hat⟩ := World.cells?_some hc;obtain ⟨y, hy, hg⟩ := hE _ cs' _ hcl ht';subst hy;refine ⟨y, fun j u hu => ?_, hg⟩
   have hj : j < s := by
    have := (List.getElem?_eq_some_iff.1 hu).1
    rwa [hf] at this
   have h1 := hat j hj;rw [Go.Deep.add_add] at h1;rw [h1, hu]
  let pick : Nat → α := fun i => if h : i < len then Classical.choose (hcell i h) else default
  have hpick : ∀ i, (h : i < len) → (∀ j u, (f (pick i))[j]? = some u → w.cell? (a.add (i * s + j)) = some u) ∧ Good (pick i) := fun i h => by
   have := Classical.choose_spec (hcell i h)
   simp only [pick, dif_pos h]
   exact this
  refine ⟨(List.range len).map pick, ?_, ?_, by simp; omega⟩
  ·rw [List.length_map, List.length_range]
   rcases Nat.eq_zero_or_pos len with hz | hz
   ·subst hz
    exact ⟨by simp, _, _, rfl, hl, fun h => absurd h (by omega)⟩
   ·have h0 := (hpick 0 hz).1 0 _ (List.getElem?_eq_getElem (by rw [hf]; exact hs))
    obtain ⟨hsp, hb⟩ := cell_spot h0;have e0 : a.add (0 * s + 0) = a := by simp [Addr.add]
    rw [e0] at hsp hb;have hx : a = ⟨a.block, a.off, none⟩ := by obtain ⟨b, o, s⟩ := a; subst hsp; rfl
    rw [hx, List.flatMap_map];refine rd_of_cells _ (fun i => hf _) hs hb hl fun i hi' j u hu => ?_
    have h1 := (hpick i hi').1 j u hu;rw [add_lit_more a _ hsp] at h1
    exact h1
  ·intro y hy
   obtain ⟨i, hi', rfl⟩ := List.mem_map.1 hy
   exact (hpick i (by simpa using hi')).2
theorem fld_of {fs : Array Field} {n : Nat} {cs : List Value} {ys : List (DataW H × List MemPlace)} (hf : ∀ (i : Nat) (f : Field), fs[i]? = some f → DataW.trod enc P w base spare held n f.type ((cs.drop f.offset).take (P.cellsOf f.type)) = ys[i]?)
  {j ft off z : Nat} {f : Field} (hj : fs[j]? = some f) (h1 : f.type = ft) (h2 : f.offset = off) (h3 : P.cellsOf ft = z) : DataW.trod enc P w base spare held n ft ((cs.drop off).take z) = ys[j]? := by
 subst h1 h2 h3
 exact hf j f hj
end
section
variable {H : Type} {enc : TypeId × Value → H} {w : World} {base : Nat} {spare : Nat → Bool} {held : Bool}
theorem co_5 : Try.prog.cellsOf 5 = 1 := by kernel_rfl
theorem co_74 : Try.prog.cellsOf 74 = 2 := by kernel_rfl
theorem co_140 : Try.prog.cellsOf 140 = 3 := by kernel_rfl
theorem co_72 : Try.prog.cellsOf 72 = 4 := by kernel_rfl
theorem co_73 : Try.prog.cellsOf 73 = 16 := by kernel_rfl
theorem co_76 : Try.prog.cellsOf 76 = 1 := by kernel_rfl
theorem co_75 : Try.prog.cellsOf 75 = 1 := by kernel_rfl
theorem co_78 : Try.prog.cellsOf 78 = 40 := by kernel_rfl
theorem cells_len_78 {fuel : Nat} {v : Value} {x : DataW H × List MemPlace} (h : DataW.trod enc Try.prog w base spare held fuel 78 v.cells.toList = some x) : v.cells.toList.length = 40 := by
 obtain ⟨_, _, _, _, hlen, _, _⟩ := DataW.trod_struct Try.underlying78 h;rw [hlen]
 exact co_78
theorem wf_u8 {n : Int} (h : (Lit.int .u8 n).wf = true) : byte n := by
 simp [Lit.wf, IntKind.min, IntKind.max, IntKind.signed, IntKind.bits] at h
 unfold byte
 omega
theorem flat_u8s : ∀ l : List Int, l.flatMap (fun x => [Value.int .u8 x]) = u8s l
 | [] => rfl
 | x :: l => by
  have := flat_u8s l
  simp only [u8s, List.flatMap_cons, List.map_cons, List.singleton_append] at this ⊢
  rw [this]
theorem byte_of {fuel : Nat} {u : Value} {x : DataW H × List MemPlace} (h : DataW.trod enc Try.prog w base spare held fuel 5 [u] = some x) : ∃ z, u = .int .u8 z ∧ byte z := by
 obtain ⟨z, hz, _, wf⟩ := DataW.trod_int Try.underlying5 h
 injection hz with hz
 exact ⟨z, hz, wf_u8 wf⟩
theorem rd_u8s {fuel : Nat} {v : Value} {x : DataW H × List MemPlace} (h : DataW.trod enc Try.prog w base spare held fuel 79 [v] = some x) : ∃ l : List Int, Rd w w.heap.size 1 v l.length (u8s l) ∧ (∀ i, i < l.length → byte (l.getD i 0)) ∧ l.length ≤ maxLen := by
 obtain ⟨l, h1, h3, h2⟩ := rd_list (α := Int) (s := 1) (f := fun x => [Value.int .u8 x]) (Good := byte) (fun _ => rfl) (by omega) Try.underlying79 co_5 (fun _ cs _ hl ht => by
  match cs, hl with
  | [u], _ =>
   obtain ⟨z, hz, wf⟩ := byte_of ht;subst hz
   exact ⟨z, rfl, wf⟩) h
 rw [flat_u8s] at h1
 exact ⟨l, h1, fun i hi => h3 _ (getD_mem hi 0), h2⟩
/-- an array of bytes -/
theorem arr_u8 {fuel n t : Nat} {cs : List Value} {x : DataW H × List MemPlace} (ht : Try.prog.underlying t = some (.array n 5)) (hc : Try.prog.cellsOf t = n) (h : DataW.trod enc Try.prog w base spare held fuel t cs = some x) : cs.length = n ∧ ∀ i, i < n → ∃ z, cs[i]? = some (.int .u8 z) ∧ byte z := by
 obtain ⟨xs, m, _, _, hl, hx, hi⟩ := DataW.trod_array ht h;rw [hc] at hl;refine ⟨hl, fun i hi' => ?_⟩
 have h1 := hi i hi';rw [co_5, Nat.mul_one] at h1;have hlt : i < cs.length := by omega
 have e : (cs.drop i).take 1 = [cs[i]] := by rw [List.drop_eq_getElem_cons hlt]; rfl
 rw [e, List.getElem?_eq_getElem (by omega)] at h1
 obtain ⟨z, hz, wf⟩ := byte_of h1
 exact ⟨z, by rw [List.getElem?_eq_getElem hlt, hz], wf⟩
theorem arr_arr {fuel : Nat} {cs : List Value} {x : DataW H × List MemPlace} (h : DataW.trod enc Try.prog w base spare held fuel 73 cs = some x) : ∀ j, j < 16 → ∃ z, cs[j]? = some (.int .u8 z) ∧ byte z := by
 obtain ⟨xs, m, _, _, hl, hx, hi⟩ := DataW.trod_array Try.underlying73 h;intro j hj;have h1 := hi (j / 4) (by omega)
 rw [co_72, List.getElem?_eq_getElem (by omega)] at h1
 obtain ⟨z, hz, hb⟩ := (arr_u8 Try.underlying72 co_72 h1).2 (j % 4) (by omega)
 refine ⟨z, ?_, hb⟩;rw [List.getElem?_take, if_pos (by omega), List.getElem?_drop] at hz
 rw [← hz]
 congr 1
 omega
theorem two_of {fuel : Nat} {cs : List Value} {x : DataW H × List MemPlace} (h : DataW.trod enc Try.prog w base spare held fuel 74 cs = some x) : ∃ p : Int × Int, cs = e2C p ∧ (byte p.1 ∧ byte p.2) := by
 obtain ⟨hl, hi⟩ := arr_u8 Try.underlying74 co_74 h;obtain ⟨a, ha, ba⟩ := hi 0 (by omega)
 obtain ⟨b, hb, bb⟩ := hi 1 (by omega)
 match cs, hl, ha, hb with
 | [u, v], _, ha, hb =>
  simp at ha hb
  subst ha hb
  exact ⟨(a, b), rfl, ba, bb⟩
theorem three_of {fuel : Nat} {cs : List Value} {x : DataW H × List MemPlace} (h : DataW.trod enc Try.prog w base spare held fuel 140 cs = some x) : ∃ p : Int × Int × Int, cs = k3C p ∧ (byte p.1 ∧ byte p.2.1 ∧ byte p.2.2) := by
 obtain ⟨hl, hi⟩ := arr_u8 Try.underlying140 co_140 h;obtain ⟨a, ha, ba⟩ := hi 0 (by omega)
 obtain ⟨b, hb, bb⟩ := hi 1 (by omega)
 obtain ⟨c, hc, bc⟩ := hi 2 (by omega)
 match cs, hl, ha, hb, hc with
 | [u, v, y], _, ha, hb, hc =>
  simp at ha hb hc
  subst ha hb hc
  exact ⟨(a, b, c), rfl, ba, bb, bc⟩
theorem rd_e2s {fuel : Nat} {v : Value} {x : DataW H × List MemPlace} (h : DataW.trod enc Try.prog w base spare held fuel 76 [v] = some x) : ∃ l : List (Int × Int), Rd w w.heap.size 2 v l.length (e2s l) ∧ (∀ p ∈ l, byte p.1 ∧ byte p.2) ∧ l.length ≤ maxLen := by
 obtain ⟨l, h1, h3, h2⟩ := rd_list (α := Int × Int) (s := 2) (f := e2C) (Good := fun p => byte p.1 ∧ byte p.2) (fun _ => rfl) (by omega) Try.underlying76 co_74 (fun _ cs _ hl ht => two_of ht) h
 exact ⟨l, h1, h3, h2⟩
theorem rd_k3s {fuel : Nat} {v : Value} {x : DataW H × List MemPlace} (h : DataW.trod enc Try.prog w base spare held fuel 75 [v] = some x) : ∃ l : List (Int × Int × Int), Rd w w.heap.size 3 v l.length (k3s l) ∧ (∀ p ∈ l, byte p.1 ∧ byte p.2.1 ∧ byte p.2.2) ∧ l.length ≤ maxLen := by
 obtain ⟨l, h1, h3, h2⟩ := rd_list (α := Int × Int × Int) (s := 3) (f := k3C) (Good := fun p => byte p.1 ∧ byte p.2.1 ∧ byte p.2.2) (fun _ => rfl) (by omega) Try.underlying75 co_140 (fun _ cs _ hl ht => three_of ht) h
 exact ⟨l, h1, h3, h2⟩
theorem small_of {v : Value} {d : DataW H} {p : List MemPlace} (h : DataW.Trod enc Try.prog w base spare held 78 v d p) : ∃ (x : Sml) (vks ves : Value), v = .agg (smC x.b vks ves).toArray ∧ SmlOk x ∧ Rd w w.heap.size 3 vks x.kinds.length (k3s x.kinds) ∧ Rd w w.heap.size 2 ves x.events.length (e2s x.events) ∧ x.kinds.length ≤ maxLen ∧ x.events.length ≤ maxLen := by
 obtain ⟨fuel, hf⟩ := h;have hlen := cells_len_78 hf;obtain ⟨ys, n, _, _, _, hyl, hF⟩ := DataW.trod_struct Try.underlying78 hf
 generalize hcs : v.cells.toList = cs at hF hlen
 have hy : ∀ j, j < 6 → ys[j]? = some (ys.getD j (.nil, [])) := fun j hj => by
  have : j < ys.length := by rw [hyl]; exact hj
  simp [this]
 have q0 : DataW.trod enc Try.prog w base spare held n 72 ((cs.drop 0).take 4) = ys[0]? := fld_of hF (j := 0) rfl rfl rfl co_72;have q1 : DataW.trod enc Try.prog w base spare held n 73 ((cs.drop 4).take 16) = ys[1]? := fld_of hF (j := 1) rfl rfl rfl co_73;have q2 : DataW.trod enc Try.prog w base spare held n 73 ((cs.drop 20).take 16) = ys[2]? := fld_of hF (j := 2) rfl rfl rfl co_73;have q3 : DataW.trod enc Try.prog w base spare held n 74 ((cs.drop 36).take 2) = ys[3]? := fld_of hF (j := 3) rfl rfl rfl co_74;have q4 : DataW.trod enc Try.prog w base spare held n 75 ((cs.drop 38).take 1) = ys[4]? := fld_of hF (j := 4) rfl rfl rfl co_75;have q5 : DataW.trod enc Try.prog w base spare held n 76 ((cs.drop 39).take 1) = ys[5]? := fld_of hF (j := 5) rfl rfl rfl co_76;rw [hy _ (by omega)] at q0 q1 q2 q3 q4 q5
 have hb : ∀ j, j < 38 → ∃ z, cs[j]? = some (.int .u8 z) ∧ byte z := fun j hj => by
  rcases (by omega : j < 4 ∨ (4 ≤ j ∧ j < 20) ∨ (20 ≤ j ∧ j < 36) ∨ 36 ≤ j) with h0 | h0 | h0 | h0
  ·obtain ⟨z, hz, b⟩ := (arr_u8 Try.underlying72 co_72 q0).2 j h0
   rw [List.getElem?_take, if_pos h0, List.getElem?_drop, Nat.zero_add] at hz
   exact ⟨z, hz, b⟩
  ·obtain ⟨z, hz, b⟩ := arr_arr q1 (j - 4) (by omega)
   rw [List.getElem?_take, if_pos (by omega), List.getElem?_drop, show 4 + (j - 4) = j by omega] at hz
   exact ⟨z, hz, b⟩
  ·obtain ⟨z, hz, b⟩ := arr_arr q2 (j - 20) (by omega)
   rw [List.getElem?_take, if_pos (by omega), List.getElem?_drop, show 20 + (j - 20) = j by omega] at hz
   exact ⟨z, hz, b⟩
  ·obtain ⟨z, hz, b⟩ := (arr_u8 Try.underlying74 co_74 q3).2 (j - 36) (by omega)
   rw [List.getElem?_take, if_pos (by omega), List.getElem?_drop, show 36 + (j - 36) = j by omega] at hz
   exact ⟨z, hz, b⟩
 have e38 : (cs.drop 38).take 1 = [cs.getD 38 undef] := by rw [List.drop_eq_getElem_cons (by omega), getD_in (by omega)]; rfl
 have e39 : (cs.drop 39).take 1 = [cs.getD 39 undef] := by rw [List.drop_eq_getElem_cons (by omega), getD_in (by omega)]; rfl
 rw [e38] at q4;rw [e39] at q5;obtain ⟨ks, k1, k2, k3⟩ := rd_k3s q4;obtain ⟨es, e1, e2, e3⟩ := rd_e2s q5
 let b : Nat → Int := fun j => if h : j < 38 then Classical.choose (hb j h) else 0
 have hbs : ∀ j, j < 38 → cs[j]? = some (.int .u8 (b j)) ∧ byte (b j) := fun j hj => by
  have := Classical.choose_spec (hb j hj)
  simp only [b, dif_pos hj]
  exact this
 have hc : cs = smC b (cs.getD 38 undef) (cs.getD 39 undef) := by
  apply List.ext_getElem?
  intro j
  rcases (by omega : j < 38 ∨ j = 38 ∨ j = 39 ∨ 40 ≤ j) with h0 | h0 | h0 | h0
  ·rw [(hbs j h0).1, smC_at _ _ _ h0]
  ·subst h0
   rw [smC_k, List.getElem?_eq_getElem (by omega), getD_in (by omega)]
  ·subst h0
   rw [smC_e, List.getElem?_eq_getElem (by omega), getD_in (by omega)]
  ·rw [List.getElem?_eq_none (by omega), List.getElem?_eq_none (by rw [smC_len]; omega)]
 refine ⟨⟨b, ks, es⟩, _, _, ?_, ⟨fun j hj => (hbs j hj).2, k2, e2⟩, k1, e1, k3, e3⟩
 show v = .agg (smC b (cs.getD 38 undef) (cs.getD 39 undef)).toArray
 rw [← hc]
 cases v with
 | agg a =>
  have : a = cs.toArray := by
   rw [← hcs]
   simp [Value.cells]
  rw [this]
 | _ =>
  exfalso
  rw [← hcs] at hlen
  simp [Value.cells] at hlen
end
end Go.Proofs.Ytdkedhcbdbpccaa
namespace Go.Proofs.Ytdkedhcbdbpccaa
open Go Go.ChangeShapes Go.WideShapes Go.Deep Go.RowKit Go.Joins
section
variable {H : Type} {enc : TypeId × Value → H} {w : World} {base : Nat} {spare : Nat → Bool} {held : Bool}
theorem co_112 : Try.prog.cellsOf 112 = 3 := by kernel_rfl
theorem cells_len_112 {fuel : Nat} {v : Value} {x : DataW H × List MemPlace} (h : DataW.trod enc Try.prog w base spare held fuel 112 v.cells.toList = some x) : v.cells.toList.length = 3 := by
 obtain ⟨_, _, _, _, hlen, _, _⟩ := DataW.trod_struct Try.underlying112 h;rw [hlen]
 exact co_112
theorem co5_l2 : Try.prog.cellsOf 76 = 1 := by kernel_rfl
theorem co5_al2 : Try.prog.cellsOf 110 = 2 := by kernel_rfl
theorem co5_u8 : Try.prog.cellsOf 5 = 1 := by kernel_rfl
theorem co5_lu8 : Try.prog.cellsOf 79 = 1 := by kernel_rfl
theorem agg_of {v : Value} {cs : List Value} (h : v.cells.toList = cs) (hn : 2 ≤ cs.length) : v = .agg cs.toArray := by
 cases v with
 | agg z =>
  have : z = cs.toArray := by
   rw [← h]
   simp [Value.cells]
  rw [this]
 | _ =>
  exfalso
  rw [← h] at hn
  simp [Value.cells] at hn
theorem three_list : ∀ {cs : List Value}, cs.length = 3 → ∃ a b c, cs = [a, b, c]
 | [a, b, c], _ => ⟨a, b, c, rfl⟩
theorem two_l2_of {v : Value} {d : DataW H} {p : List MemPlace} (h : DataW.Trod enc Try.prog w base spare held 110 v d p) : ∃ (oth : Nat → List (Int × Int)) (vo : Nat → Value), v = .agg #[vo 0, vo 1] ∧ ∀ i, i < 2 → Rd w w.heap.size 2 (vo i) (oth i).length (e2s (oth i)) ∧ ∀ p ∈ oth i, byte p.1 ∧ byte p.2 := by
 obtain ⟨fuel, hf⟩ := h;obtain ⟨xs, m, _, _, hl, hx, hi⟩ := DataW.trod_array Try.underlying110 hf
 generalize hcs : v.cells.toList = cs at hl hi
 rw [co5_al2] at hl;rw [co5_l2] at hi;have hl2 : cs.length = 2 := hl;have hg : ∀ i, i < 2 → ∃ l : List (Int × Int), Rd w w.heap.size 2 (cs.getD i undef) l.length (e2s l) ∧ ∀ p ∈ l, byte p.1 ∧ byte p.2 := fun i hi2 => by
  have h1 := hi i hi2;rw [Nat.mul_one] at h1;have hlt : i < cs.length := by omega
  have e : (cs.drop i).take 1 = [cs.getD i undef] := by rw [List.drop_eq_getElem_cons hlt, getD_in hlt]; rfl
  rw [e, List.getElem?_eq_getElem (by omega)] at h1
  obtain ⟨l, h2, h3, _⟩ := rd_e2s h1
  exact ⟨l, h2, h3⟩
 refine ⟨fun i => if hi : i < 2 then Classical.choose (hg i hi) else [], fun i => cs.getD i undef, ?_, fun i hi2 => ?_⟩
 ·rw [agg_of hcs (by omega)]
  match cs, hl2 with
  | [a, b], _ => rfl
 ·simp only [dif_pos hi2]
  exact Classical.choose_spec (hg i hi2)
theorem other_of {v : Value} {d : DataW H} {p : List MemPlace} (h : DataW.Trod enc Try.prog w base spare held 112 v d p) : ∃ (ta : Int) (td : List Int) (ys : List (Int × Int)) (vtd vys : Value), v = .agg #[.int .u8 ta, vtd, vys] ∧ byte ta ∧ Rd w w.heap.size 1 vtd td.length (u8s td) ∧ (∀ i, i < td.length → byte (td.getD i 0)) ∧ Rd w w.heap.size 2 vys ys.length (e2s ys) ∧ ∀ p ∈ ys, byte p.1 ∧ byte p.2 := by
 obtain ⟨fuel, hf⟩ := h;have hlen := cells_len_112 hf;obtain ⟨ys, n, _, _, _, hyl, hF⟩ := DataW.trod_struct Try.underlying112 hf
 generalize hcs : v.cells.toList = cs at hF hlen
 have hy : ∀ j, j < 3 → ys[j]? = some (ys.getD j (.nil, [])) := fun j hj => by
  have : j < ys.length := by rw [hyl]; exact hj
  simp [this]
 have q0 : DataW.trod enc Try.prog w base spare held n 5 ((cs.drop 0).take 1) = ys[0]? := fld_of hF (j := 0) rfl rfl rfl co5_u8;have q1 : DataW.trod enc Try.prog w base spare held n 79 ((cs.drop 1).take 1) = ys[1]? := fld_of hF (j := 1) rfl rfl rfl co5_lu8;have q2 : DataW.trod enc Try.prog w base spare held n 76 ((cs.drop 2).take 1) = ys[2]? := fld_of hF (j := 2) rfl rfl rfl co5_l2;rw [hy _ (by omega)] at q0 q1 q2
 obtain ⟨a, b, c, rfl⟩ := three_list hlen;obtain ⟨z, hz, hb⟩ := byte_of q0;obtain ⟨l, h1, h2, _⟩ := rd_u8s q1;obtain ⟨m, h3, h4, _⟩ := rd_e2s q2;refine ⟨z, l, m, b, c, ?_, hb, h1, h2, h3, h4⟩;rw [agg_of hcs (by simp), hz]
end
end Go.Proofs.Ytdkedhcbdbpccaa
namespace Go.Proofs.Ytdkedhcbdbpccaa
open Go Go.RowKit
theorem all_range4 {f : Nat → Int} {p : Int → Bool} (h : ∀ k, k < 4 → p (f k) = true) : ((List.range 4).map f).all p = true := by
 simp only [List.all_map, List.all_eq_true, List.mem_range]
 exact h
/-- small rules are valid -/
theorem sm_rules {x : Sml} (hok : SmlOk x) : rulesB (smRules x) = true := by
 have b36 := hok.b 36 (by omega)
 have b37 := hok.b 37 (by omega)
 have m1 := byte_rem (byte_min b36 b37) (m := 40) (by omega)
 have m2 := byte_rem (byte_max b36 b37) (m := 20) (by omega)
 unfold rulesB
 simp only [Bool.and_eq_true]
 refine ⟨rfl, ?_, ?_, ?_, ?_, ?_, ?_⟩
 ·exact all_range4 fun k hk => inB_iff.2 (by have := hok.b k (by omega); unfold byte at this; omega)
 ·refine bdB_iff.2 ?_
  simp only [smRules]
  omega
 ·unfold sqB
  simp only [Bool.and_eq_true, decide_eq_true_eq]
  refine ⟨rfl, ?_⟩
  simp only [smRules, List.all_map, List.all_eq_true, List.mem_range]
  intro r hr
  simp only [Function.comp, Bool.and_eq_true, decide_eq_true_eq]
  exact ⟨rfl, all_range4 fun k hk => inB_iff.2 (by have := hok.b (4 + 4 * r + k) (by omega); unfold byte at this; omega)⟩
 ·unfold sqB
  simp only [Bool.and_eq_true, decide_eq_true_eq]
  refine ⟨rfl, ?_⟩
  simp only [smRules, List.all_map, List.all_eq_true, List.mem_range]
  intro r hr
  simp only [Function.comp, Bool.and_eq_true, decide_eq_true_eq]
  exact ⟨rfl, all_range4 fun k hk => inB_iff.2 (by have := byte_rem (hok.b (20 + 4 * r + k) (by omega)) (m := 3) (by omega); omega)⟩
 ·simp only [decide_eq_true_eq, smRules, List.length_map, List.length_take]
  omega
 ·simp only [smRules, List.all_map, List.all_eq_true]
  intro p hp;obtain ⟨h1, h2, h3⟩ := hok.k p (List.mem_of_mem_take hp);have h4 := byte_rem h2 (m := 40) (by omega)
  unfold byte at h1 h2 h3
  simp only [Function.comp, smKd, kdB, Bool.and_eq_true, bdB_iff, inB_iff]
  omega
theorem sm_hist {x : Sml} (hok : SmlOk x) : (smHist (smRules x).kinds.length x.events).length ≤ 30 ∧ (smHist (smRules x).kinds.length x.events).all (evB (smRules x)) = true := by
 refine ⟨by simp only [smHist, List.length_map, List.length_take]; omega, ?_⟩
 simp only [smHist, List.all_map, List.all_eq_true]
 intro p hp;obtain ⟨h1, h2⟩ := hok.e p (List.mem_of_mem_take hp)
 simp only [Function.comp, smEv]
 split
 ·rename_i h
  have h3 := byte_rem h2 (m := ((smRules x).kinds.length : Int)) (by omega)
  simp only [evB, Bool.or_eq_true, Bool.and_eq_true, decide_eq_true_eq, inB_iff]
  exact .inr ⟨trivial, h3.1, by have := h3.2; omega⟩
 ·have h3 := byte_rem h2 (m := 4) (by omega)
  have h4 : (smRules x).levels.length = 4 := rfl
  simp only [evB, Bool.or_eq_true, Bool.and_eq_true, decide_eq_true_eq, inB_iff, h4]
  exact .inl ⟨trivial, h3.1, by have := h3.2; omega⟩
theorem sm_ref {x : Sml} (hok : SmlOk x) : refE (smRules x) (smHist (smRules x).kinds.length x.events) = 0 := by
 have h := sm_hist hok;rw [refE, if_pos (sm_rules hok), histE, if_neg (by omega), if_pos h.2]
theorem sm_short {x : Sml} (hok : SmlOk x) : Short (smRules x) := by
 have h := (rules_ok (sm_rules hok))
 exact ⟨by have := h.n8; omega, by have := h.al; have := h.n8; omega, by have := h.pl; have := h.n8; omega, by have := h.k4; omega⟩
structure TruthAt (i : Nat) (way : Nat) (t : List Tr) (tr af : List Int) : Prop where
 len : t.length = 8
 lt : tr.length = 4
 la : af.length = 4
 lo : ∀ k, k < 4 → (t.getD k tr0).lo ≤ tr.getD k 0
 hi : ∀ k, k < 4 → tr.getD k 0 ≤ (t.getD k tr0).hi
 w0 : way = 0 → ∀ k, k < 4 → tr.getD k 0 = (t.getD k tr0).hi
 w1 : way = 1 → ∀ k, k < 4 → tr.getD k 0 = (t.getD k tr0).lo
 ca : ∀ k, k < 4 → ((t.getD k tr0).carried = true ↔ 0 ≤ af.getD k 0)
 aft : ∀ k, k < 4 → 0 ≤ af.getD k 0 → (t.getD k tr0).after = min (af.getD k 0) 10
 ab : ∀ k, k < 4 → -1 ≤ af.getD k 0 ∧ af.getD k 0 ≤ i
/-- of one cargo -/
structure TruthK (i : Nat) (way : Nat) (t : Tr) (tv av : Int) : Prop where
 lo : t.lo ≤ tv
 hi : tv ≤ t.hi
 w0 : way = 0 → tv = t.hi
 w1 : way = 1 → tv = t.lo
 ca : t.carried = true ↔ 0 ≤ av
 aft : 0 ≤ av → t.after = min av 10
 a0 : -1 ≤ av
 a1 : av ≤ i
/-- what the law's step makes of a truth -/
structure TruthStep (r : Rules) (x : Ev) (n : Int) (tr af tr' af' : List Int) : Prop where
 lt : tr'.length = 4
 la : af'.length = 4
 tr : ∀ k, k < 4 → tr'.getD k 0 = if x.kind = 1 ∧ (k : Int) = x.number then r.levels.getD k 0 else max 0 (tr.getD k 0 - n)
 af : ∀ k, k < 4 → af'.getD k 0 = if x.kind = 1 then (if (k : Int) = x.number then 0 else if 0 ≤ af.getD k 0 then af.getD k 0 + 1 else af.getD k 0) else af.getD k 0
section
variable {P : Program} {n : Nat} {σ : Sg} {w : World} {Q : Exit → Act → World → Prop} {L : List Oper}
/-- when some of the head have come up -/
structure HInvI (n : Nat) (L : List Oper) (cls : List (List Nat)) (m : Nat) (alc : List Nat) (σ : Sg) (w : World) (Φ : Nat → (Nat → Value) → World → Prop) (Θ : Nat → Value → Nat → Nat → World → Prop) (D : Array Bool) (val : Nat → Value) (a : Act) (w' : World) : Prop where
 below : Below w.heap.size w w'
 size : a.tmps.size = n
 defers : a.defers = []
 new : ∀ i d, i < m → D.getD i false = true → dstOf L i = some d → a.tmps[d]? = some (val i)
 old : ∀ t v, σ t = some v → (∀ k, k < m → D.getD k false = true → dstOf L k ≠ some t) → a.tmps[t]? = some v
 says : ∀ i, i < m → D.getD i false = true → Φ i (res val i (clsAt cls i)) w'
 down : ∀ i, D.getD i false = true → ∀ j ∈ clsAt cls i, D.getD j false = true
 alc1 : ∀ i ∈ alc, i < m → D.getD i false = true → ∃ lo hi, Θ i (val i) lo hi w' ∧ w.heap.size ≤ lo ∧ hi ≤ w'.heap.size
 alc2 : ∀ i ∈ alc, ∀ j ∈ alc, i < m → j < m → D.getD i false = true → D.getD j false = true → i ≠ j → ∃ lo hi lo' hi', Θ i (val i) lo hi w' ∧ Θ j (val j) lo' hi' w' ∧ w.heap.size ≤ lo ∧ w.heap.size ≤ lo' ∧ (hi ≤ lo' ∨ hi' ≤ lo)
 high : ∀ i, m ≤ i → D.getD i false = false
end
section
variable {P : Program} {n : Nat} {σ : Sg} {w : World} {L : List Oper} {cls : List (List Nat)} {alc : List Nat} {val : Nat → Value} {a : Act} {w1 : World} {i m : Nat} {Q : Exit → Act → World → Prop} {Φ : Nat → (Nat → Value) → World → Prop} {Θ : Nat → Value → Nat → Nat → World → Prop}
end
section
variable {n : Nat} {σ : Sg} {w : World} {dst : Option Tmp} {ty : TypeId} {pos : String} {af : Array Edge} {g : Option (Nat × Bool)} {x y z : Operand} {at' : Array TypeId}
theorem sz_78 : (Try.prog.info? 78).map (·.size) = some 40 := by kernel_rfl
theorem cF29 : cF 29 := fun _ _ => by simp [go_sem]
theorem cF30 : cF 30 := fun _ _ => by simp [go_sem]
end
/-- rows that were made one after another -/
def Inc (us : List Value) : Prop := ∀ i j, i < j → j < us.length → ∀ b c, (us.getD i undef).ownBlock = some b → (us.getD j undef).ownBlock = some c → b < c
theorem Inc.nil : Inc [] := fun i j _ h => absurd h (by simp)
theorem Inc.push {us : List Value} {u : Value} {N : Nat} (h : Inc us) (h1 : ∀ i b, i < us.length → (us.getD i undef).ownBlock = some b → b < N) (h2 : ∀ b, u.ownBlock = some b → N ≤ b) : Inc (us ++ [u]) := fun i j hij hj b c hb hc => by
 rw [List.length_append, List.length_singleton] at hj;have hi : i < us.length := by omega
 rw [List.getD_eq_getElem?_getD, List.getElem?_append_left hi, ← List.getD_eq_getElem?_getD] at hb
 by_cases e : j < us.length
 ·rw [List.getD_eq_getElem?_getD, List.getElem?_append_left e, ← List.getD_eq_getElem?_getD] at hc
  exact h i j hij e b c hb hc
 ·obtain rfl : j = us.length := by omega
  have e2 : (us ++ [u]).getD us.length undef = u := by simp
  rw [e2] at hc
  exact Nat.lt_of_lt_of_le (h1 i b hi hb) (h2 c hc)
def OwnIv (ls : List (List Int)) (v : Value) (lo hi : Nat) (w : World) : Prop := ∃ us, OwnLL w lo hi v ls us ∧ Inc us
theorem OwnIv.below {ls : List (List Int)} {v : Value} {lo hi : Nat} {w w' : World} (h : OwnIv ls v lo hi w) (hb : Below w.heap.size w w') : OwnIv ls v lo hi w' := let ⟨us, h1, h2⟩ := h
 ⟨us, h1.below hb, h2⟩
/-- rules of one's own, all of whose rows are apart -/
structure OwnR (W : World) (base : Nat) (vl va vp vk : Value) (ru : Rules) (ua up : List Value) : Prop where
 lev : W.ownsRow base 3 1 vl ru.levels.length (ints ru.levels)
 kin : W.ownsRow base 52 5 vk ru.kinds.length (kdsC ru.kinds)
 al : OwnLL W base W.heap.size va ru.allow ua
 ap : OwnLL W base W.heap.size vp ru.apart up
 ia : Inc ua
 ip : Inc up
 la : ∀ i b, i < ru.allow.length → vl.ownBlock = some b → (ua.getD i undef).ownBlock ≠ some b
 lp : ∀ i b, i < ru.apart.length → vl.ownBlock = some b → (up.getD i undef).ownBlock ≠ some b
 ab : ∀ i j b, i < ru.allow.length → j < ru.apart.length → (ua.getD i undef).ownBlock = some b → (up.getD j undef).ownBlock ≠ some b
theorem OwnR.mk' {W : World} {base lo2 hi2 lo3 hi3 : Nat} {vl va vp vk : Value} {ru : Rules} {ua up : List Value} (h1 : W.ownsRow base 3 1 vl ru.levels.length (ints ru.levels)) (h4 : W.ownsRow base 52 5 vk ru.kinds.length (kdsC ru.kinds)) (h2 : OwnLL W lo2 hi2 va ru.allow ua) (h3 : OwnLL W lo3 hi3 vp ru.apart up) (ha : Inc ua) (hp : Inc up) (hl2 : ∀ b, vl.ownBlock = some b → b < lo2) (hl3 : ∀ b, vl.ownBlock = some b → b < lo3) (hd : hi2 ≤ lo3 ∨ hi3 ≤ lo2) (hb2 : base ≤ lo2) (hb3 : base ≤ lo3) : OwnR W base vl va vp vk ru ua up := by
 have q2 : OwnLL W base W.heap.size va ru.allow ua := ⟨h2.len, own_less h2.own hb2, fun i hi => own_less (h2.rows i hi) hb2, fun b hb => (h2.own.lt b hb).2, fun i b hi hb => ((h2.rows i hi).lt b hb).2⟩
 have q3 : OwnLL W base W.heap.size vp ru.apart up := ⟨h3.len, own_less h3.own hb3, fun i hi => own_less (h3.rows i hi) hb3, fun b hb => (h3.own.lt b hb).2, fun i b hi hb => ((h3.rows i hi).lt b hb).2⟩
 refine ⟨h1, h4, q2, q3, ha, hp, fun i b hi hb hc => ?_, fun i b hi hb hc => ?_, fun i j b hi hj hb hc => ?_⟩
 ·have e1 := hl2 b hb
  have e2 := ((h2.rows i hi).lt b hc).1
  omega
 ·have e1 := hl3 b hb
  have e2 := ((h3.rows i hi).lt b hc).1
  omega
 ·have e1 := ((h2.rows i hi).lt b hb).1
  have e2 := h2.ltr i b hi hb;have e3 := ((h3.rows j hj).lt b hc).1;have e4 := h3.ltr j b hj hc
  omega
structure Better (r b : Rules) : Prop where
 lev : b.levels = r.levels
 fade : b.fade = r.fade
 kl : b.kinds.length = r.kinds.length
 klo : ∀ k, (r.kinds.getD k kd0).power.lo ≤ (b.kinds.getD k kd0).power.lo
 khi : ∀ k, (r.kinds.getD k kd0).power.hi ≤ (b.kinds.getD k kd0).power.hi
 kc : ∀ k, (b.kinds.getD k kd0).cost = (r.kinds.getD k kd0).cost
 al : ∀ x y, allowAt r x y ≤ allowAt b x y
 ap : ∀ x y, apartAt b x y ≤ apartAt r x y
/-- tank u is no less clean than tank t -/
structure LeT (t u : List Tr) : Prop where
 len : u.length = t.length
 lo : ∀ k, (u.getD k tr0).lo ≤ (t.getD k tr0).lo
 hi : ∀ k, (u.getD k tr0).hi ≤ (t.getD k tr0).hi
 ca : ∀ k, (u.getD k tr0).carried = (t.getD k tr0).carried
 aft : ∀ k, (u.getD k tr0).after = (t.getD k tr0).after
theorem LeT.refl (t : List Tr) : LeT t t := ⟨rfl, fun _ => Int.le_refl _, fun _ => Int.le_refl _, fun _ => rfl, fun _ => rfl⟩
theorem mapT (f : Tr → Tr) (t : List Tr) (k : Nat) : (t.map f).getD k tr0 = if k < t.length then f (t.getD k tr0) else tr0 := by
 split
 ·rename_i h
  exact map_getD h
 ·rw [List.getD_eq_getElem?_getD, List.getElem?_eq_none (by rw [List.length_map]; omega)]
  rfl
theorem setD {α : Type} (l : List α) (c : Nat) (x d : α) (k : Nat) : (l.set c x).getD k d = if k = c ∧ c < l.length then x else l.getD k d := by
 by_cases e : k = c
 ·subst e
  by_cases h : k < l.length
  ·rw [if_pos ⟨rfl, h⟩, List.getD_eq_getElem?_getD, List.getElem?_set_self h]
   rfl
  ·rw [if_neg (fun q => h q.2), List.set_eq_of_length_le (by omega)]
 ·rw [if_neg (fun q => e q.1), List.getD_eq_getElem?_getD, List.getElem?_set_ne (fun q => e q.symm), ← List.getD_eq_getElem?_getD]
theorem LeT.map {f g : Tr → Tr} {t u : List Tr} (h : LeT t u) (hf : ∀ x y : Tr, y.lo ≤ x.lo → y.hi ≤ x.hi → y.carried = x.carried → y.after = x.after → (g y).lo ≤ (f x).lo ∧ (g y).hi ≤ (f x).hi ∧ (g y).carried = (f x).carried ∧ (g y).after = (f x).after) : LeT (t.map f) (u.map g) := by
 have key : ∀ k, ((u.map g).getD k tr0).lo ≤ ((t.map f).getD k tr0).lo ∧ ((u.map g).getD k tr0).hi ≤ ((t.map f).getD k tr0).hi ∧ ((u.map g).getD k tr0).carried = ((t.map f).getD k tr0).carried ∧ ((u.map g).getD k tr0).after = ((t.map f).getD k tr0).after := fun k => by
  rw [mapT, mapT, h.len]
  split
  ·exact hf _ _ (h.lo k) (h.hi k) (h.ca k) (h.aft k)
  ·exact ⟨Int.le_refl _, Int.le_refl _, rfl, rfl⟩
 exact ⟨by rw [List.length_map, List.length_map, h.len], fun k => (key k).1, fun k => (key k).2.1, fun k => (key k).2.2.1, fun k => (key k).2.2.2⟩
theorem LeT.set {t u : List Tr} (h : LeT t u) (c : Nat) (x : Tr) : LeT (t.set c x) (u.set c x) := by
 have key : ∀ k, (((t.set c x).getD k tr0 = t.getD k tr0 ∧ (u.set c x).getD k tr0 = u.getD k tr0) ∨ ((t.set c x).getD k tr0 = x ∧ (u.set c x).getD k tr0 = x)) := fun k => by
  rw [setD, setD, h.len]
  split
  ·exact .inr ⟨rfl, rfl⟩
  ·exact .inl ⟨rfl, rfl⟩
 refine ⟨by rw [List.length_set, List.length_set, h.len], fun k => ?_, fun k => ?_, fun k => ?_, fun k => ?_⟩
 ·rcases key k with ⟨e1, e2⟩ | ⟨e1, e2⟩
  ·rw [e1, e2]; exact h.lo k
  ·rw [e1, e2]; exact Int.le_refl _
 ·rcases key k with ⟨e1, e2⟩ | ⟨e1, e2⟩
  ·rw [e1, e2]; exact h.hi k
  ·rw [e1, e2]; exact Int.le_refl _
 ·rcases key k with ⟨e1, e2⟩ | ⟨e1, e2⟩
  ·rw [e1, e2]; exact h.ca k
  ·rw [e1, e2]
 ·rcases key k with ⟨e1, e2⟩ | ⟨e1, e2⟩
  ·rw [e1, e2]; exact h.aft k
  ·rw [e1, e2]
section
variable {r b : Rules} {t u : List Tr}
theorem LeT.wash (hb : Better r b) (h : LeT t u) (k : Nat) : LeT (washT r t k) (washT b u k) := by
 have e1 := hb.klo k;have e2 := hb.khi k
 unfold washT
 exact h.map fun x y h1 h2 h3 h4 => ⟨by simp only [redT]; omega, by simp only [redT]; omega, h3, h4⟩
theorem LeT.load (hb : Better r b) (h : LeT t u) (c : Nat) : LeT (loadT r t c) (loadT b u c) := by
 unfold loadT
 rw [hb.lev];refine LeT.set ?_ _ _
 exact h.map fun x y h1 h2 h3 h4 => ⟨by simp only [fadeT, hb.fade]; omega, by simp only [fadeT, hb.fade]; omega, h3, by simp only [fadeT]; rw [h4]⟩
theorem LeT.step (hb : Better r b) (h : LeT t u) (x : Ev) : LeT (stepT r t x) (stepT b u x) := by
 unfold stepT
 split
 ·exact h.wash hb _
 ·exact h.load hb _
end
structure LeS (s u : List (List Tr)) : Prop where
 len : u.length = s.length
 at_ : ∀ i, LeT (s.getD i []) (u.getD i [])
theorem LeS.set {s u : List (List Tr)} (h : LeS s u) (i : Nat) {x y : List Tr} (hx : LeT x y) : LeS (s.set i x) (u.set i y) := by
 refine ⟨by rw [List.length_set, List.length_set, h.len], fun j => ?_⟩
 rw [setD, setD, h.len]
 split
 ·exact hx
 ·exact h.at_ j
theorem LeT.way {r b : Rules} {t u : List Tr} (hb : Better r b) (h : LeT t u) (k : Int) : LeT (wayT r t k) (wayT b u k) := by
 unfold wayT
 split
 ·exact h
 ·exact h.wash hb _
theorem cmpP_washes {p q : Pl} (h : cmpP p q ≤ 0) : p.washes ≤ q.washes := by
 unfold cmpP at h
 by_cases e : q.washes < p.washes
 ·have : c3 p.washes q.washes = 1 := by unfold c3; rw [if_neg (by omega), if_pos e]
  rw [this, or3, if_neg (by decide)] at h
  exact absurd h (by decide)
 ·omega
/-! ### Audits -/
structure Cov (A B : List Br) : Prop where
 len : A.length ≤ B.length
 mem : ∀ x ∈ A, ∃ y ∈ B, y.event = x.event ∧ y.cargo = x.cargo ∧ (x.sure = true → y.sure = true)
theorem Cov.nil (B : List Br) : Cov [] B := ⟨Nat.zero_le _, fun x hx => absurd hx List.not_mem_nil⟩
theorem Cov.append {A B C D : List Br} (h : Cov A B) (k : Cov C D) : Cov (A ++ C) (B ++ D) := by
 refine ⟨?_, fun x hx => ?_⟩
 ·have := h.len
  have := k.len;rw [List.length_append, List.length_append]
  omega
 ·rcases List.mem_append.1 hx with hx | hx
  ·obtain ⟨y, hy, q⟩ := h.mem x hx
   exact ⟨y, List.mem_append.2 (.inl hy), q⟩
  ·obtain ⟨y, hy, q⟩ := k.mem x hx
   exact ⟨y, List.mem_append.2 (.inr hy), q⟩
/-! ### Rules of one's own that are changed -/
theorem kept_ne {W W' : World} {base e z n : Nat} {u : Value} {xs : List Value} {row : Option Nat} (h : W.ownsRow base e z u n xs) (hg : W.grownBy W' row) (hn : ∀ b, u.ownBlock = some b → row ≠ some b) : W'.ownsRow base e z u n xs := h.kept hg (by
 cases e : u.ownBlock with
 | none => exact .inl rfl
 | some b => exact .inr fun e2 => hn b e e2.symm)
section
variable {W W' : World} {base : Nat} {vl va vp vk : Value} {ru : Rules} {ua up : List Value}
theorem OwnR.rd (h : OwnR W base vl va vp vk ru ua up) : RdRules W W.heap.size vl va vp vk ru ua up := ⟨Rd.of_own h.lev, h.al.rd, h.ap.rd, Rd.of_own h.kin⟩
theorem OwnR.below (h : OwnR W base vl va vp vk ru ua up) (hb : Below W.heap.size W W') : OwnR W' base vl va vp vk ru ua up := ⟨own_below h.lev hb (Nat.le_refl _), own_below h.kin hb (Nat.le_refl _), (h.al.below hb).raise, (h.ap.below hb).raise, h.ia, h.ip, h.la, h.lp, h.ab⟩
theorem OwnR.box {g T : Nat} {cs : Array Value} (h : OwnR W base vl va vp vk ru ua up) (hq : Blk W g T cs) (h1 : Nat.beq T 22 = false) (h2 : Nat.beq T 3 = false) (h3 : Nat.beq T 52 = false) (hg : W.grownBy W' (some g)) : OwnR W' base vl va vp vk ru ua up :=
 ⟨own_type h.lev hq h2 hg, own_type h.kin hq h3 hg, (h.al.box hq h1 h2 hg).raise, (h.ap.box hq h1 h2 hg).raise, h.ia, h.ip, h.la, h.lp, h.ab⟩
theorem inc_ne {us : List Value} (h : Inc us) {i j : Nat} (hi : i < us.length) (hj : j < us.length) (hn : i ≠ j) {b : Nat} (hb : (us.getD i undef).ownBlock = some b) : (us.getD j undef).ownBlock ≠ some b := fun hc => by
 rcases Nat.lt_or_gt_of_ne hn with h1 | h1
 ·have := h i j h1 hj b b hb hc
  omega
 ·have := h j i h1 hi b b hc hb
  omega
/-- a row of one of the tables is changed -/
theorem OwnLL.setRow {v : Value} {ls : List (List Int)} {us : List Value} {C i : Nat} {row : List Int} (h : OwnLL W base C v ls us) (hinc : Inc us) (hi : i < ls.length) (hl : row.length = (ls.getD i []).length) (ho : W'.ownsRow base 3 1 (us.getD i undef) row.length (ints row)) (hg : W.grownBy W' (us.getD i undef).ownBlock) : OwnLL W' base W'.heap.size v (ls.set i row) us := by
 have hr : ∀ j, j < (ls.set i row).length → W'.ownsRow base 3 1 (us.getD j undef) ((ls.set i row).getD j []).length (ints ((ls.set i row).getD j [])) := fun j hj => by
  rw [List.length_set] at hj;rw [setD]
  split
  ·rename_i e
   rw [e.1]
   exact ho
  ·rename_i e
   have hne : i ≠ j := fun q => e ⟨q.symm, hi⟩
   exact kept_ne (h.rows j hj) hg fun b hb hc => inc_ne hinc (by rw [h.len]; exact hi) (by rw [h.len]; exact hj) hne hc hb
 have hv : W'.ownsRow base 22 1 v ls.length us := own_grown h.own (h.rows i hi) rfl hg
 exact ⟨by rw [List.length_set]; exact h.len, by rw [List.length_set]; exact hv, hr, fun b hb => (hv.lt b hb).2, fun j b hj hb => ((hr j hj).lt b hb).2⟩
end
theorem own_shapeZ {W : World} {base e z n : Nat} {u : Value} {xs : List Value} (h : W.ownsRow base e z u n xs) (h0 : 0 < n) (hz : 0 < z) : ∃ g c, u = .slice (some ⟨g, 0, none⟩) n c ∧ base ≤ g ∧ g < W.heap.size := by
 have hl := h.lt;obtain ⟨_, ⟨_, h2⟩ | ⟨g, cap, cur, h2, _⟩⟩ := h
 ·omega
 ·subst h2
  have := hl g rfl
  exact ⟨g, cap, rfl, this.1, this.2⟩
theorem sm_jobs {ru : Rules} (h4 : ru.levels.length = 4) {td : List Int} (hb : ∀ i, i < td.length → byte (td.getD i 0)) {m : Nat} (hm : m ≤ 10) : (jobsL td m).length ≤ m ∧ jobsE ru (jobsL td m) 10 = 0 := by
 have hl : (jobsL td m).length ≤ m := by simp [jobsL]; omega
 refine ⟨hl, ?_⟩
 unfold jobsE
 rw [if_neg (by omega), if_pos]
 simp only [jobsL, List.all_map, List.all_eq_true]
 intro x hx;obtain ⟨i, hi, rfl⟩ := List.mem_iff_getElem.1 (List.mem_of_mem_take hx);have h1 := hb i hi;rw [getD_in hi] at h1;have h2 := byte_rem h1 (m := 4) (by omega)
 simp only [Function.comp, inB_iff, h4]
 omega
theorem code_two {ru : Rules} {l : List Ev} {js : List Int} (h1 : refE ru l = 0) (hj : jobsE ru js 10 = 0) : codeS ru l js = 0 ∨ codeS ru l js = 7 := by
 have e : errS ru l js = 0 := by unfold errS; rw [if_pos h1, hj]
 unfold codeS
 rw [if_pos e]
 split
 ·exact .inr rfl
 ·exact .inl rfl
def rt0 : RT := ⟨[], []⟩
structure SimF (ru : Rules) (many : Nat) (s : List (List Tr)) (us : List RT) : Prop where
 n3 : many ≤ s.length
 nu : us.length = many
 at_ : ∀ i, i < many → Sim ru.levels.length (s.getD i []) (us.getD i rt0)
theorem kinds_in {K : Nat} {k : Int} (h : k ∈ kindsL K) : k = -1 ∨ ∃ j : Nat, j < K ∧ k = ((j : Nat) : Int) := by
 unfold kindsL at h
 rcases List.mem_cons.1 h with h | h
 ·exact .inl h
 ·obtain ⟨j, hj, rfl⟩ := List.mem_map.1 h
  exact .inr ⟨j, List.mem_range.1 hj, rfl⟩
section
variable {ru : Rules} {js : List Nat} {s : List (List Tr)} {us : List RT}
end
/-! ### In memory -/
/-- a tank of the document, and where its lists lie -/
abbrev Tk := RT × (Option Addr × Nat) × (Option Addr × Nat)
def rkC (N : Nat) (x : Tk) : List Value := [.slice x.2.1.1 N x.2.1.2, .slice x.2.2.1 N x.2.2.2]
def rksC (N : Nat) (l : List Tk) : List Value := l.flatMap (rkC N)
/-- a row of tanks of one's own -/
structure OwnTs (w : World) (N : Nat) (v : Value) (l : List Tk) : Prop where
 own : w.ownsRow 0 62 2 v l.length (rksC N l)
 res : ∀ x ∈ l, w.ownsRow 0 24 2 (.slice x.2.1.1 N x.2.1.2) N (bdsC x.1.res)
 aft : ∀ x ∈ l, w.ownsRow 0 3 1 (.slice x.2.2.1 N x.2.2.2) N (ints x.1.aft)
section
variable {w w' : World} {N : Nat} {v : Value} {l : List Tk}
theorem OwnTs.below (h : OwnTs w N v l) (hb : Below w.heap.size w w') : OwnTs w' N v l := ⟨own_below h.own hb (Nat.le_refl _), fun x hx => own_below (h.res x hx) hb (Nat.le_refl _), fun x hx => own_below (h.aft x hx) hb (Nat.le_refl _)⟩
theorem OwnTs.type {g T : Nat} {cs : Array Value} (h : OwnTs w N v l) (hq : Blk w g T cs) (h1 : Nat.beq T 62 = false) (h2 : Nat.beq T 24 = false) (h3 : Nat.beq T 3 = false) (hg : w.grownBy w' (some g)) : OwnTs w' N v l :=
 ⟨own_type h.own hq h1 hg, fun x hx => own_type (h.res x hx) hq h2 hg, fun x hx => own_type (h.aft x hx) hq h3 hg⟩
end
def bp (b : Option Pl × Nat) : Pl := b.1.getD pl0
section
variable {ru : Rules} {us : List RT} {c : Nat} {rem : List Nat} {p : Pl} {a : Option Pl × Nat} {i kk : Nat}
end
theorem RtOk.more {n k k' : Nat} {t : RT} (h : RtOk n k t) (hk : k ≤ k') : RtOk n k' t := ⟨h.rl, h.al, h.bd, fun i => by have := h.af i; omega⟩
structure Stp where
 tank : Int
 wash : Int
def stp0 : Stp := ⟨0, 0⟩
def stpC (x : Stp) : List Value := [.int .i64 x.tank, .int .i64 x.wash]
def stpsC (l : List Stp) : List Value := l.flatMap stpC
theorem stpC_len (x : Stp) : (stpC x).length = 2 := rfl
theorem stpsC_len (l : List Stp) : (stpsC l).length = l.length * 2 := flat_len stpC_len l
theorem stpsC_one (l : List Stp) : ∀ u ∈ stpsC l, u.oneCell' = true := flat_one (by intro x u hu; simp [stpC] at hu; rcases hu with rfl | rfl <;> rfl) l
theorem stps_cells (l : List Stp) (k : Nat) (hk : k < l.length) (w : World) (B : Nat) (A : Option Addr) (n c : Nat) (hr : Rd w B 2 (.slice A n c) n (stpsC l)) :
  ∃ b off, A = some ⟨b, off, none⟩ ∧ b < B ∧ w.cell? ⟨b, off + k * 2, none⟩ = some (.int .i64 (l.getD k stp0).tank) ∧ w.cell? ⟨b, off + k * 2 + 1, none⟩ = some (.int .i64 (l.getD k stp0).wash) := by
 have hl : n * 2 = l.length * 2 := by rw [← hr.len, stpsC_len]
 obtain ⟨b, off, rfl, hb, hc⟩ := hr.at_ (by omega)
 have e : l.getD k stp0 = l[k] := by simp [hk]
 rw [e];have g := fun j hj => flat_get stpC_len l k hk j hj
 exact ⟨b, off, rfl, hb, hc (k * 2) _ (g 0 (by omega)), hc (k * 2 + 1) _ (g 1 (by omega))⟩
def toStp (s : St) : Stp := ⟨(s.tank : Nat), s.wash⟩
theorem sts_stps (l : List St) : stsC l = stpsC (l.map toStp) := by
 unfold stsC stpsC
 rw [List.flatMap_map]
 rfl
/-- a step is valid -/
def stB (ru : Rules) (many : Nat) (x : Stp) : Bool := inB 0 ((many : Nat) - 1 : Int) x.tank && inB (-1) ((ru.kinds.length : Nat) - 1 : Int) x.wash
theorem stB_iff {ru : Rules} {many : Nat} {x : Stp} (h : stB ru many x = true) : ∃ n : Nat, x.tank = ((n : Nat) : Int) ∧ n < many ∧ x.wash ∈ kindsL ru.kinds.length := by
 unfold stB at h
 rw [Bool.and_eq_true, inB_iff, inB_iff] at h;refine ⟨x.tank.toNat, by omega, by omega, ?_⟩
 unfold kindsL
 by_cases hk : x.wash = -1
 ·rw [hk]; exact List.mem_cons_self ..
 ·exact List.mem_cons.2 (.inr (List.mem_map.2 ⟨x.wash.toNat, List.mem_range.2 (by omega), by omega⟩))
/-- steps are carried out: the first cargo that must not be carried, or -1; the cleanings and their cost -/
def verG {σ : Type} (go : Nat → σ → Nat → Int → Option σ) (cost : Int → Int) : List Nat → List Stp → Nat → σ → Int → Int → Int × Int × Int
 | c :: js, x :: xs, i, s, wa, co => match go c s x.tank.toNat x.wash with
  | none => (((i : Nat) : Int), 0, 0)
  | some s' => verG go cost js xs (i + 1) s' (wa + numK x.wash) (co + cost x.wash)
 | _, _, _, _, wa, co => (-1, wa, co)
section
variable {σ : Type} {go : Nat → σ → Nat → Int → Option σ} {cost : Int → Int} {js : List Nat} {xs : List Stp} {i : Nat} {s : σ} {wa co : Int}
theorem ver_end (h : js.length ≤ i) : verG go cost (js.drop i) (xs.drop i) i s wa co = (-1, wa, co) := by
 rw [List.drop_of_length_le h];rw [verG]
 simp
theorem ver_no (h1 : i < js.length) (h2 : i < xs.length) (hg : go (js.getD i 0) s (xs.getD i stp0).tank.toNat (xs.getD i stp0).wash = none) : verG go cost (js.drop i) (xs.drop i) i s wa co = (((i : Nat) : Int), 0, 0) := by
 rw [List.drop_eq_getElem_cons h1, List.drop_eq_getElem_cons h2, verG, ← getD_in (d := 0) h1, ← getD_in (d := stp0) h2, hg]
theorem ver_yes (h1 : i < js.length) (h2 : i < xs.length) {s' : σ} (hg : go (js.getD i 0) s (xs.getD i stp0).tank.toNat (xs.getD i stp0).wash = some s') : verG go cost (js.drop i) (xs.drop i) i s wa co = verG go cost (js.drop (i + 1)) (xs.drop (i + 1)) (i + 1) s' (wa + numK (xs.getD i stp0).wash) (co + cost (xs.getD i stp0).wash) := by
 rw [List.drop_eq_getElem_cons h1, List.drop_eq_getElem_cons h2, verG, ← getD_in (d := 0) h1, ← getD_in (d := stp0) h2, hg]
end
def verE (ru : Rules) (tanks : List (List Ev)) (jobs : List Int) (steps : List Stp) : Int :=
 if yardE ru tanks jobs ≠ 0 then yardE ru tanks jobs else if steps.length ≠ jobs.length then 4 else if steps.all (stB ru tanks.length) = true then 0 else 2
def verT (ru : Rules) (tanks : List (List Ev)) (jobs : List Int) (steps : List Stp) : Int × Int × Int :=
 if verE ru tanks jobs steps = 0 then verG (goT ru) (kcost ru) (jobs.map Int.toNat) steps 0 (fillF ru tanks tanks.length) 0 0 else (0, 0, 0)
theorem ver_t {ru : Rules} {tanks : List (List Ev)} {jobs : List Int} {steps : List Stp} {a b c e : Int} (he : verE ru tanks jobs steps = e) (ht : verT ru tanks jobs steps = (a, b, c)) : Ending.returned (.tuple #[.int .i64 a, .int .i64 b, .int .i64 c, .int .i64 e]) = .returned (.tuple #[.int .i64 (verT ru tanks jobs steps).1, .int .i64 (verT ru tanks jobs steps).2.1, .int .i64 (verT ru tanks jobs steps).2.2, .int .i64 (verE ru tanks jobs steps)]) := by rw [he, ht]
theorem set_self {α : Type} {l : List α} {i : Nat} {d : α} (h : i < l.length) : l.set i (l.getD i d) = l := by
 apply List.ext_getElem
 ·simp
 ·intro j h1 h2
  rw [List.getElem_set]
  split
  ·rename_i e; subst e; rw [getD_in h]
  ·rfl
theorem set_over {α : Type} {l : List α} {i : Nat} {x y : α} : (l.set i x).set i y = l.set i y := List.set_set ..
theorem step1 {ru : Rules} {many : Nat} (hmn : many ≤ 1000) (hk4 : ru.kinds.length ≤ 1000) (x : Stp) {w : World} {b1 b2 : Nat} {At : Option Addr} {ct : Nat} {vl va vp : Value} {Ak : Option Addr} {ck : Nat} (hq1 : Blk w b1 96 #[.slice At many ct]) (hq2 : Blk w b2 28 #[vl, .int .i64 ru.fade.lo, .int .i64 ru.fade.hi, va, vp, .slice Ak ru.kinds.length ck]) :
  Calls Try.prog 71 #[.agg #[.int .i64 x.tank, .int .i64 x.wash], .pointer (some ⟨b1, 0, none⟩), .pointer (some ⟨b2, 0, none⟩)] w fun e w' => e = .returned (.bool (!stB ru many x)) ∧ Below w.heap.size w w' := by
 have hbw := Below.refl w.heap.size w;refine EC.enter 24 Try.func71 rfl rfl rfl (EC.seq (EC.region (EL.newP (bx_70 rfl) rfl ?_)));intro g1 w1 q1 hb1 hg1 hl1;have bhbw_1 := Nat.le_trans hbw.size hg1;replace hbw := bo_ hbw hb1;clear hb1 hg1 hl1;refine EL.as rfl rfl (EL.nil (EX.seq (EC.seq (EC.region (EL.val (ld_96 rfl (below_load hbw (hq1.at (j := 0) rfl))) rfl (EL.val (ln_96 rfl) rfl ?_))))));refine EL.val (x_sub rfl rfl (c := ((many : Nat) : Int) - 1) (IntWalk.i64_in _ ⟨by omega, by omega⟩)) rfl ?_
 refine EL.val (fa_70_0 rfl) rfl (EL.val (ld_3 rfl (q1.at (j := 0) rfl)) rfl (EL.newS (bs_22_1 rfl) rfl ?_));intro g2 w2 q2 hb2 hg2 hl2;have n1_2 := q1.na hg2;have bhbw_2 := Nat.le_trans hbw.size hg2;replace q1 := q1.bl hb2;replace hbw := bo_ hbw hb2;clear hb2 hg2 hl2
 cases h1 : inB 0 ((many : Nat) - 1 : Int) x.tank
 ·
  refine EL.call (cA3 cF63 rfl rfl rfl) rfl (within_1 q2 h1) ?_
  rintro e w3 ⟨rfl, hc3⟩
  refine ⟨_, rfl, ?_⟩;replace q1 := q1.bl hc3;replace q2 := q2.bl hc3;replace hbw := bo_ hbw hc3;clear hc3;refine EL.val (x_not rfl) rfl (EL.mv rfl rfl (EL.skip rfl rfl rfl rfl (EL.skip rfl rfl rfl rfl (EL.skip rfl rfl rfl rfl (EL.skip rfl rfl rfl rfl (EL.skip rfl rfl rfl rfl (EL.skip rfl rfl rfl rfl (EL.skip rfl rfl rfl rfl (EL.skip rfl rfl rfl rfl ?_)))))))));refine EL.skip rfl rfl rfl rfl (EL.pt rfl rfl rfl (EL.as rfl rfl (EL.nil (EX.seq (EC.ret ?_)))))
  exact EX.done (res1 rfl rfl) ⟨by congr 2; simp [stB, *], hbw⟩
 ·
  refine EL.call (cA3 cF63 rfl rfl rfl) rfl (within_1 q2 h1) ?_
  rintro e w4 ⟨rfl, hc4⟩
  refine ⟨_, rfl, ?_⟩;replace q1 := q1.bl hc4;replace q2 := q2.bl hc4;replace hbw := bo_ hbw hc4;clear hc4;refine EL.val (x_not rfl) rfl (EL.mv rfl rfl (EL.valg rfl rfl (fa_28_4 rfl) rfl (EL.valg rfl rfl (ld_26 rfl (below_load hbw (hq2.at (j := 5) rfl))) rfl (EL.valg rfl rfl (ln_26 rfl) rfl ?_))));refine EL.valg rfl rfl (x_sub rfl rfl (c := ((ru.kinds.length : Nat) : Int) - 1) (IntWalk.i64_in _ ⟨by omega, by omega⟩)) rfl ?_
  refine EL.valg rfl rfl (fa_70_1 rfl) rfl (EL.valg rfl rfl (ld_3 rfl (q1.at (j := 1) rfl)) rfl (EL.newSg rfl rfl (bs_22_1 rfl) rfl ?_));intro g5 w5 q5 hb5 hg5 hl5;have n1_5 := q1.na hg5;have n2_5 := q2.na hg5;have bhbw_5 := Nat.le_trans hbw.size hg5;replace q1 := q1.bl hb5;replace q2 := q2.bl hb5;replace hbw := bo_ hbw hb5;clear hb5 hg5 hl5
  cases h2 : inB (-1) ((ru.kinds.length : Nat) - 1 : Int) x.wash
  ·
   refine EL.callg rfl rfl (cA3 cF63 rfl rfl rfl) rfl (within_1 q5 h2) ?_
   rintro e w6 ⟨rfl, hc6⟩
   refine ⟨_, rfl, ?_⟩;replace q1 := q1.bl hc6;replace q2 := q2.bl hc6;replace q5 := q5.bl hc6;replace hbw := bo_ hbw hc6;clear hc6;refine EL.valg rfl rfl (x_not rfl) rfl (EL.pf rfl rfl rfl (EL.as rfl rfl (EL.nil (EX.seq (EC.ret ?_)))))
   exact EX.done (res1 rfl rfl) ⟨by congr 2; simp [stB, *], hbw⟩
  ·
   refine EL.callg rfl rfl (cA3 cF63 rfl rfl rfl) rfl (within_1 q5 h2) ?_
   rintro e w7 ⟨rfl, hc7⟩
   refine ⟨_, rfl, ?_⟩;replace q1 := q1.bl hc7;replace q2 := q2.bl hc7;replace q5 := q5.bl hc7;replace hbw := bo_ hbw hc7;clear hc7;refine EL.valg rfl rfl (x_not rfl) rfl (EL.pf rfl rfl rfl (EL.as rfl rfl (EL.nil (EX.seq (EC.ret ?_)))))
   exact EX.done (res1 rfl rfl) ⟨by congr 2; simp [stB, *], hbw⟩
set_option maxRecDepth 100000 in
theorem index_stp (l : List Stp) (pred : Stp → Bool) (p0 p1 : Value) (v : Value) (w : World) (B : Nat) (hr : Rd w B 2 v l.length (stpsC l)) (hB : B ≤ w.heap.size) (hn : l.length ≤ 9223372036854775806) (hf : ∀ x ∈ l, ∀ W, Below w.heap.size w W → Calls Try.prog 71 #[.agg #[.int .i64 x.tank, .int .i64 x.wash], p0, p1] W fun e w' => e = .returned (.bool (pred x)) ∧ Below W.heap.size W w') :
  Calls Try.prog 89 #[v, .func (.func 71) #[] #[p0, p1]] w fun e w' => (∃ r : Int, e = .returned (.int .i64 r) ∧ decide (0 ≤ r) = l.any pred) ∧ Below w.heap.size w w' := by
 obtain ⟨A, c, rfl, _⟩ := hr.shape;have hbw := Below.refl w.heap.size w;refine EC.enter 19 Try.func89 rfl rfl rfl (EC.seq (EC.region (EL.as rfl rfl (EL.nil (EX.seq (EC.seq (EC.seq (EC.region (EL.mv rfl rfl ?_)))))))));refine EL.val (ln_65 rfl) rfl (EL.mv rfl rfl (EL.nil (EX.seq (EC.block ?_))));refine EC.loopD [4, 5, 8, 9, 10, 11, 12, 13, 14, 15, 16, 17, 18] (fun x : Nat => [(8, .int .i64 (x : Nat))]) (fun x W => x ≤ l.length ∧ (l.take x).any pred = false ∧ Below w.heap.size w W) (fun x => l.length - x) 0 ⟨Nat.zero_le _, rfl, hbw⟩ ⟨rfl, trivial⟩ ?_
 clear hbw
 rintro k wk ⟨hk, hno, hbw⟩
 by_cases hlt : k < l.length
 ·
  obtain ⟨b, o, rfl, _, c0, c1⟩ := stps_cells l k hlt w w.heap.size _ _ _ (hr.more hB);have hat := any_take (d := stp0) (p := pred) hlt;have hmem : l.getD k stp0 ∈ l := by rw [getD_in hlt]; exact List.getElem_mem hlt
  obtain ⟨x, ex⟩ : ∃ z, z = l.getD k stp0 := ⟨_, rfl⟩;rw [← ex] at hat hmem c0 c1;have hc := hf x hmem wk hbw;refine EC.seq (EC.region ?_);refine EL.val (x_lss rfl rfl (by first | assumption | exact decide_eq_true (by omega))) rfl ?_
  refine EL.nil (EX.seq (EC.seq (EC.yes rfl (EC.skip (EX.seq (EC.seq (EC.block (EC.seq (EC.region ?_)))))))));refine EL.mv rfl rfl (EL.as rfl rfl (EL.nil (EX.seq (EC.seq (EC.region (EL.mv rfl rfl (EL.mv rfl rfl (EL.mv rfl rfl (EL.val (ix_65 rfl rfl hlt) rfl ?_)))))))));refine EL.val (ld_70 rfl (below_load hbw c0) (below_load hbw c1)) rfl (EL.call (clv_71_0_1_2 rfl rfl) rfl hc ?_)
  rintro e w2 ⟨rfl, hc2⟩
  refine ⟨_, rfl, ?_⟩;replace hbw := bo_ hbw hc2;clear hc2;refine EL.nil (EX.seq ?_)
  cases hp : pred x
  ·
   refine EC.no rfl (EC.skip (EX.blk (EX.seq (EC.region ?_))));refine EL.val (x_add rfl rfl (by first | assumption | exact IntWalk.i64_in _ ⟨by omega, by omega⟩)) rfl ?_
   refine EL.mv rfl rfl (EL.nil ?_);refine EX.roundD (k + 1) ⟨rfl, trivial⟩ (by repeat first | with_reducible exact .refl _ | refine sp_ rfl ?_ | exact .refl _ | refine sd_ rfl ?_ | refine sn_ ?_) ⟨hlt, by rw [hat, hno, hp]; rfl, hbw⟩ (by omega)
  ·
   refine EC.yes rfl (EC.seq (EC.region (EL.mv rfl rfl (EL.as rfl rfl (EL.nil (EX.seq (EC.ret (EX.blk_ret (EX.seq_ret ?_)))))))));refine EX.seq_ret (EX.blk_ret (EX.seq_ret ?_))
   exact EX.done (res1 rfl rfl) ⟨⟨_, rfl, by rw [any_at hlt (ex ▸ hp)]; exact decide_eq_true (by omega)⟩, hbw⟩
 ·
  obtain rfl : k = l.length := by omega
  rw [List.take_length] at hno;refine EC.seq (EC.region ?_);refine EL.val (x_lss rfl rfl (by first | assumption | exact decide_eq_false (by omega))) rfl ?_
  refine EL.nil (EX.seq (EC.seq (EC.no rfl (EC.exit (EX.seq_exit (EX.seq_exit (EX.blk_here (EX.seq (EC.seq ?_)))))))));refine EC.region (EL.as rfl rfl (EL.nil (EX.seq (EC.ret ?_))))
  exact EX.done (res1 rfl rfl) ⟨⟨_, rfl, by rw [hno]; rfl⟩, hbw⟩
theorem contains_stp (l : List Stp) (pred : Stp → Bool) (p0 p1 : Value) (v : Value) (w : World) (B : Nat) (hr : Rd w B 2 v l.length (stpsC l)) (hB : B ≤ w.heap.size) (hn : l.length ≤ 9223372036854775806) (hf : ∀ x ∈ l, ∀ W, Below w.heap.size w W → Calls Try.prog 71 #[.agg #[.int .i64 x.tank, .int .i64 x.wash], p0, p1] W fun e w' => e = .returned (.bool (pred x)) ∧ Below W.heap.size W w') :
  Calls Try.prog 70 #[v, .func (.func 71) #[] #[p0, p1]] w fun e w' => e = .returned (.bool (l.any pred)) ∧ Below w.heap.size w w' := by
 have hbw := Below.refl w.heap.size w;refine EC.enter 9 Try.func70 rfl rfl rfl (EC.seq (EC.region (EL.as rfl rfl (EL.nil (EX.seq (EC.seq (EC.region (EL.mv rfl rfl (EL.mv rfl rfl ?_)))))))));refine EL.call (cA2 cF89 rfl rfl) rfl (index_stp l pred p0 p1 _ w B hr hB hn hf) ?_
 rintro e w2 ⟨⟨r, rfl, hres⟩, hc2⟩
 refine ⟨_, rfl, ?_⟩;replace hbw := bo_ hbw hc2;refine EL.val (x_geq rfl rfl hres) rfl (EL.as rfl rfl (EL.nil (EX.seq (EC.ret ?_))))
 exact EX.done (res1 rfl rfl) ⟨rfl, hbw⟩
theorem res4t {P : Program} {n : Nat} {σ : Sg} {w : World} {fn : Func} {t1 t2 t3 t4 : Tmp} {v1 v2 v3 v4 : Value} (h : fn.results = #[.tmp t1, .tmp t2, .tmp t3, .tmp t4]) (h1 : σ t1 = some v1) (h2 : σ t2 = some v2) (h3 : σ t3 = some v3) (h4 : σ t4 = some v4) (a : Act) (ha : Env n σ a) : (results fn a.tmps).run P w = .ok (.tuple #[v1, v2, v3, v4]) w := by
 have e1 : a.tmps.getD t1 undef = v1 := ha.eval (x := .tmp t1) h1;have e2 : a.tmps.getD t2 undef = v2 := ha.eval (x := .tmp t2) h2;have e3 : a.tmps.getD t3 undef = v3 := ha.eval (x := .tmp t3) h3;have e4 : a.tmps.getD t4 undef = v4 := ha.eval (x := .tmp t4) h4;rw [Array.getD_eq_getD_getElem?] at e1 e2 e3 e4
 simp [results, h, e1, e2, e3, e4]
theorem all_getD2 {ru : Rules} {many : Nat} {l : List Stp} {i : Nat} (h : l.all (stB ru many) = true) (hi : i < l.length) : stB ru many (l.getD i stp0) = true := by
 rw [getD_in hi]
 exact List.all_eq_true.1 h _ (List.getElem_mem hi)
theorem yard_okV {ru : Rules} {tanks : List (List Ev)} {jobs : List Int} (h : yardE ru tanks jobs = 0) : rulesB ru = true ∧ tanks.length ≤ 3 ∧ 0 < tanks.length ∧ jobsE ru jobs 6 = 0 := by
 unfold yardE at h
 split at h
 ·rename_i hr
  split at h
  ·omega
  ·split at h
   ·omega
   ·split at h
    ·exact ⟨hr, by omega, by omega, h⟩
    ·rename_i h1 h2 h3
     exact absurd h h3
 ·omega
set_option maxHeartbeats 4000000 in
theorem Verify_any {ru : Rules} {ua up : List Value} {vl va vp vk : Value} {w : World} {B : Nat} (hr : RdRules w B vl va vp vk ru ua up) (hB : B ≤ w.heap.size) (hs : Short ru) {tanks : List (List Ev)} {vt : Value} {ut : List Value} (ht : RdLL evC 2 w B vt tanks ut) (htn : ∀ i, i < tanks.length → (tanks.getD i []).length ≤ 1048576) (htl : tanks.length ≤ 9223372036854775807) {jobs : List Int} {vj : Value} (hv : Rd w B 1 vj jobs.length (ints jobs)) (hjn : jobs.length ≤ 9223372036854775807) {steps : List Stp} {vs : Value} (hst : Rd w B 2 vs steps.length (stpsC steps)) (hsn : steps.length ≤ 9223372036854775806) :
  Calls Try.prog 40 #[rulesV vl va vp vk ru, vt, vj, vs] w fun e w' => e = .returned (.tuple #[.int .i64 (verT ru tanks jobs steps).1, .int .i64 (verT ru tanks jobs steps).2.1, .int .i64 (verT ru tanks jobs steps).2.2, .int .i64 (verE ru tanks jobs steps)]) ∧ Below w.heap.size w w' := by
 obtain ⟨Al, cl, Aa, ca, Ap, cp, Ak, ck, rfl, rfl, rfl, rfl⟩ := hr.sh4;obtain ⟨At, ct, rfl, _⟩ := ht.rd.shape;obtain ⟨Aj, cj, rfl, _⟩ := hv.shape;obtain ⟨As, cs, rfl, _⟩ := hst.shape;have hbw := Below.refl w.heap.size w
 unfold rulesV
 refine EC.enter 103 Try.func40 rfl rfl rfl (EC.seq (EC.region (EL.newP (bx_28 rfl) rfl ?_)));intro g1 w1 q1 hb1 hg1 hl1;have bhbw_1 := Nat.le_trans hbw.size hg1;replace hbw := bo_ hbw hb1;clear hb1 hg1 hl1;refine EL.newP (bx_96 rfl rfl) rfl ?_;intro g2 w2 q2 hb2 hg2 hl2;have n1_2 := q1.na hg2;have bhbw_2 := Nat.le_trans hbw.size hg2;replace q1 := q1.bl hb2;replace hbw := bo_ hbw hb2;clear hb2 hg2 hl2;refine EL.as rfl rfl (EL.as rfl rfl (EL.as rfl rfl (EL.as rfl rfl (EL.nil (EX.seq (EC.seq (EC.region (EL.val (ld_28 rfl (q1.at (j := 0) rfl) (q1.at (j := 1) rfl) (q1.at (j := 2) rfl) (q1.at (j := 3) rfl) (q1.at (j := 4) rfl) (q1.at (j := 5) rfl)) rfl (EL.val (ld_96 rfl (q2.at (j := 0) rfl)) rfl ?_)))))))));refine EL.mv rfl rfl (EL.call (cA3 cF68 rfl rfl rfl) rfl (yard_any (hr.below (hbw.mono hB)) (Nat.le_trans hB hbw.size) hs ((ht.below (hbw.mono hB))) htn htl (hv.below (hbw.mono hB)) hjn) ?_)
 rintro e w3 ⟨⟨sf, rfl, hsf, hsy⟩, hc3⟩
 refine ⟨_, rfl, ?_⟩;replace q1 := q1.bl hc3;replace q2 := q2.bl hc3;replace hbw := bo_ hbw hc3;clear hc3
 unfold rulesV flV
 refine EL.mv rfl rfl (EL.xt rfl rfl rfl (EL.xt rfl rfl rfl (EL.xt rfl rfl rfl (EL.newP al_116 rfl ?_))));intro g4 w4 q4 hb4 hg4 hl4;have n1_4 := q1.na hg4;have n2_4 := q2.na hg4;have bhbw_4 := Nat.le_trans hbw.size hg4;replace q1 := q1.bl hb4;replace q2 := q2.bl hb4;replace hbw := bo_ hbw hb4;clear hb4 hg4 hl4;refine EL.newP al_fleet rfl ?_;intro g5 w5 q5 hb5 hg5 hl5;have n1_5 := q1.na hg5;have n2_5 := q2.na hg5;have n4_5 := q4.na hg5;have bhbw_5 := Nat.le_trans hbw.size hg5;replace q1 := q1.bl hb5;replace q2 := q2.bl hb5;replace q4 := q4.bl hb5;replace hbw := bo_ hbw hb5;clear hb5 hg5 hl5;refine EL.store rfl rfl q4 sz_116 rfl rfl rfl rfl ?_;intro w6 hq6 hg6;replace q1 := q1.gr hg6 n1_4;replace q2 := q2.gr hg6 n2_4;replace q5 := q5.gr hg6 n4_5.symm;replace hbw := below_store hbw hg6 bhbw_4;replace q4 := hq6;clear hg6 hq6;refine EL.store (l' := (flC sf)) rfl rfl q5 sz_150 rfl ((lenV_eq _).trans hsf.fl.len) (by rw [lenV_eq, Nat.ble_eq]; exact Nat.le_of_eq (fl0_len.symm)) (flC_one _) ?_
 intro w7 hq7 hg7;rw [spl_whole (hsf.fl.len.trans fl0_len.symm)] at hq7;replace q1 := q1.gr hg7 n1_5;replace q2 := q2.gr hg7 n2_5;replace q4 := q4.gr hg7 n4_5;replace hbw := below_store hbw hg7 bhbw_5;replace q5 := hq7;clear hg7 hq7;refine EL.as rfl rfl (EL.nil (EX.seq (EC.seq (EC.block (EC.seq (EC.region (EL.mv rfl rfl ?_)))))))
 by_cases hy : yardE ru tanks jobs = 0
 ·
  obtain ⟨hrb, ht3, ht0, hjz⟩ := yard_okV hy;have hro := rules_ok hrb;obtain ⟨hj1, hj2, hj3⟩ := jobs_ok hjz;have hsy := hsy hy;refine EL.val (x_neq (r := false) rfl rfl (decide_eq_false (fun h => h hy))) rfl ?_
  refine EL.as rfl rfl (EL.nil (EX.seq (EC.no rfl (EC.seq (EC.region (EL.mv rfl rfl (EL.val (ln_65 rfl) rfl (EL.mv rfl rfl (EL.val (ln_22 rfl) rfl ?_)))))))))
  by_cases hll : steps.length = jobs.length
  ·
   refine EL.val (x_neq (r := false) rfl rfl (decide_eq_false (by omega))) rfl ?_
   refine EL.as rfl rfl (EL.nil (EX.seq (EC.no rfl (EC.seq (EC.region (EL.mv rfl rfl (EL.val (mf_71_0_2 rfl rfl) rfl ?_)))))))
   cases hal : steps.all (stB ru tanks.length)
   ·
    have hca := contains_stp steps (fun x => !stB ru tanks.length x) _ _ _ w7 B (hst.below (hbw.mono hB)) (Nat.le_trans hB hbw.size) (by omega) (fun x hx W hb => step1 (by omega) (by have := hro.k4; omega) x (q2.below hb q2.lt) (q1.below hb q1.lt))
    rw [show (steps.any fun x => !stB ru tanks.length x) = true by rw [← all_nn, hal]; rfl] at hca
    refine EL.call (cA2 cF70 rfl rfl) rfl (hca) ?_
    rintro e w8 ⟨rfl, hc8⟩
    refine ⟨_, rfl, ?_⟩;replace q1 := q1.bl hc8;replace q2 := q2.bl hc8;replace q4 := q4.bl hc8;replace q5 := q5.bl hc8;replace hbw := bo_ hbw hc8;clear hc8;refine EL.as rfl rfl (EL.nil (EX.seq (EC.yes rfl (EC.seq (EC.region (EL.as rfl rfl (EL.as rfl rfl (EL.as rfl rfl (EL.as rfl rfl ?_)))))))));refine EL.nil (EX.seq (EC.ret (EX.blk_ret (EX.seq_ret ?_))));have hve : verE ru tanks jobs steps = 2 := by rw [verE, if_neg (fun h => h hy), if_neg (fun h => h hll), if_neg (by rw [hal]; decide)]
    have hvn : verE ru tanks jobs steps ≠ 0 := by rw [hve]; decide
    exact EX.done (res4t rfl rfl rfl rfl rfl) ⟨ver_t hve (by rw [verT, if_neg hvn]), hbw⟩
   ·
    have hca := contains_stp steps (fun x => !stB ru tanks.length x) _ _ _ w7 B (hst.below (hbw.mono hB)) (Nat.le_trans hB hbw.size) (by omega) (fun x hx W hb => step1 (by omega) (by have := hro.k4; omega) x (q2.below hb q2.lt) (q1.below hb q1.lt))
    rw [show (steps.any fun x => !stB ru tanks.length x) = false by rw [← all_nn, hal]; rfl] at hca
    refine EL.call (cA2 cF70 rfl rfl) rfl (hca) ?_
    rintro e w9 ⟨rfl, hc9⟩
    refine ⟨_, rfl, ?_⟩;replace q1 := q1.bl hc9;replace q2 := q2.bl hc9;replace q4 := q4.bl hc9;replace q5 := q5.bl hc9;replace hbw := bo_ hbw hc9;clear hc9;refine EL.as rfl rfl (EL.nil (EX.seq (EC.no rfl (EC.skip (EX.blk (EX.seq (EC.seq (EC.seq (EC.region ?_)))))))));refine EL.mv rfl rfl (EL.val (ln_65 rfl) rfl (EL.mv rfl rfl (EL.nil (EX.seq (EC.block ?_)))));obtain ⟨js, ejs⟩ : ∃ z, z = jobs.map Int.toNat := ⟨_, rfl⟩;rw [← ejs] at hj1 hj2 hj3;have hjl : js.length = jobs.length := by rw [ejs, List.length_map]
    obtain ⟨tot, etot⟩ : ∃ z, z = verG (goT ru) (kcost ru) js steps 0 sf 0 0 := ⟨_, rfl⟩;refine EC.loopD [8, 9, 10, 11, 14, 15, 16, 17, 18, 43, 44, 45, 46, 47, 48, 49, 50, 51, 52, 53, 54, 55, 56, 57, 58, 59, 60, 61, 62, 63, 64, 65, 66, 67, 68, 69, 70, 71, 72, 73, 74, 75, 76, 77, 78, 79, 80, 81, 82, 83, 84, 85, 86, 87, 88, 89, 90, 91, 92, 93, 94, 95, 96, 97, 98, 99, 100] (fun x : Nat × List (List Tr) × Int × Int => [(43, .int .i64 (x.1 : Nat)), (9, .int .i64 x.2.2.1), (10, .int .i64 x.2.2.2)]) (fun x W => x.1 ≤ js.length ∧ FlOk x.2.1 ∧ (0 ≤ x.2.2.1 ∧ x.2.2.1 ≤ x.1) ∧ (0 ≤ x.2.2.2 ∧ x.2.2.2 ≤ x.1 * 100000000) ∧ verG (goT ru) (kcost ru) (js.drop x.1) (steps.drop x.1) x.1 x.2.1 x.2.2.1 x.2.2.2 = tot ∧ Blk W g1 28 #[.slice Al ru.levels.length cl, .int .i64 ru.fade.lo, .int .i64 ru.fade.hi, .slice Aa ru.allow.length ca, .slice Ap ru.apart.length cp, .slice Ak ru.kinds.length ck] ∧ Blk W g4 116 #[.slice Al ru.levels.length cl, .int .i64 ru.fade.lo, .int .i64 ru.fade.hi, .slice Aa ru.allow.length ca, .slice Ap ru.apart.length cp, .slice Ak ru.kinds.length ck] ∧ Blk W g5 150 (flC x.2.1).toArray ∧ Below w.heap.size w W) (fun x => js.length - x.1) (0, sf, 0, 0) ⟨Nat.zero_le _, hsf, ⟨Int.le_refl _, Int.le_refl _⟩, (by simp only; omega), etot.symm, q1, q4, q5, hbw⟩ ⟨rfl, rfl, rfl, trivial⟩ ?_
    clear q1 q4 q5 hbw
    rintro ⟨i, sg, wa, co⟩ wx ⟨hi, hsg, hwa, hco, htot, q1, q4, q5, hbw⟩
    dsimp only at hi hsg hwa hco htot q5
    by_cases hlt : i < js.length
    ·
     have hls : i < steps.length := by omega
     obtain ⟨bs, os, es, _, c0, c1⟩ := stps_cells steps i hls wx B _ _ _ (hst.below (hbw.mono hB))
     cases es
     obtain ⟨x, ex⟩ : ∃ z, z = steps.getD i stp0 := ⟨_, rfl⟩;rw [← ex] at c0 c1;obtain ⟨n, en, hn, hkin⟩ := stB_iff (all_getD2 hal hls);rw [← ex] at en hkin;have hn3 : n < 3 := by omega
     obtain ⟨k, ek⟩ : ∃ z, z = x.wash := ⟨_, rfl⟩;rw [← ek] at c1 hkin;have htk := hsg.get hn3;have hcg := hj2 i hlt;have hnl : n < sg.length := by rw [hsg.fl.n3]; exact hn3
     obtain ⟨bb, hbb⟩ : ∃ bb, decide (k ≥ 0) = bb := ⟨_, rfl⟩;refine EC.seq (EC.region ?_);refine EL.val (x_lss rfl rfl (decide_eq_true (show (((i : Nat) : Int) < ((steps.length : Nat) : Int)) by omega))) rfl ?_
     refine EL.nil (EX.seq (EC.seq (EC.yes rfl (EC.skip (EX.seq (EC.seq (EC.block (EC.seq (EC.region ?_)))))))));refine EL.mv rfl rfl (EL.val (ix_65 rfl rfl hls) rfl (EL.val (ld_70 rfl c0 c1) rfl (EL.newP al_70 rfl ?_)));intro g10 w10 q10 hb10 hg10 hl10;have n1_10 := q1.na hg10;have n4_10 := q4.na hg10;have n5_10 := q5.na hg10;have bhbw_10 := Nat.le_trans hbw.size hg10;replace q1 := q1.bl hb10;replace q4 := q4.bl hb10;replace q5 := q5.bl hb10;replace hbw := bo_ hbw hb10;clear hb10 hg10 hl10;refine EL.as rfl rfl (EL.store rfl rfl q10 sz_70 rfl rfl rfl rfl ?_);intro w11 hq11 hg11;replace q1 := q1.gr hg11 n1_10;replace q4 := q4.gr hg11 n4_10;replace q5 := q5.gr hg11 n5_10;replace hbw := below_store hbw hg11 bhbw_10;replace q10 := hq11;clear hg11 hq11;refine EL.nil (EX.seq (EC.seq (EC.region (EL.val (fa_70_0 rfl) rfl (EL.val (ld_3 rfl (q10.at (j := 0) rfl)) rfl ?_)))));refine EL.val (ixa_150 rfl (by show some (Value.int .i64 x.tank) = _; rw [en]) hn3) rfl ?_
     refine EL.as rfl rfl (EL.nil (EX.seq ?_));refine EC.cutD [9, 10, 51, 52, 53, 54, 55, 56, 57, 58, 59, 60, 61, 62, 63, 64, 65, 66, 67, 68, 69, 70, 71, 72, 73] (fun _ : Unit => [(9, .int .i64 (wa + numK k)), (10, .int .i64 (co + kcost ru k))]) (fun _ W => Blk W g1 28 #[.slice Al ru.levels.length cl, .int .i64 ru.fade.lo, .int .i64 ru.fade.hi, .slice Aa ru.allow.length ca, .slice Ap ru.apart.length cp, .slice Ak ru.kinds.length ck] ∧ Blk W g4 116 #[.slice Al ru.levels.length cl, .int .i64 ru.fade.lo, .int .i64 ru.fade.hi, .slice Aa ru.allow.length ca, .slice Ap ru.apart.length cp, .slice Ak ru.kinds.length ck] ∧ Blk W g5 150 (flC (sg.set n (wayT ru (sg.getD n []) k))).toArray ∧ Below w.heap.size w W) ?_ ?_
     ·
      cases bb
      ·
       have hkn : k < 0 := by have := of_decide_eq_false hbb; omega
       have hwk : wayT ru (sg.getD n []) k = sg.getD n [] := if_pos hkn;have hnk : numK k = 0 := if_pos hkn;have hck : kcost ru k = 0 := if_pos hkn;refine EC.seq (EC.region (EL.val (fa_70_1 rfl) rfl (EL.val (ld_3 rfl (q10.at (j := 1) rfl)) rfl (EL.val (x_geq rfl rfl hbb) rfl (EL.nil (EX.seq (EC.no rfl (EC.skip ?_))))))))
       exact EX.cutE () ⟨agree_i (by rw [hnk, Int.add_zero]) rfl, agree_i (by rw [hck, Int.add_zero]) rfl, trivial⟩ (by repeat first | with_reducible exact (Sub.refl _).del _ | refine sp_ rfl ?_ | exact (Sub.refl _).del _ | refine sd_ rfl ?_ | refine sn_ ?_) ⟨q1, q4, by rw [hwk, set_self hnl]; exact q5, hbw⟩
      ·
       have hkn : ¬k < 0 := by have := of_decide_eq_true hbb; omega
       obtain ⟨j, hj, ekj⟩ : ∃ j : Nat, j < ru.kinds.length ∧ k = ((j : Nat) : Int) := by rcases kinds_in hkin with h | h; omega; exact h
       have hkj : k.toNat = j := by rw [ekj]; exact Int.toNat_natCast j
       have hwk : wayT ru (sg.getD n []) k = washT ru (sg.getD n []) j := by unfold wayT; rw [if_neg hkn, hkj]
       have hnk : numK k = 1 := if_neg hkn;have hck : kcost ru k = (ru.kinds.getD j kd0).cost := by unfold kcost; rw [if_neg hkn, hkj]
       have hkd := kd_bd hro j;have hwok := wayT_ok hro htk k;have hwj : TkOk (washT ru (sg.getD n []) j) := by rw [← hwk]; exact hwok
       refine EC.seq (EC.region (EL.val (fa_70_1 rfl) rfl (EL.val (ld_3 rfl (q10.at (j := 1) rfl)) rfl (EL.val (x_geq rfl rfl hbb) rfl (EL.nil (EX.seq (EC.yes rfl (EC.seq ?_))))))));have lt_1 := q1.lt;have lt_4 := q4.lt;have lt_5 := q5.lt;have lt_10 := q10.lt;refine EC.regionP [[], [], [], [2], [2, 3], [], [5], [1, 2, 3, 4, 5, 6], [0, 1, 2, 3, 4, 5, 6, 7], [0, 1, 2, 3, 4, 5, 6, 7, 8]] 8 [] (phi (fun i_ r => match i_ with | 0 => r 0 = .pointer (some ⟨g5, 0 + n * 32, none⟩) | 1 => r 1 = .agg #[.slice Al ru.levels.length cl, .int .i64 ru.fade.lo, .int .i64 ru.fade.hi, .slice Aa ru.allow.length ca, .slice Ap ru.apart.length cp, .slice Ak ru.kinds.length ck] | 2 => r 2 = .pointer (some ⟨g5, 0 + n * 32, none⟩) | 3 => r 3 = .pointer (some ⟨g5, 0 + n * 32, none⟩) | 4 => r 4 = .agg (tkC (sg.getD n [])).toArray | 5 => r 5 = .pointer (some ⟨g10, 1, none⟩) | 6 => r 6 = .int .i64 k | 7 => r 7 = .agg (tkC (washT ru (sg.getD n []) j)).toArray | _ => True) []) (by kernel_rfl) rfl rfl (phi_nil) (fun i_ hi_ => ?_) ?_
       ·match i_, hi_ with
        | 0, _ =>
         intro val w1 a hb ha hd;have ha := ha.s0 (d := 16) rfl
         exact hs_val ha rfl rfl (x_move rfl) rfl rfl
        | 1, _ =>
         intro val w1 a hb ha hd;have ha := ha.s0 (d := 12) rfl
         exact hs_val ha rfl rfl (ld_116 rfl ((q4.below hb q4.lt).at (j := 0) rfl) ((q4.below hb q4.lt).at (j := 1) rfl) ((q4.below hb q4.lt).at (j := 2) rfl) ((q4.below hb q4.lt).at (j := 3) rfl) ((q4.below hb q4.lt).at (j := 4) rfl) ((q4.below hb q4.lt).at (j := 5) rfl)) rfl rfl
        | 2, _ =>
         intro val w1 a hb ha hd;have ha := ha.s0 (d := 16) rfl
         exact hs_val ha rfl rfl (x_move rfl) rfl rfl
        | 3, _ =>
         intro val w1 a hb ha hd;have e2 : val 2 = _ := hd 2 (memB_mem.1 rfl);have ha := ha.s1 (d := 56) rfl e2
         exact hs_val ha rfl rfl (x_nilCheck rfl) rfl rfl
        | 4, _ =>
         intro val w1 a hb ha hd;have e3 : val 3 = _ := hd 3 (memB_mem.1 rfl);have ha := ha.s1 (d := 57) rfl e3
         exact hs_val ha rfl rfl (x_loadA rfl (((q5.below hb q5.lt)).range (by rw [Nat.zero_add]; exact tk_at hsg.fl hn3)) Try.underlying120 rfl (sz_120.trans (congrArg some (tkC_8 (htk).n8).symm))) rfl rfl
        | 5, _ =>
         intro val w1 a hb ha hd;have ha := ha.s0 (d := 15) rfl
         exact hs_val ha rfl rfl (fa_70_1 rfl) rfl rfl
        | 6, _ =>
         intro val w1 a hb ha hd;have e5 : val 5 = _ := hd 5 (memB_mem.1 rfl);have ha := ha.s1 (d := 59) rfl e5
         exact hs_val ha rfl rfl (ld_3 rfl ((q10.below hb q10.lt).at (j := 1) rfl)) rfl rfl
        | 7, _ =>
         intro val w1 a hb ha hd;have e1 : val 1 = _ := hd 1 (memB_mem.1 rfl);have e4 : val 4 = _ := hd 4 (memB_mem.1 rfl);have e6 : val 6 = _ := hd 6 (memB_mem.1 rfl);have ha := ha.sub (Sub.ins (d := 60) (Sub.ins (d := 58) (Sub.ins (d := 55) (Sub.nil _) (dep_get rfl e1)) (dep_get rfl e4)) (dep_get rfl e6));refine hs_call ha rfl rfl (cA3 cF72 rfl rfl rfl) (by rw [ekj]; exact wash_any (hr.below ((hbw.trans (hb.mono hbw.size)).mono hB)) hro htk hj) rfl ?_
         rintro e w' ⟨rfl, hb'⟩
         exact ⟨_, rfl, hb', rfl⟩
        | k + 8, h => exact absurd h (by omega)
       ·intro val wR13 hb halc hd
        have e0 : val 0 = _ := hd 0 (by omega)
        have e1 : val 1 = _ := hd 1 (by omega)
        have e2 : val 2 = _ := hd 2 (by omega)
        have e3 : val 3 = _ := hd 3 (by omega)
        have e4 : val 4 = _ := hd 4 (by omega)
        have e5 : val 5 = _ := hd 5 (by omega)
        have e6 : val 6 = _ := hd 6 (by omega)
        have e7 : val 7 = _ := hd 7 (by omega)
        refine EL.ends (cs := [_, _, _, _, _, _, _, _]) ⟨e0, e1, e2, e3, e4, e5, e6, e7, trivial⟩ rfl ?_;replace q1 := q1.bl hb;replace q4 := q4.bl hb;replace q5 := q5.bl hb;replace q10 := q10.bl hb;replace hbw := bo_ hbw hb;clear hb;refine EL.val (x_nilCheck rfl) rfl ?_;refine EL.store (l' := tkC (washT ru (sg.getD n []) j)) rfl rfl q5 sz_120 rfl ((lenV_eq _).trans (tkC_8 (hwj).n8)) (by rw [lenV_eq, Nat.ble_eq, hsg.fl.len]; omega) (tkC_one _) ?_
        intro w12 hq12 hg12;rw [Nat.zero_add, tk_set hsg.fl hn3 (hwj).n8] at hq12;replace q1 := q1.gr hg12 n1_5;replace q4 := q4.gr hg12 n4_5;replace q10 := q10.gr hg12 n5_10.symm;replace hbw := below_store hbw hg12 bhbw_5;replace q5 := hq12;clear hg12 hq12;refine EL.nil (EX.seq ?_);obtain ⟨bk, ok, eAk, hbk, hkc⟩ := kds_cells ru.kinds j hj w12 B _ _ _ (hr.below (hbw.mono hB)).kinds;have lt_1 := q1.lt;have lt_4 := q4.lt;have lt_5 := q5.lt;have lt_10 := q10.lt;refine EC.regionP [[], [0], [], [], [3], [], [5], [3, 4, 5, 6], [3, 4, 5, 6, 7], [3, 4, 5, 6, 7, 8], [2, 3, 4, 5, 6, 7, 8, 9], [0, 1], [0, 1, 2, 3, 4, 5, 6, 7, 8, 9, 10, 11]] 12 [] (phi (fun i_ r => match i_ with | 0 => r 0 = .int .i64 wa | 1 => r 1 = .int .i64 (wa + 1) | 2 => r 2 = .int .i64 co | 3 => r 3 = .pointer (some ⟨g1, 5, none⟩) | 4 => r 4 = .slice Ak ru.kinds.length ck | 5 => r 5 = .pointer (some ⟨g10, 1, none⟩) | 6 => r 6 = .int .i64 k | 7 => r 7 = .pointer (some ⟨bk, ok + j * 5, none⟩) | 8 => r 8 = .pointer (some ⟨bk, ok + j * 5 + 4, none⟩) | 9 => r 9 = .int .i64 (ru.kinds.getD j kd0).cost | 10 => r 10 = .int .i64 (co + (ru.kinds.getD j kd0).cost) | 11 => r 11 = .int .i64 (wa + 1) | _ => True) []) (by kernel_rfl) rfl rfl (phi_nil) (fun i_ hi_ => ?_) ?_
        ·match i_, hi_ with
         | 0, _ =>
          intro val w1 a hb ha hd;have ha := ha.s0 (d := 9) rfl
          exact hs_val ha rfl rfl (x_move rfl) rfl rfl
         | 1, _ =>
          intro val w1 a hb ha hd;have e0 : val 0 = _ := hd 0 (memB_mem.1 rfl);have ha := ha.s1 (d := 63) rfl e0
          exact hs_val ha rfl rfl (x_add rfl rfl (by first | assumption | exact IntWalk.i64_in _ ⟨by omega, by omega⟩)) rfl rfl
         | 2, _ =>
          intro val w1 a hb ha hd;have ha := ha.s0 (d := 10) rfl
          exact hs_val ha rfl rfl (x_move rfl) rfl rfl
         | 3, _ =>
          intro val w1 a hb ha hd;have ha := ha.s0 (d := 4) rfl
          exact hs_val ha rfl rfl (fa_28_4 rfl) rfl rfl
         | 4, _ =>
          intro val w1 a hb ha hd;have e3 : val 3 = _ := hd 3 (memB_mem.1 rfl);have ha := ha.s1 (d := 66) rfl e3
          exact hs_val ha rfl rfl (ld_26 rfl ((q1.below hb q1.lt).at (j := 5) rfl)) rfl rfl
         | 5, _ =>
          intro val w1 a hb ha hd;have ha := ha.s0 (d := 15) rfl
          exact hs_val ha rfl rfl (fa_70_1 rfl) rfl rfl
         | 6, _ =>
          intro val w1 a hb ha hd;have e5 : val 5 = _ := hd 5 (memB_mem.1 rfl);have ha := ha.s1 (d := 68) rfl e5
          exact hs_val ha rfl rfl (ld_3 rfl ((q10.below hb q10.lt).at (j := 1) rfl)) rfl rfl
         | 7, _ =>
          intro val w1 a hb ha hd;have e4 : val 4 = _ := hd 4 (memB_mem.1 rfl);have e6 : val 6 = _ := hd 6 (memB_mem.1 rfl);have ha := ha.s2 (d := 69) (e := 67) rfl e6 rfl e4
          exact hs_val ha rfl rfl (ix_26 (by show some (Value.slice Ak _ _) = _; rw [eAk]) (by show some (Value.int .i64 k) = _; rw [ekj]) hj) rfl rfl
         | 8, _ =>
          intro val w1 a hb ha hd;have e7 : val 7 = _ := hd 7 (memB_mem.1 rfl);have ha := ha.s1 (d := 70) rfl e7
          exact hs_val ha rfl rfl (fa_52_3 rfl) rfl rfl
         | 9, _ =>
          intro val w1 a hb ha hd;have e8 : val 8 = _ := hd 8 (memB_mem.1 rfl);have ha := ha.s1 (d := 71) rfl e8
          exact hs_val ha rfl rfl (ld_3 rfl (below_load hb hkc.c4)) rfl rfl
         | 10, _ =>
          intro val w1 a hb ha hd;have e2 : val 2 = _ := hd 2 (memB_mem.1 rfl);have e9 : val 9 = _ := hd 9 (memB_mem.1 rfl);have ha := ha.s2 (d := 72) (e := 65) rfl e9 rfl e2
          exact hs_val ha rfl rfl (x_add rfl rfl (by first | assumption | exact IntWalk.i64_in _ ⟨by omega, by omega⟩)) rfl rfl
         | 11, _ =>
          intro val w1 a hb ha hd;have e1 : val 1 = _ := hd 1 (memB_mem.1 rfl);have ha := ha.s1 (d := 64) rfl e1
          exact hs_val ha rfl rfl (x_assign rfl) rfl rfl
         | k + 12, h => exact absurd h (by omega)
        ·intro val wR14 hb halc hd
         have e0 : val 0 = _ := hd 0 (by omega)
         have e1 : val 1 = _ := hd 1 (by omega)
         have e2 : val 2 = _ := hd 2 (by omega)
         have e3 : val 3 = _ := hd 3 (by omega)
         have e4 : val 4 = _ := hd 4 (by omega)
         have e5 : val 5 = _ := hd 5 (by omega)
         have e6 : val 6 = _ := hd 6 (by omega)
         have e7 : val 7 = _ := hd 7 (by omega)
         have e8 : val 8 = _ := hd 8 (by omega)
         have e9 : val 9 = _ := hd 9 (by omega)
         have e10 : val 10 = _ := hd 10 (by omega)
         have e11 : val 11 = _ := hd 11 (by omega)
         refine EL.ends (cs := [_, _, _, _, _, _, _, _, _, _, _, _]) ⟨e0, e1, e2, e3, e4, e5, e6, e7, e8, e9, e10, e11, trivial⟩ rfl ?_;replace q1 := q1.bl hb;replace q4 := q4.bl hb;replace q5 := q5.bl hb;replace q10 := q10.bl hb;replace hbw := bo_ hbw hb;clear hb;refine EL.as rfl rfl (EL.nil ?_)
         exact EX.cutE () ⟨agree_i (by rw [hnk]) rfl, agree_i (by rw [hck]) rfl, trivial⟩ (by repeat first | with_reducible exact (Sub.refl _).del _ | refine sp_ rfl ?_ | exact (Sub.refl _).del _ | refine sd_ rfl ?_ | refine sn_ ?_) ⟨q1, q4, by rw [hwk]; exact q5, hbw⟩
     ·
      clear q1 q4 q5 hbw
      rintro ⟨⟩ W2 ⟨q1, q4, q5, hbw⟩
      have hwok := wayT_ok hro htk k;have hsg2 := hsg.set (k := n) hwok;obtain ⟨M, eM⟩ : ∃ z, z = (mayT ru (wayT ru (sg.getD n []) k) (js.getD i 0) ru.levels.length) := ⟨_, rfl⟩;refine EC.seq (EC.seq ?_);obtain ⟨bj, oj, ej, _, hjc⟩ := ints_cells jobs i (by omega) W2 B _ _ _ (hv.below (hbw.mono hB))
      rw [show jobs.getD i 0 = ((js.getD i 0 : Nat) : Int) by have h_ := jsI_at (js := js) hlt; rwa [hj1] at h_] at hjc
      have hgs : (sg.set n (wayT ru (sg.getD n []) k)).getD n [] = (wayT ru (sg.getD n []) k) := by rw [getD_setR hnl, if_pos rfl]
      have lt_1 := q1.lt;have lt_4 := q4.lt;have lt_5 := q5.lt;refine EC.regionP [[], [], [1], [1, 2], [], [], [4, 5], [4, 5, 6], [0, 1, 2, 3, 4, 5, 6, 7], [0, 1, 2, 3, 4, 5, 6, 7, 8], [0, 1, 2, 3, 4, 5, 6, 7, 8, 9], [0, 1, 2, 3, 4, 5, 6, 7, 8, 9], [0, 1, 2, 3, 4, 5, 6, 7, 8, 9, 10], [0, 1, 2, 3, 4, 5, 6, 7, 8, 9, 10, 11, 12]] 13 [] (phi (fun i_ r => match i_ with | 0 => r 0 = .agg #[.slice Al ru.levels.length cl, .int .i64 ru.fade.lo, .int .i64 ru.fade.hi, .slice Aa ru.allow.length ca, .slice Ap ru.apart.length cp, .slice Ak ru.kinds.length ck] | 1 => r 1 = .pointer (some ⟨g5, 0 + n * 32, none⟩) | 2 => r 2 = .pointer (some ⟨g5, 0 + n * 32, none⟩) | 3 => r 3 = .agg (tkC (wayT ru (sg.getD n []) k)).toArray | 4 => r 4 = .slice Aj jobs.length cj | 5 => r 5 = .int .i64 (i : Nat) | 6 => r 6 = .pointer (some ⟨bj, oj + i, none⟩) | 7 => r 7 = .int .i64 ((js.getD i 0) : Nat) | 8 => r 8 = .tuple #[.bool M.1, .bool M.2] | 9 => r 9 = .tuple #[.bool M.1, .bool M.2] | 10 => r 10 = .bool M.1 | 11 => r 11 = .bool M.2 | 12 => r 12 = .bool M.1 | _ => True) []) (by kernel_rfl) rfl rfl (phi_nil) (fun i_ hi_ => ?_) ?_
      ·match i_, hi_ with
       | 0, _ =>
        intro val w1 a hb ha hd;have ha := ha.s0 (d := 12) rfl
        exact hs_val ha rfl rfl (ld_116 rfl ((q4.below hb q4.lt).at (j := 0) rfl) ((q4.below hb q4.lt).at (j := 1) rfl) ((q4.below hb q4.lt).at (j := 2) rfl) ((q4.below hb q4.lt).at (j := 3) rfl) ((q4.below hb q4.lt).at (j := 4) rfl) ((q4.below hb q4.lt).at (j := 5) rfl)) rfl rfl
       | 1, _ =>
        intro val w1 a hb ha hd;have ha := ha.s0 (d := 16) rfl
        exact hs_val ha rfl rfl (x_move rfl) rfl rfl
       | 2, _ =>
        intro val w1 a hb ha hd;have e1 : val 1 = _ := hd 1 (memB_mem.1 rfl);have ha := ha.s1 (d := 76) rfl e1
        exact hs_val ha rfl rfl (x_nilCheck rfl) rfl rfl
       | 3, _ =>
        intro val w1 a hb ha hd;have e2 : val 2 = _ := hd 2 (memB_mem.1 rfl);have ha := ha.s1 (d := 77) rfl e2
        exact hs_val ha rfl rfl (x_loadA rfl (((q5.below hb q5.lt)).range (by rw [Nat.zero_add]; have h_ := tk_at hsg2.fl hn3; rwa [hgs] at h_)) Try.underlying120 rfl (sz_120.trans (congrArg some (tkC_8 hwok.n8).symm))) rfl rfl
       | 4, _ =>
        intro val w1 a hb ha hd;have ha := ha.s0 (d := 2) rfl
        exact hs_val ha rfl rfl (x_move rfl) rfl rfl
       | 5, _ =>
        intro val w1 a hb ha hd;have ha := ha.s0 (d := 14) rfl
        exact hs_val ha rfl rfl (x_move rfl) rfl rfl
       | 6, _ =>
        intro val w1 a hb ha hd;have e4 : val 4 = _ := hd 4 (memB_mem.1 rfl);have e5 : val 5 = _ := hd 5 (memB_mem.1 rfl);have ha := ha.s2 (d := 80) (e := 79) rfl e5 rfl e4
        exact hs_val ha rfl rfl (ix_22 (by show some (Value.slice Aj _ _) = _; rw [ej]) rfl (show i < jobs.length by omega)) rfl rfl
       | 7, _ =>
        intro val w1 a hb ha hd;have e6 : val 6 = _ := hd 6 (memB_mem.1 rfl);have ha := ha.s1 (d := 81) rfl e6
        exact hs_val ha rfl rfl (ld_3 rfl (below_load hb hjc)) rfl rfl
       | 8, _ =>
        intro val w1 a hb ha hd;have e0 : val 0 = _ := hd 0 (memB_mem.1 rfl);have e3 : val 3 = _ := hd 3 (memB_mem.1 rfl);have e7 : val 7 = _ := hd 7 (memB_mem.1 rfl);have ha := ha.sub (Sub.ins (d := 82) (Sub.ins (d := 78) (Sub.ins (d := 75) (Sub.nil _) (dep_get rfl e0)) (dep_get rfl e3)) (dep_get rfl e7));refine hs_call ha rfl rfl (cA3 cF65 rfl rfl rfl) (by have h_ := may_any (hr.below ((hbw.trans (hb.mono hbw.size)).mono hB)) (Nat.le_trans hB (Nat.le_trans hbw.size hb.size)) hro hwok hcg; rw [← eM] at h_; exact h_) rfl ?_
        rintro e w' ⟨rfl, hb'⟩
        exact ⟨_, rfl, hb', rfl⟩
       | 9, _ =>
        intro val w1 a hb ha hd;have e8 : val 8 = _ := hd 8 (memB_mem.1 rfl);have ha := ha.s1 (d := 83) rfl e8
        exact hs_val ha rfl rfl (x_move rfl) rfl rfl
       | 10, _ =>
        intro val w1 a hb ha hd;have e9 : val 9 = _ := hd 9 (memB_mem.1 rfl);have ha := ha.s1 (d := 74) rfl e9
        exact hs_val ha rfl rfl (x_extract rfl rfl) rfl rfl
       | 11, _ =>
        intro val w1 a hb ha hd;have e9 : val 9 = _ := hd 9 (memB_mem.1 rfl);have ha := ha.s1 (d := 74) rfl e9
        exact hs_val ha rfl rfl (x_extract rfl rfl) rfl rfl
       | 12, _ =>
        intro val w1 a hb ha hd;have e10 : val 10 = _ := hd 10 (memB_mem.1 rfl);have ha := ha.s1 (d := 84) rfl e10
        exact hs_val ha rfl rfl (x_assign rfl) rfl rfl
       | k + 13, h => exact absurd h (by omega)
      ·intro val wR15 hb halc hd
       have e0 : val 0 = _ := hd 0 (by omega)
       have e1 : val 1 = _ := hd 1 (by omega)
       have e2 : val 2 = _ := hd 2 (by omega)
       have e3 : val 3 = _ := hd 3 (by omega)
       have e4 : val 4 = _ := hd 4 (by omega)
       have e5 : val 5 = _ := hd 5 (by omega)
       have e6 : val 6 = _ := hd 6 (by omega)
       have e7 : val 7 = _ := hd 7 (by omega)
       have e8 : val 8 = _ := hd 8 (by omega)
       have e9 : val 9 = _ := hd 9 (by omega)
       have e10 : val 10 = _ := hd 10 (by omega)
       have e11 : val 11 = _ := hd 11 (by omega)
       have e12 : val 12 = _ := hd 12 (by omega)
       refine EL.ends (cs := [_, _, _, _, _, _, _, _, _, _, _, _, _]) ⟨e0, e1, e2, e3, e4, e5, e6, e7, e8, e9, e10, e11, e12, trivial⟩ rfl ?_;replace q1 := q1.bl hb;replace q4 := q4.bl hb;replace q5 := q5.bl hb;replace hbw := bo_ hbw hb;clear hb;refine EL.as rfl rfl (EL.nil (EX.seq (EC.seq (EC.region (EL.mv rfl rfl (EL.val (x_not rfl) rfl (EL.nil (EX.seq ?_))))))))
       cases hmay : M.1
       ·
        refine EC.yes rfl (EC.seq (EC.region (EL.mv rfl rfl (EL.as rfl rfl (EL.as rfl rfl (EL.as rfl rfl (EL.as rfl rfl (EL.nil (EX.seq ?_)))))))));refine EC.ret (EX.seq_ret (EX.blk_ret (EX.seq_ret (EX.seq_ret (EX.blk_ret (EX.seq_ret ?_))))));have hve : verE ru tanks jobs steps = 0 := by rw [verE, if_neg (fun h => h hy), if_neg (fun h => h hll), if_pos hal]
        have hvt : verT ru tanks jobs steps = tot := by rw [verT, if_pos hve, etot, ejs, hsy]
        have hgo : goT ru (js.getD i 0) sg (steps.getD i stp0).tank.toNat (steps.getD i stp0).wash = none := by rw [← ex, en, Int.toNat_natCast, ← ek]; unfold goT; rw [if_neg (by rw [← eM, hmay]; decide)]
        rw [ver_no hlt hls hgo] at htot
        exact EX.done (res4t rfl rfl rfl rfl rfl) ⟨ver_t hve (hvt.trans htot.symm), hbw⟩
       ·
        refine EC.no rfl (EC.skip (EX.seq ?_));obtain ⟨bj, oj, ej, _, hjc⟩ := ints_cells jobs i (by omega) wR15 B _ _ _ (hv.below (hbw.mono hB))
        rw [show jobs.getD i 0 = ((js.getD i 0 : Nat) : Int) by have h_ := jsI_at (js := js) hlt; rwa [hj1] at h_] at hjc
        have hlok := loadT_ok hwok hro (js.getD i 0);have lt_1 := q1.lt;have lt_4 := q4.lt;have lt_5 := q5.lt;refine EC.regionP [[], [], [], [2], [2, 3], [], [], [5, 6], [5, 6, 7], [1, 2, 3, 4, 5, 6, 7, 8], [0, 1, 2, 3, 4, 5, 6, 7, 8, 9], [0, 1, 2, 3, 4, 5, 6, 7, 8, 9, 10]] 10 [] (phi (fun i_ r => match i_ with | 0 => r 0 = .pointer (some ⟨g5, 0 + n * 32, none⟩) | 1 => r 1 = .agg #[.slice Al ru.levels.length cl, .int .i64 ru.fade.lo, .int .i64 ru.fade.hi, .slice Aa ru.allow.length ca, .slice Ap ru.apart.length cp, .slice Ak ru.kinds.length ck] | 2 => r 2 = .pointer (some ⟨g5, 0 + n * 32, none⟩) | 3 => r 3 = .pointer (some ⟨g5, 0 + n * 32, none⟩) | 4 => r 4 = .agg (tkC (wayT ru (sg.getD n []) k)).toArray | 5 => r 5 = .slice Aj jobs.length cj | 6 => r 6 = .int .i64 (i : Nat) | 7 => r 7 = .pointer (some ⟨bj, oj + i, none⟩) | 8 => r 8 = .int .i64 ((js.getD i 0) : Nat) | 9 => r 9 = .agg (tkC (loadT ru (wayT ru (sg.getD n []) k) (js.getD i 0))).toArray | _ => True) []) (by kernel_rfl) rfl rfl (phi_nil) (fun i_ hi_ => ?_) ?_
        ·match i_, hi_ with
         | 0, _ =>
          intro val w1 a hb ha hd;have ha := ha.s0 (d := 16) rfl
          exact hs_val ha rfl rfl (x_move rfl) rfl rfl
         | 1, _ =>
          intro val w1 a hb ha hd;have ha := ha.s0 (d := 12) rfl
          exact hs_val ha rfl rfl (ld_116 rfl ((q4.below hb q4.lt).at (j := 0) rfl) ((q4.below hb q4.lt).at (j := 1) rfl) ((q4.below hb q4.lt).at (j := 2) rfl) ((q4.below hb q4.lt).at (j := 3) rfl) ((q4.below hb q4.lt).at (j := 4) rfl) ((q4.below hb q4.lt).at (j := 5) rfl)) rfl rfl
         | 2, _ =>
          intro val w1 a hb ha hd;have ha := ha.s0 (d := 16) rfl
          exact hs_val ha rfl rfl (x_move rfl) rfl rfl
         | 3, _ =>
          intro val w1 a hb ha hd;have e2 : val 2 = _ := hd 2 (memB_mem.1 rfl);have ha := ha.s1 (d := 91) rfl e2
          exact hs_val ha rfl rfl (x_nilCheck rfl) rfl rfl
         | 4, _ =>
          intro val w1 a hb ha hd;have e3 : val 3 = _ := hd 3 (memB_mem.1 rfl);have ha := ha.s1 (d := 92) rfl e3
          exact hs_val ha rfl rfl (x_loadA rfl (((q5.below hb q5.lt)).range (by rw [Nat.zero_add]; have h_ := tk_at hsg2.fl hn3; rwa [hgs] at h_)) Try.underlying120 rfl (sz_120.trans (congrArg some (tkC_8 hwok.n8).symm))) rfl rfl
         | 5, _ =>
          intro val w1 a hb ha hd;have ha := ha.s0 (d := 2) rfl
          exact hs_val ha rfl rfl (x_move rfl) rfl rfl
         | 6, _ =>
          intro val w1 a hb ha hd;have ha := ha.s0 (d := 14) rfl
          exact hs_val ha rfl rfl (x_move rfl) rfl rfl
         | 7, _ =>
          intro val w1 a hb ha hd;have e5 : val 5 = _ := hd 5 (memB_mem.1 rfl);have e6 : val 6 = _ := hd 6 (memB_mem.1 rfl);have ha := ha.s2 (d := 95) (e := 94) rfl e6 rfl e5
          exact hs_val ha rfl rfl (ix_22 (by show some (Value.slice Aj _ _) = _; rw [ej]) rfl (show i < jobs.length by omega)) rfl rfl
         | 8, _ =>
          intro val w1 a hb ha hd;have e7 : val 7 = _ := hd 7 (memB_mem.1 rfl);have ha := ha.s1 (d := 96) rfl e7
          exact hs_val ha rfl rfl (ld_3 rfl (below_load hb hjc)) rfl rfl
         | 9, _ =>
          intro val w1 a hb ha hd;have e1 : val 1 = _ := hd 1 (memB_mem.1 rfl);have e4 : val 4 = _ := hd 4 (memB_mem.1 rfl);have e8 : val 8 = _ := hd 8 (memB_mem.1 rfl);have ha := ha.sub (Sub.ins (d := 97) (Sub.ins (d := 93) (Sub.ins (d := 90) (Sub.nil _) (dep_get rfl e1)) (dep_get rfl e4)) (dep_get rfl e8));refine hs_call ha rfl rfl (cA3 cF73 rfl rfl rfl) (load_any (hr.below ((hbw.trans (hb.mono hbw.size)).mono hB)) hro hwok hcg) rfl ?_
          rintro e w' ⟨rfl, hb'⟩
          exact ⟨_, rfl, hb', rfl⟩
         | k + 10, h => exact absurd h (by omega)
        ·intro val wR18 hb halc hd
         have e0 : val 0 = _ := hd 0 (by omega)
         have e1 : val 1 = _ := hd 1 (by omega)
         have e2 : val 2 = _ := hd 2 (by omega)
         have e3 : val 3 = _ := hd 3 (by omega)
         have e4 : val 4 = _ := hd 4 (by omega)
         have e5 : val 5 = _ := hd 5 (by omega)
         have e6 : val 6 = _ := hd 6 (by omega)
         have e7 : val 7 = _ := hd 7 (by omega)
         have e8 : val 8 = _ := hd 8 (by omega)
         have e9 : val 9 = _ := hd 9 (by omega)
         refine EL.ends (cs := [_, _, _, _, _, _, _, _, _, _]) ⟨e0, e1, e2, e3, e4, e5, e6, e7, e8, e9, trivial⟩ rfl ?_;replace q1 := q1.bl hb;replace q4 := q4.bl hb;replace q5 := q5.bl hb;replace hbw := bo_ hbw hb;clear hb;refine EL.val (x_nilCheck rfl) rfl ?_;refine EL.store (l' := tkC (loadT ru (wayT ru (sg.getD n []) k) (js.getD i 0))) rfl rfl q5 sz_120 rfl ((lenV_eq _).trans (tkC_8 (hlok).n8)) (by rw [lenV_eq, Nat.ble_eq, hsg2.fl.len]; omega) (tkC_one _) ?_
         intro w13 hq13 hg13;rw [Nat.zero_add, tk_set hsg2.fl hn3 (hlok).n8] at hq13;rw [set_over] at hq13;replace q1 := q1.gr hg13 n1_5;replace q4 := q4.gr hg13 n4_5;replace hbw := below_store hbw hg13 bhbw_5;replace q5 := hq13;clear hg13 hq13;refine EL.nil (EX.blk (EX.seq (EC.region ?_)));refine EL.val (x_add rfl rfl (c := ((i + 1 : Nat) : Int)) ((IntWalk.i64_in _ ⟨by first | omega | (simp only; omega), by first | omega | (simp only; omega)⟩).trans (by first | omega | (simp only; omega)))) rfl ?_
         refine EL.mv rfl rfl (EL.nil ?_);have hgo : goT ru (js.getD i 0) sg (steps.getD i stp0).tank.toNat (steps.getD i stp0).wash = some (sg.set n (loadT ru (wayT ru (sg.getD n []) k) (js.getD i 0))) := by rw [← ex, en, Int.toNat_natCast, ← ek]; unfold goT; rw [if_pos (by rw [← eM]; exact hmay)]
         rw [ver_yes hlt hls hgo, ← ex, ← ek] at htot;have hkb := kcost_bd hro k;have hnb : 0 ≤ numK k ∧ numK k ≤ 1 := by unfold numK; split <;> omega
         refine EX.roundD (i + 1, sg.set n (loadT ru (wayT ru (sg.getD n []) k) (js.getD i 0)), wa + numK k, co + kcost ru k) ⟨rfl, rfl, rfl, trivial⟩ (by repeat first | with_reducible exact .refl _ | refine sp_ rfl ?_ | exact .refl _ | refine sd_ rfl ?_ | refine sn_ ?_) ⟨hlt, hsg.set hlok, by simp only; omega, by simp only; omega, htot, q1, q4, q5, hbw⟩ (by simp only; omega)
    ·
     have hxe : i = js.length := by omega
     refine EC.seq (EC.region ?_);refine EL.val (x_lss rfl rfl (decide_eq_false (show ¬(((i : Nat) : Int) < ((steps.length : Nat) : Int)) by omega))) rfl ?_
     refine EL.nil (EX.seq (EC.seq (EC.no rfl (EC.exit (EX.seq_exit (EX.seq_exit (EX.blk_here (EX.seq (EC.seq ?_)))))))));refine EC.region (EL.mv rfl rfl (EL.mv rfl rfl (EL.as rfl rfl (EL.as rfl rfl (EL.as rfl rfl (EL.as rfl rfl (EL.nil (EX.seq (EC.ret ?_)))))))));have hve : verE ru tanks jobs steps = 0 := by rw [verE, if_neg (fun h => h hy), if_neg (fun h => h hll), if_pos hal]
     have hvt : verT ru tanks jobs steps = tot := by rw [verT, if_pos hve, etot, ejs, hsy]
     rw [ver_end (by omega)] at htot
     exact EX.done (res4t rfl rfl rfl rfl rfl) ⟨ver_t hve (hvt.trans htot.symm), hbw⟩
  ·
   refine EL.val (x_neq (r := true) rfl rfl (decide_eq_true (by omega))) rfl ?_
   refine EL.as rfl rfl (EL.nil (EX.seq (EC.yes rfl (EC.seq (EC.region (EL.as rfl rfl (EL.as rfl rfl (EL.as rfl rfl (EL.as rfl rfl ?_)))))))));refine EL.nil (EX.seq (EC.ret (EX.blk_ret (EX.seq_ret ?_))));have hve : verE ru tanks jobs steps = 4 := by rw [verE, if_neg (fun h => h hy), if_pos hll]
   have hvn : verE ru tanks jobs steps ≠ 0 := by rw [hve]; decide
   exact EX.done (res4t rfl rfl rfl rfl rfl) ⟨ver_t hve (by rw [verT, if_neg hvn]), hbw⟩
 ·
  refine EL.val (x_neq (r := true) rfl rfl (decide_eq_true hy)) rfl (EL.as rfl rfl (EL.nil (EX.seq (EC.yes rfl (EC.seq (EC.region (EL.mv rfl rfl (EL.as rfl rfl (EL.as rfl rfl ?_)))))))));refine EL.as rfl rfl (EL.as rfl rfl (EL.nil (EX.seq (EC.ret (EX.blk_ret (EX.seq_ret ?_))))));have hve : verE ru tanks jobs steps = yardE ru tanks jobs := by rw [verE, if_pos hy]
  have hvn : verE ru tanks jobs steps ≠ 0 := by rw [hve]; exact hy
  exact EX.done (res4t rfl rfl rfl rfl rfl) ⟨ver_t hve (by rw [verT, if_neg hvn]), hbw⟩
def numW : List Int → Int
 | [] => 0
 | k :: l => numK k + numW l
def costW (ru : Rules) : List Int → Int
 | [] => 0
 | k :: l => kcost ru k + costW ru l
theorem numW_app : ∀ (a b : List Int), numW (a ++ b) = numW a + numW b
 | [], b => by rw [List.nil_append, numW]; omega
 | k :: a, b => by rw [List.cons_append, numW, numW, numW_app a b]; omega
theorem numK_bd (k : Int) : 0 ≤ numK k ∧ numK k ≤ 1 := by
 unfold numK
 split <;> omega
theorem numW_bd : ∀ (l : List Int), 0 ≤ numW l ∧ numW l ≤ l.length
 | [] => by rw [numW]; exact ⟨Int.le_refl _, Int.le_refl _⟩
 | k :: l => by
  have h1 := numW_bd l;have h2 := numK_bd k;rw [numW, List.length_cons]
  omega
theorem take_snoc {α : Type} {l : List α} {d : α} {i : Nat} (h : i < l.length) : l.take (i + 1) = l.take i ++ [l.getD i d] := by
 rw [List.take_succ_eq_append_getElem h, getD_in h]
theorem numW_snoc {l : List Int} {i : Nat} (h : i < l.length) : numW (l.take (i + 1)) = numW (l.take i) + numK (l.getD i 0) := by
 rw [take_snoc (d := 0) h, numW_app, numW, numW]
 omega
/-! ### Ways through a yard of one tank -/
def runW (ru : Rules) : List Nat → List Int → List (List Tr) → Prop
 | [], [], _ => True
 | c :: js, k :: ws, s => k ∈ kindsL ru.kinds.length ∧ ∃ u, goT ru c s 0 k = some u ∧ runW ru js ws u
 | _, _, _ => False
def one (k : Int) : St := ⟨0, k⟩
theorem runW_len {ru : Rules} : ∀ {js : List Nat} {ws : List Int} {s : List (List Tr)}, runW ru js ws s → ws.length = js.length
 | [], [], _, _ => rfl
 | c :: js, k :: ws, s, h => by
  obtain ⟨_, u, _, h⟩ := h;rw [List.length_cons, List.length_cons, runW_len h]
theorem compl_way {ru : Rules} : ∀ (js : List Nat) (s : List (List Tr)) (p : Pl), ∀ y ∈ compl (extY (yardOf ru 1)) js (s, p), ∃ ws, runW ru js ws s ∧ y.2 = ⟨p.steps ++ ws.map one, p.washes + numW ws, p.cost + costW ru ws⟩
 | [], s, p, y, hy => by
  rw [compl, List.mem_singleton] at hy;subst hy;refine ⟨[], trivial, ?_⟩
  simp [numW, costW]
 | c :: js, s, p, y, hy => by
  rw [compl, List.mem_flatMap] at hy;obtain ⟨x, hx, hy⟩ := hy;obtain ⟨i, k, u, hi, hk, hg, rfl⟩ := extY_mem.1 hx;have hi1 : i < 1 := hi;obtain rfl : i = 0 := by omega
  obtain ⟨ws, hw, e⟩ := compl_way js u _ y hy;refine ⟨k :: ws, ⟨hk, u, hg, hw⟩, ?_⟩;rw [e, numW, costW];have e2 : (yardOf ru 1).cost k = kcost ru k := rfl;rw [e2]
  simp only [addS, List.append_assoc, List.map_cons, List.cons_append, List.nil_append, Int.add_assoc]
  rfl
theorem way_compl {ru : Rules} : ∀ (js : List Nat) (ws : List Int) (s : List (List Tr)) (p : Pl), runW ru js ws s → ∃ y ∈ compl (extY (yardOf ru 1)) js (s, p), y.2 = ⟨p.steps ++ ws.map one, p.washes + numW ws, p.cost + costW ru ws⟩
 | [], [], s, p, _ => ⟨(s, p), by rw [compl]; exact List.mem_singleton.2 rfl, by simp [numW, costW]⟩
 | c :: js, k :: ws, s, p, h => by
  obtain ⟨hk, u, hg, h⟩ := h;obtain ⟨y, hy, e⟩ := way_compl js ws u (addS p ⟨0, k⟩ (numK k) (kcost ru k)) h;refine ⟨y, ?_, ?_⟩
  ·rw [compl, List.mem_flatMap]
   exact ⟨_, extY_mem.2 ⟨0, k, u, Nat.zero_lt_one, hk, hg, rfl⟩, hy⟩
  ·rw [e, numW, costW]
   simp only [addS, List.append_assoc, List.map_cons, List.cons_append, List.nil_append, Int.add_assoc]
   rfl
/-! ### The best plan -/
def st3 (ru : Rules) (l : List Ev) : List (List Tr) := [tkE ru l, tank0, tank0]
structure PlanOk (ru : Rules) (l : List Ev) (js ws : List Int) (c : Int) : Prop where
 run : runW ru (js.map Int.toNat) ws (st3 ru l)
 cost : c = costW ru ws
 best : ∀ vs, runW ru (js.map Int.toNat) vs (st3 ru l) → numW ws ≤ numW vs
 is : ∃ p, IsBest (compl (extY (yardOf ru 1)) (js.map Int.toNat) (st3 ru l, pl0)) p ∧ p.washes = numW ws
theorem plan_ok {ru : Rules} {l : List Ev} {js : List Int} {p : Pl} (h : IsBest (compl (extY (yardOf ru 1)) (js.map Int.toNat) (st3 ru l, pl0)) p) : PlanOk ru l js (p.steps.map (·.wash)) p.cost := by
 obtain ⟨⟨s', hs'⟩, hb⟩ := h;obtain ⟨ws, hw, e⟩ := compl_way _ _ _ _ hs';have e1 : p.steps = ws.map one := by rw [show p = _ from e]; rfl
 have e2 : p.washes = numW ws := by rw [show p = _ from e]; simp [pl0]
 have e3 : p.cost = costW ru ws := by rw [show p = _ from e]; simp [pl0]
 have e4 : p.steps.map (·.wash) = ws := by
  rw [e1, List.map_map]
  conv => rhs; rw [← List.map_id ws]
  rfl
 rw [e4];refine ⟨hw, e3, fun vs hv => ?_, p, ⟨⟨s', hs'⟩, hb⟩, e2⟩
 obtain ⟨y, hy, e5⟩ := way_compl _ vs _ pl0 hv;have h1 := cmpP_washes (hb y hy);rw [e2, e5] at h1
 simpa [pl0] using h1
theorem kinds_bd {K : Nat} {k : Int} (h : k ∈ kindsL K) : -1 ≤ k ∧ k < K := by
 rcases kinds_in h with rfl | ⟨j, hj, rfl⟩ <;> omega
/-! ### Verify, one tank -/
theorem fill_one (ru : Rules) (l : List Ev) : fillF ru [l] 1 = st3 ru l := by
 simp [fillF, st3, List.range_succ]
theorem jobs_take {ru : Rules} {js : List Int} (h : jobsE ru js 10 = 0) (k : Nat) : jobsE ru (js.take k) 10 = 0 := by
 unfold jobsE at h ⊢
 split at h
 ·omega
 ·rename_i h1
  split at h
  ·rename_i h2
   rw [if_neg (by rw [List.length_take]; omega), if_pos]
   rw [List.all_eq_true] at h2 ⊢
   exact fun x hx => h2 x (List.mem_of_mem_take hx)
  ·omega
theorem OwnTs.other {w w' : World} {n m c g gn : Nat} {l : List Tk} {cs : Array Value} (h : OwnTs w n (.slice (some ⟨gn, 0, none⟩) m c) l) (hq : Blk w g 62 cs) (hn : gn ≠ g) (hg : w.grownBy w' (some g)) : OwnTs w' n (.slice (some ⟨gn, 0, none⟩) m c) l :=
 ⟨own_bx h.own (fun k hk => by have e : gn = k := by simpa [Value.ownBlock] using hk
                               omega) hg, fun x hx => own_type (h.res x hx) hq rfl hg, fun x hx => own_type (h.aft x hx) hq rfl hg⟩
theorem rle_info : (Try.prog.info? 29).map (fun i => (i.zero, i.size, i.bytes)) = some (some (.slice none 0 0), 1, 24) := by kernel_rfl
theorem rle_elem : Elem Try.prog 96 29 1 24 := Elem.mk' Try.underlying96 rle_info rfl (by omega)
/-- histories of one's own -/
structure OwnLE (W : World) (base : Nat) (v : Value) (ls : List (List Ev)) (us : List Value) : Prop where
 len : us.length = ls.length
 own : W.ownsRow base 29 1 v ls.length us
 rows : ∀ i, i < ls.length → W.ownsRow base 50 2 (us.getD i undef) (ls.getD i []).length (evsC (ls.getD i []))
section
variable {W W' : World} {base : Nat} {v : Value} {ls : List (List Ev)} {us : List Value}
theorem OwnLE.below (h : OwnLE W base v ls us) (hb : Below W.heap.size W W') : OwnLE W' base v ls us := ⟨h.len, own_below h.own hb (Nat.le_refl _), fun i hi => own_below (h.rows i hi) hb (Nat.le_refl _)⟩
theorem OwnLE.rd (h : OwnLE W base v ls us) : RdLL evC 2 W W.heap.size v ls us := ⟨h.len, Rd.of_own h.own, fun i hi => Rd.of_own (h.rows i hi)⟩
theorem OwnLE.push {v' u : Value} {l : List Ev} (h : OwnLE W base v ls us) (ho : W'.ownsRow base 29 1 v' (ls.length + 1) (us ++ [u])) (hg : W.grownBy W' v.ownBlock) (hu : W.ownsRow base 50 2 u l.length (evsC l)) : OwnLE W' base v' (ls ++ [l]) (us ++ [u]) := by
 refine ⟨by simp [h.len], by rw [List.length_append]; exact ho, fun i hi => ?_⟩
 have hi' : i < ls.length + 1 := by simpa using hi
 by_cases e : i < ls.length
 ·have e1 : (us ++ [u]).getD i undef = us.getD i undef := by simp [List.getD, List.getElem?_append_left, h.len, e]
  have e2 : (ls ++ [l]).getD i [] = ls.getD i [] := by simp [List.getD, List.getElem?_append_left, e]
  rw [e1, e2]
  exact own_grown (h.rows i e) h.own rfl hg
 ·have e0 : i = ls.length := by omega
  subst e0;have e1 : (us ++ [u]).getD ls.length undef = u := by simp [List.getD, ← h.len]
  have e2 : (ls ++ [l]).getD ls.length [] = l := by simp [List.getD]
  rw [e1, e2]
  exact own_grown hu h.own rfl hg
end
theorem all_any {tt : List (List Ev)} {vt : Value} {ut : List Value} {w : World} {B : Nat} (ht : RdLL evC 2 w B vt tt ut) (hB : B ≤ w.heap.size) (htn : tt.length ≤ 1000) (htr : ∀ i, i < tt.length → (tt.getD i []).length ≤ 1048576) :
  Calls Try.prog 39 #[vt] w fun e w' => (∃ v' us, e = .returned v' ∧ RdLL evC 2 w' w'.heap.size v' tt us) ∧ Below w.heap.size w w' := by
 obtain ⟨At, ct, rfl, _⟩ := ht.rd.shape;have hbw := Below.refl w.heap.size w;refine EC.enter 21 Try.func39 rfl rfl rfl (EC.seq (EC.region (EL.as rfl rfl (EL.nil (EX.seq (EC.seq (EC.region (EL.newS (bs_96_0) rfl ?_))))))));intro g1 w1 q1 hb1 hg1 hl1;have bhbw_1 := Nat.le_trans hbw.size hg1;have hbg1 : w.heap.size ≤ g1 := Nat.le_trans hbw.size hg1;replace hbw := bo_ hbw hb1;clear hb1 hg1 hl1;have hL : OwnLE w1 w.heap.size (.slice (some ⟨g1, 0, none⟩) 0 0) [] [] := ⟨rfl, own_empty 1 q1 hbg1, fun i hi => absurd hi (by simp)⟩
 refine EL.as rfl rfl (EL.nil (EX.seq (EC.seq (EC.seq (EC.region (EL.as rfl rfl (EL.nil (EX.seq (EC.block ?_)))))))));refine EC.loopD [3, 4, 6, 7, 8, 9, 10, 11, 12, 13, 14, 15, 16, 17, 18, 19] (fun x : Nat × Value × List Value => [(4, .int .i64 (x.1 : Nat)), (3, x.2.1)]) (fun x W => x.1 ≤ tt.length ∧ OwnLE W w.heap.size x.2.1 (tt.take x.1) x.2.2 ∧ Below w.heap.size w W) (fun x => tt.length - x.1) (0, .slice (some ⟨g1, 0, none⟩) 0 0, []) ⟨Nat.zero_le _, hL, hbw⟩ ⟨rfl, rfl, trivial⟩ ?_
 clear hbw hL
 rintro ⟨i, v3, us⟩ wx ⟨hi, hL, hbw⟩
 dsimp only at hi hL
 by_cases hlt : i < tt.length
 ·
  obtain ⟨bt, ot, eAt, _, htc⟩ := vals_cells ut i (by rw [ht.len]; exact hlt) wx B _ _ _ (ht.rd.below (hbw.mono hB))
  have hrr := ht.row i hlt;refine EC.seq (EC.seq (EC.region (EL.mv rfl rfl (EL.mv rfl rfl (EL.val (ln_96 rfl) rfl ?_)))));refine EL.val (x_lss rfl rfl (decide_eq_true (show (((i : Nat) : Int) < ((tt.length : Nat) : Int)) by omega))) rfl ?_
  refine EL.nil (EX.seq (EC.yes rfl (EC.skip (EX.seq (EC.seq (EC.block (EC.region (EL.mv rfl rfl (EL.mv rfl rfl ?_)))))))));refine EL.mv rfl rfl ?_;refine EL.val (ix_96 (by show some (Value.slice At _ _) = _; rw [eAt]) rfl hlt) rfl ?_
  refine EL.val (ld_29 rfl htc) rfl (EL.call (cA1 cF15 rfl) rfl (events_any (hrr.below (hbw.mono hB)) (Nat.le_trans hB hbw.size) (htr i hlt)) ?_)
  rintro e w2 ⟨⟨v2, rfl, ho⟩, hc2⟩
  refine ⟨_, rfl, ?_⟩;replace ho := own_less ho hbw.size;replace hL := hL.below hc2;replace hbw := bo_ hbw hc2;clear hc2;obtain ⟨Av, cv, rfl, _⟩ := (Rd.of_own ho).shape;refine EL.newS (bs_96_1 rfl) rfl ?_;intro g3 w3 q3 hb3 hg3 hl3;have bhbw_3 := Nat.le_trans hbw.size hg3;have hbg3 : w.heap.size ≤ g3 := Nat.le_trans hbw.size hg3;replace hL := hL.below hb3;replace ho := own_below ho hb3 (Nat.le_refl _);replace hbw := bo_ hbw hb3;clear hb3 hg3 hl3;refine EL.push rle_elem rfl rfl hL.own (rd_one (l := [.slice Av (tt.getD i []).length cv]) q3 rfl) (by intro u hu; simp only [List.mem_cons, List.not_mem_nil, or_false] at hu; subst hu; rfl) (by rw [List.length_take]; omega) rfl hbw.size rfl ?_
  intro v9 w9 ho9 hgr hb_ hat;have hL9 := hL.push ho9 hgr ho;replace hbw := hbw.trans hb_;clear hL hgr hb_ hat ho ho9;refine EL.as rfl rfl (EL.nil (EX.blk (EX.seq (EC.region (EL.mv rfl rfl ?_)))));refine EL.val (x_add rfl rfl (c := ((i + 1 : Nat) : Int)) ((IntWalk.i64_in _ ⟨by first | omega | (simp only; omega), by first | omega | (simp only; omega)⟩).trans (by first | omega | (simp only; omega)))) rfl ?_
  refine EL.as rfl rfl (EL.nil ?_);refine EX.roundD (i + 1, v9, us ++ [.slice Av (tt.getD i []).length cv]) ⟨rfl, rfl, trivial⟩ (by repeat first | with_reducible exact .refl _ | refine sp_ rfl ?_ | exact .refl _ | refine sd_ rfl ?_ | refine sn_ ?_) ⟨hlt, by simp only; rw [List.take_succ_eq_append_getElem hlt, ← getD_in (d := []) hlt]; exact hL9, hbw⟩ (by simp only; omega)
 ·
  have hxe : i = tt.length := by omega
  rw [hxe, List.take_length] at hL;refine EC.seq (EC.seq (EC.region (EL.mv rfl rfl (EL.mv rfl rfl (EL.val (ln_96 rfl) rfl ?_)))));refine EL.val (x_lss rfl rfl (decide_eq_false (show ¬(((i : Nat) : Int) < ((tt.length : Nat) : Int)) by omega))) rfl ?_
  refine EL.nil (EX.seq (EC.no rfl (EC.exit (EX.seq_exit (EX.seq_exit (EX.blk_here (EX.seq (EC.seq (EC.region ?_)))))))));refine EL.mv rfl rfl (EL.as rfl rfl (EL.nil (EX.seq (EC.ret ?_))))
  exact EX.done (res1 rfl rfl) ⟨⟨_, us, rfl, hL.rd⟩, hbw⟩
theorem OwnTs.push {w w' : World} {n : Nat} {v v' : Value} {l : List Tk} {x : Tk} (h : OwnTs w n v l) (ho : w'.ownsRow 0 62 2 v' (l.length + 1) (rksC n l ++ rkC n x)) (hg : w.grownBy w' v.ownBlock) (h1 : w.ownsRow 0 24 2 (.slice x.2.1.1 n x.2.1.2) n (bdsC x.1.res)) (h2 : w.ownsRow 0 3 1 (.slice x.2.2.1 n x.2.2.2) n (ints x.1.aft)) : OwnTs w' n v' (l ++ [x]) := by
 refine ⟨?_, fun y hy => ?_, fun y hy => ?_⟩
 ·rw [List.length_append, show rksC n (l ++ [x]) = rksC n l ++ rkC n x by simp [rksC]]
  exact ho
 ·rcases List.mem_append.1 hy with hy | hy
  ·exact own_grown (h.res y hy) h.own rfl hg
  ·rw [List.mem_singleton.1 hy]; exact own_grown h1 h.own rfl hg
 ·rcases List.mem_append.1 hy with hy | hy
  ·exact own_grown (h.aft y hy) h.own rfl hg
  ·rw [List.mem_singleton.1 hy]; exact own_grown h2 h.own rfl hg
end Go.Proofs.Ytdkedhcbdbpccaa
